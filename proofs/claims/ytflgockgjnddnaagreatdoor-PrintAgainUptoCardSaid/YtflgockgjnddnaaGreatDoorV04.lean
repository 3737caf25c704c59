/- A part of the proof: plain logic, contracts and laws over the given program. -/
import Derived.Scope
import Derived.RangeFuncRecord
import Derived.RangeFuncCalls
import Derived.RangeFuncLeaves
import Derived.Laws.Sem
import Derived.RecoverIn
import Derived.Test.YtflgockgjnddnaaGreatDoorV03
set_option linter.unusedVariables false
set_option linter.unusedSimpArgs false
set_option linter.all false
set_option maxRecDepth 100000
set_option maxHeartbeats 16000000
section
namespace Go.PM
theorem Wx {P:Program} {b:Go.Frame} {a:Act} {k:List Item} {cs:List Go.Frame} {w:World} {c:Code} :
  step P (lone (b.atR a (.code (.scope c)::k)) cs w)=.next (lone (b.atR a (.code c::.inScope c::k)) cs w) :=
 step_lone_go (by simp [stepG,stepG.exec,Go.Frame.atR])
theorem Zhb {P:Program} {b:Go.Frame} {a:Act} {k:List Item} {cs:List Go.Frame} {w:World} {c:Code} :
  step P (lone (b.atR a (.inScope c::k)) cs w)=.next (lone (b.atR a k) cs w) :=
 step_lone_go (by simp [stepG,stepG.exec,Go.Frame.atR])
theorem Zni {F:Fence} {n:Nat} {P:Program} {Q:Exit→Act→World→Prop} {a:Act} {w:World} {c:Code} (h:c.wpIn F n P (Exit.noGoto Q) a w):(Code.scope c).wpIn F n P Q a w:=by
 intro b k cs hro hb hr
 have h0:(lone (b.atR a (.code (.scope c)::k)) cs w).fenced P F:=fenced_calm hb hr rfl
 obtain ⟨e,a₁,w₁,hq,harr⟩:=h b (.inScope c::k) cs hro hb hr
 cases e with
 | normal=>exact ⟨.normal,a₁,w₁,hq,.head h0 Wx (StepsIn.trans harr (.one (fenced_calm hb hr rfl) Zhb))⟩
 | exit id =>
  have hx:exitTo id (.inScope c::k)=exitTo id k:=by simp [exitTo]
  exact ⟨.exit id,a₁,w₁,hq,fun k' hk=>.head h0 Wx (harr.1 k' (by rw [hx];exact hk)),
   fun hr' hk=>let ⟨k₁,h1,h2⟩:=harr.2 hr' (by rw [hx];exact hk);⟨k₁,h1,.head h0 Wx h2⟩⟩
 | goto l=>exact hq.elim
 | ret=>exact ⟨_,a₁,w₁,hq,.of_steps (.one h0 Wx) harr⟩
 | panic ch=>exact ⟨_,a₁,w₁,hq,.of_steps (.one h0 Wx) harr⟩
 | outgrown=>exact ⟨_,a₁,w₁,hq,.of_steps (.one h0 Wx) harr⟩
def Zpc (N:Nat):List Oper→Bool
 | []=>true
 | o::l=>(match o.dst with | some d=>Nat.ble (d+1) N | none=>true) && Zpc N l
def ZM (N:Nat):Code→Bool
 | .region _ ops draw=>Zpc N ops.toList && (!draw || (match Zis ops.toList with | none=>(match ZlK (Us ops.toList []) none (ZS 0 ops.toList) with | true=>Zo4 ops.toList | false=>ZuA ops.toList) | some h=>Zo7 ops.toList h))
 | .seq a b=>ZM N a && ZM N b
 | .cond _ a b=>ZM N a && ZM N b
 | .block _ b=>ZM N b
 | .loop b=>ZM N b
 | .scope b=>ZM N b
 | .rangeFunc _ ps a b=>ps.toList.all (fun p=>Nat.ble (p+1) N) && ZM N a && ZM N b
 | _=>true
theorem Zau {N:Nat}:∀{l:List Oper},Zpc N l=true→∀o∈l,∀d,o.dst=some d→d<N
 | [],_,o,ho=>by cases ho
 | x::l,h,o,ho=>by
  simp only [Zpc,Tj] at h
  rcases Tv.1 ho with rfl | ho
  ·intro d hd
   have:=h.1
   rw [hd] at this
   exact Tb this
  ·exact Zau h.2 o ho
theorem ZaV {ks:List Nat}:∀{l:List Oper},XH l ks=true→∀o∈l,∀d,o.dst=some d→d∉ks
 | [],_,o,ho=>by cases ho
 | x::l,h,o,ho=>by
  simp only [XH,Tj] at h
  rcases Tv.1 ho with rfl | ho
  ·intro d hd hm
   have:=h.1
   rw [hd] at this
   simp only [TZ] at this
   rw [(Y7 _ _).2 hm] at this;cases this
  ·exact ZaV h.2 o ho
def Kept (ks:List Nat) (t0 t:Array Value):Prop:=∀i,i∈ks→t.getD i Go.undef=t0.getD i Go.undef
theorem Kept.set {ks:List Nat} {t0 t:Array Value} (h:Kept ks t0 t) {d:Nat} (hd:d∉ks) (v:Value):Kept ks t0 (t.setIfInBounds d v):=fun i hi=>by
 have hne:d≠i:=fun e=>hd (e ▸ hi)
 rw [← h i hi]
 simp [T5,hne]
theorem Jx {ks ls:List Nat}:∀{l:List Oper},XH l ks=true→XH l ls=true→XH l (ks++ls)=true
 | [],_,_=>rfl
 | o::l,h1,h2=>by
  simp only [XH,Tj] at h1 h2 ⊢
  refine ⟨?_,Jx h1.2 h2.2⟩
  have h1:=h1.1
  have h2:=h2.1
  cases hd:o.dst with
  | none=>rfl
  | some d =>
   rw [hd] at h1 h2
   simp only [TZ] at h1 h2 ⊢
   cases h3:ZjX d (ks++ls) with
   | false=>rfl
   | true =>
    rcases TX.1 ((Y7 _ _).1 h3) with h4 | h4
    ·rw [(Y7 _ _).2 h4] at h1;cases h1
    ·rw [(Y7 _ _).2 h4] at h2;cases h2
theorem ZfI {ks ls:List Nat}:∀{c:Code},YJ ks c=true→YJ ls c=true→YJ (ks++ls) c=true:=by
 intro c
 induction c with
 | region id ops draw=>exact fun h1 h2=>Jx h1 h2
 | seq a b iha ihb=>intro h1 h2;simp only [YJ,Tj] at h1 h2 ⊢;exact ⟨iha h1.1 h2.1,ihb h1.2 h2.2⟩
 | cond c a b iha ihb=>intro h1 h2;simp only [YJ,Tj] at h1 h2 ⊢;exact ⟨iha h1.1 h2.1,ihb h1.2 h2.2⟩
 | block id b ih=>intro h1 h2;exact ih h1 h2
 | loop b ih=>intro h1 h2;exact ih h1 h2
 | scope b ih=>intro h1 h2;exact ih h1 h2
 | _=>intro _ _;rfl
theorem YF:∀c:Code,YJ [] c=true:=by
 intro c
 induction c with
 | region id ops draw =>
  have:∀l:List Oper,XH l []=true:=by
   intro l
   induction l with
   | nil=>rfl
   | cons o l ih=>simp only [XH,ih,Bool.and_true];cases o.dst <;> rfl
  exact this _
 | seq a b iha ihb=>simp [YJ,iha,ihb]
 | cond c a b iha ihb=>simp [YJ,iha,ihb]
 | block id b ih=>exact ih
 | loop b ih=>exact ih
 | scope b ih=>exact ih
 | _=>rfl
section
variable {G:GE} {C:Cx} {e0 e:Env} {σ0 σ:St} {w0 w:World} {a:Act} {f:Frame} {Q:PQ} {ro:Option Nat} {n:Nat} {ds:Nat×List Deferred×Bool} {N:Nat}
theorem ZbT {base:Frame} {tm:Array Value} (hb:FRel G e σ w base tm):∀{live:List Nat} {vs:List PV},(∀(k i:Nat) (x:PV),live[k]?=some i→vs[k]?=some x→VRel G e σ w x (tm.getD i Go.undef))→FRel G e σ w (Zg3 base live vs) tm
 | [],vs,_=>by cases vs <;> exact hb
 | i::is,[],_=>hb
 | i::is,v::vs,h=>by
  intro j
  have ih:=ZbT hb (live:=is) (vs:=vs) fun k i x h1 h2=>h (k+1) i x (by simpa using h1) (by simpa using h2)
  simp only [Zg3]
  by_cases hij:i=j
  ·subst hij;rw [YV];exact h 0 i v (by simp) (by simp)
  ·rw [X8 _ _ hij];exact ih j
theorem Zev {f0:Frame} {tm:Array Value}:∀{keep:List Nat},(∀i,i∈keep→VRel G e σ w (clean (f0 i)) (tm.getD i Go.undef))→FRel G e σ w (Zj9 f0 keep) tm
 | [],_=>fun i=>.undef _
 | i::is,h=>by
  intro j
  simp only [Zj9]
  by_cases hij:i=j
  ·subst hij;rw [YV];exact h i (by simp)
  ·rw [X8 _ _ hij];exact Zev (fun k hk=>h k (Tp _ hk)) j
theorem Zr2 {ks:List Nat} {t0:Array Value} {b:Code} (ihb:∀(Q:PQ) {e:Env} {σ:St} {w:World} {a:Act} {f:Frame},SRel G e σ w→FRel G e σ w f a.tmps→Later e0 σ0 w0 e σ w→a.tmps.size=N→Marks ds e σ w a.defers→Kept ks t0 a.tmps→W C b Q f σ→b.wpIn (fw ro) n G.P (Z9 G e0 σ0 w0 ds N (Kept ks t0) Q) a w)
  (x:Exit) (a:Act) (w:World) (h:Z9 G e0 σ0 w0 ds N (Kept ks t0) (fun e f σ=>match e with | .normal=>W C b Q f σ | e=>Q e f σ) x a w):Exit.then (b.wpIn (fw ro) n G.P (Z9 G e0 σ0 w0 ds N (Kept ks t0) Q)) (Z9 G e0 σ0 w0 ds N (Kept ks t0) Q) x a w:=by
 obtain ⟨pe,f,e,σ,hq,hx,h1,h2,h3,h4,h5,h6⟩:=h
 cases pe with
 | normal=>obtain rfl:x=.normal:=hx;exact ihb Q h1 h2 h3 h4 h5 h6 hq
 | exit id=>obtain rfl:x=.exit id:=hx;exact ⟨.exit id,f,e,σ,hq,rfl,h1,h2,h3,h4,h5,h6⟩
 | goto l=>obtain rfl:x=.goto l:=hx;exact ⟨.goto l,f,e,σ,hq,rfl,h1,h2,h3,h4,h5,h6⟩
 | ret=>obtain rfl:x=.ret:=hx;exact ⟨.ret,f,e,σ,hq,rfl,h1,h2,h3,h4,h5,h6⟩
 | panic p=>obtain ⟨v,rfl,hv⟩:=hx;exact ⟨.panic p,f,e,σ,hq,⟨v,rfl,hv⟩,h1,h2,h3,h4,h5,h6⟩
theorem Znj {Z:Array Value→Prop} {id:Nat} (x:Exit) (a:Act) (w:World) (h:Z9 G e0 σ0 w0 ds N Z (fun e f σ=>match e with | .exit i=>(match Nat.beq i id with | true=>Q .normal f σ | false=>Q (.exit i) f σ) | e=>Q e f σ) x a w) :
  Exit.inBlock id (Z9 G e0 σ0 w0 ds N Z Q) x a w:=by
 obtain ⟨pe,f,e,σ,hq,hx,hrest⟩:=h
 cases pe with
 | normal=>obtain rfl:x=.normal:=hx;exact ⟨.normal,f,e,σ,hq,rfl,hrest⟩
 | exit i =>
  obtain rfl:x=.exit i:=hx
  simp only [Exit.inBlock]
  by_cases hi:i=id
  ·subst hi
   rw [Th rfl]
   simp only [show Nat.beq i i=true from by simp] at hq
   exact ⟨.normal,f,e,σ,hq,rfl,hrest⟩
  ·rw [Te hi]
   have:Nat.beq i id=false:=by
    cases hb:Nat.beq i id with
    | false=>rfl
    | true=>exact absurd (Tn hb) hi
   simp only [this] at hq
   exact ⟨.exit i,f,e,σ,hq,rfl,hrest⟩
 | goto l=>obtain rfl:x=.goto l:=hx;exact ⟨.goto l,f,e,σ,hq,rfl,hrest⟩
 | ret=>obtain rfl:x=.ret:=hx;exact ⟨.ret,f,e,σ,hq,rfl,hrest⟩
 | panic p=>obtain ⟨v,rfl,hv⟩:=hx;exact ⟨.panic p,f,e,σ,hq,⟨v,rfl,hv⟩,hrest⟩
theorem Znk {Z:Array Value→Prop} (x:Exit) (a:Act) (w:World) (h:Z9 G e0 σ0 w0 ds N Z (fun e f σ=>match e with | .goto _=>False | e=>Q e f σ) x a w) :
  Exit.noGoto (Z9 G e0 σ0 w0 ds N Z Q) x a w:=by
 obtain ⟨pe,f,e,σ,hq,hx,hrest⟩:=h
 cases pe with
 | normal=>obtain rfl:x=.normal:=hx;exact ⟨.normal,f,e,σ,hq,rfl,hrest⟩
 | exit i=>obtain rfl:x=.exit i:=hx;exact ⟨.exit i,f,e,σ,hq,rfl,hrest⟩
 | goto l=>exact hq.elim
 | ret=>obtain rfl:x=.ret:=hx;exact ⟨.ret,f,e,σ,hq,rfl,hrest⟩
 | panic p=>obtain ⟨v,rfl,hv⟩:=hx;exact ⟨.panic p,f,e,σ,hq,⟨v,rfl,hv⟩,hrest⟩
theorem Zhc (hS:SRel G e σ w) {b:Nat} {st st':LoopState} {pd pd':Option Code} {r:Loop} (hb:σ.bx[b]?=some (.loop st pd r)) :
  Stepped e σ w e (σ.set b (.loop st' pd' r)) (w.putObj (e.β b) (.loop { r with state:=st',pending:=pd' }))∧SRel G e (σ.set b (.loop st' pd' r)) (w.putObj (e.β b) (.loop { r with state:=st',pending:=pd' })):=by
 have hbl:b<σ.bx.length:=(Ti.1 hb).1
 have hit:w.heap[e.β b]?=some (.loop { r with state:=st,pending:=pd }):=hS.box b _ hb
 have hsl:(σ.set b (.loop st' pd' r)).bx.length=σ.bx.length:=by simp [St.set]
 have hoth:∀k,k≠e.β b→(w.putObj (e.β b) (.loop { r with state:=st',pending:=pd' })).heap[k]?=w.heap[k]?:=fun k hk=>World.putObj_heap_other hk
 have hst:Stepped e σ w e (σ.set b (.loop st' pd' r)) (w.putObj (e.β b) (.loop { r with state:=st',pending:=pd' })):={
  len:=by rw [hsl];exact Tr _
  beta:=fun _ _=>rfl
  X:=rfl
  pres:=fun k o u hk ho=>⟨⟨ho.1,fun j hj=>ho.2.1 j (by rw [hsl] at hj;exact hj),ho.2.2⟩,by simpa [World.cell?,hoth k (fun h=>ho.2.1 b hbl h.symm)] using hk⟩
  blocks:=fun k hk hnb _=>hoth k (fun h=>hnb b hbl h.symm)
  size:=by rw [World.putObj_size];exact Tr _
  os:=rfl
  tape:=rfl
  output:=rfl
  fresh:=fun i h1 h2=>by rw [hsl] at h2;omega
  ftok:=fun t ht p hp=>.inr ⟨t,ht,p,hp,rfl⟩
  nx:=Tr _
  toks:=fun _ _ ht=>⟨ht,rfl⟩
  own:=fun t' hn ht p hp hlt=>hoth _ (fun h=>(hS.own t' ht p hp).2.1 b hbl h.symm) }
 refine ⟨hst,?_⟩
 exact {
  inj:=fun i j hi hj=>hS.inj i j (by rw [hsl] at hi;exact hi) (by rw [hsl] at hj;exact hj)
  box:=fun k y hy=>by
   by_cases hkb:k=b
   ·subst hkb
    have:y=.loop st' pd' r:=by
     exact m111
    subst this
    exact World.putObj_heap_same (Tq.1 hit).1
   ·exact m85
  low:=fun i hi=>hS.low i (by rw [hsl] at hi;exact hi)
  tkn:=hS.tkn
  own:=fun t' ht p hp=>by
   exact m106
  dis:=hS.dis
  xown:=hS.xown
  xlt:=fun k o hx=>by rw [World.putObj_size];exact hS.xlt k o hx
  glob:=fun k hk=>(hoth k (fun h=>by have:=hS.low b hbl;omega)).trans (hS.glob k hk)
  big:=by rw [World.putObj_size];exact hS.big }
theorem ZiG:∀{ps:List Nat} {f:Frame} {args:List PV} {tm:Array Value} {vs:List Value},FRel G e σ w f tm→vs.length=args.length→(∀(i:Nat) (x:PV) (u:Value),args[i]?=some x→vs[i]?=some u→VRel G e σ w x u)→(∀p∈ps,p<tm.size) →
  FRel G e σ w (ZoD f ps args) ((ps.zip vs).foldl (fun tmps (x:Nat×Value)=>tmps.setIfInBounds x.1 x.2) tm)∧((ps.zip vs).foldl (fun tmps (x:Nat×Value)=>tmps.setIfInBounds x.1 x.2) tm).size=tm.size
 | [],f,args,tm,vs,hF,hl,hr,hp=>by simp only [ZoD,List.zip_nil_left,List.foldl_nil,and_true];exact hF
 | p::ps,f,[],tm,[],hF,hl,hr,hp=>⟨hF,rfl⟩
 | p::ps,f,x::args,tm,u::vs,hF,hl,hr,hp=>by
   simp only [List.zip_cons_cons,List.foldl_cons,ZoD]
   have h1:FRel G e σ w (ZaM f p x) (tm.setIfInBounds p u):=by
    have:=FRel.put (a:={ tmps:=tm,defers:=[] }) (d:=some p) hF (hr 0 x u rfl rfl) (fun i hi=>by cases hi;exact hp p (by simp))
    exact this
   obtain ⟨g1,g2⟩:=ZiG (ps:=ps) h1 (by simpa using hl) (fun i y v hy hv=>hr (i+1) y v (by simpa using hy) (by simpa using hv)) (fun q hq=>by simpa using hp q (by simp [hq]))
   exact ⟨g1,by rw [g2];simp⟩
theorem Marks.push {lo:Nat×List Deferred×Bool} {l:List Deferred} (hS:SRel G e σ w) (hf:lo.2.2=false) (h:Marks lo e σ w l):Marks lo e σ (w.alloc (.deferred (some []))) (ZbN w.heap.size::l):=by
 obtain ⟨h0,rs,h1,_,h2,h3⟩:=h
 have hg:=Grows.alloc w (.deferred (some []))
 have hold:∀r∈rs,r<w.heap.size:=fun r hr=>(Tq.1 (h3 r hr).2.1).1
 refine ⟨Sh h0 hg.size,w.heap.size::rs,by rw [h1];rfl,fun h=>by (rw [hf] at h;cases h),List.nodup_cons.2 ⟨fun hm=>by have:=hold _ hm;omega,h2⟩,fun r hr=>?_⟩
 rcases Tv.1 hr with rfl | hr
 ·refine ⟨h0,heap_alloc_new w _,fun i hi=>by have:=hS.lt hi;omega,fun t ht p hp=>?_⟩
  obtain ⟨_,_,cs,ty,fz,hh⟩:=hS.own t ht p hp
  have:=(Tq.1 hh).1
  omega
 ·obtain ⟨g1,g2,g3,g4⟩:=h3 r hr
  exact ⟨g1,(hg.old r (hold r hr)).trans g2,g3,g4⟩
theorem JR (hmix:G.P.follows .mixedOrders=true):∀(c:Code) {C:Cx} {ro:Option Nat} {e0:Env} {σ0:St} {w0:World} {N:Nat} {ds:Nat×List Deferred×Bool} {n:Nat},CxOK G C ro e0 σ0 w0→CxMono C.calm→(ds.2.2=true→∀g args raw σ K,¬C.iter g args raw σ K)→ZM N c=true→∀(ks:List Nat) (t0:Array Value),YJ ks c=true→∀(Q:PQ) {e:Env} {σ:St} {w:World} {a:Act} {f:Frame},
  SRel G e σ w→FRel G e σ w f a.tmps→Later e0 σ0 w0 e σ w→a.tmps.size=N→Marks ds e σ w a.defers→Kept ks t0 a.tmps→W C c Q f σ→c.wpIn (fw ro) n G.P (Z9 G e0 σ0 w0 ds N (Kept ks t0) Q) a w:=by
 intro c
 induction c with
 | skip=>intro C ro e0 σ0 w0 N ds n hC hM hfl _ ks t0 _ Q e σ w a f hS hF hL hN hds hZ h;exact wpIn_skip ⟨.normal,f,e,σ,h,rfl,hS,hF,hL,hN,hds,hZ⟩
 | label l=>intro C ro e0 σ0 w0 N ds n hC hM hfl _ ks t0 _ Q e σ w a f hS hF hL hN hds hZ h;exact wpIn_label ⟨.normal,f,e,σ,h,rfl,hS,hF,hL,hN,hds,hZ⟩
 | exit id=>intro C ro e0 σ0 w0 N ds n hC hM hfl _ ks t0 _ Q e σ w a f hS hF hL hN hds hZ h;exact wpIn_exit ⟨.exit id,f,e,σ,h,rfl,hS,hF,hL,hN,hds,hZ⟩
 | goto l=>intro C ro e0 σ0 w0 N ds n hC hM hfl _ ks t0 _ Q e σ w a f hS hF hL hN hds hZ h;exact wpIn_goto ⟨.goto l,f,e,σ,h,rfl,hS,hF,hL,hN,hds,hZ⟩
 | ret=>intro C ro e0 σ0 w0 N ds n hC hM hfl _ ks t0 _ Q e σ w a f hS hF hL hN hds hZ h;exact wpIn_ret ⟨.ret,f,e,σ,h,rfl,hS,hF,hL,hN,hds,hZ⟩
 | region id ops draw =>
  intro C ro e0 σ0 w0 N ds n hC hM hfl hok ks t0 hks Q e σ w a f hS hF hL hN hds hZ h
  simp only [ZM,Tj] at hok
  have hd:∀o,o∈ops→∀d,o.dst=some d→d<N∧∀t v,Kept ks t0 t→Kept ks t0 (t.setIfInBounds d v):=fun o ho d hod =>
   ⟨Zau hok.1 o (TO.1 ho) d hod,fun t v hk=>hk.set (ZaV hks o (TO.1 ho) d hod) v⟩
  cases draw with
  | false =>
   refine wpIn_region ?_
   have:=Zgk (ro:=ro) (n:=n) hC hd ops.toList 0 (fun j=>by simp) hS hF hL hN hds hZ h
   rw [List.range_eq_range']
   simpa using this
  | true =>
   refine wpIn_region_any hmix ?_
   have hdr:=hok.2
   simp only [Bool.not_true,Bool.false_or] at hdr
   simp only [W] at h
   have hL':Later e0 σ0 w0 e σ { w with drawn:=w.drawn+1 }:=hL.trans { Later.refl e σ w with }
   have hst:Stepped e σ w e σ { w with drawn:=w.drawn+1 }:={ Stepped.refl e σ w with }
   have hS':SRel G e σ { w with drawn:=w.drawn+1 }:={ hS with box:=fun i x hx=>(hS.box i x hx).step hst rfl }
   split at h
   ·rename_i hh
    rw [hh] at hdr
    simp only at hdr
    split at h
    ·rename_i hch
     rw [hch] at hdr
     exact Znd hC.calm hM hd hdr hS' (hF.step hst) hL' hN (hds.later hst.toLater) hZ h
    ·rename_i hch
     rw [hch] at hdr
     exact Zpb hC.calm hM hd hdr hS' (hF.step hst) hL' hN (hds.later hst.toLater) hZ h
   ·rename_i hl hh
    rw [hh] at hdr
    exact Znh hC.calm hM hd hh hdr hS' (hF.step hst) hL' hN (hds.later hst.toLater) hZ h
 | seq x y ihx ihy =>
  intro C ro e0 σ0 w0 N ds n hC hM hfl hok ks t0 hks Q e σ w a f hS hF hL hN hds hZ h
  simp only [ZM,Tj] at hok
  simp only [YJ,Tj] at hks
  simp only [W] at h
  split at h
  ·exact wpIn_seq (wpIn_mono (ihx hC hM hfl hok.1 ks t0 hks.1 _ hS hF hL hN hds hZ h) (Zr2 fun Q {e σ w a f}=>ihy hC hM hfl hok.2 ks t0 hks.2 Q))
  ·rename_i live I hcut
   obtain ⟨h1,h2⟩:=h
   refine wpIn_seq (wpIn_mono (ihx hC hM hfl hok.1 ks t0 hks.1 _ hS hF hL hN hds hZ h1) fun x' a' w' hp=>?_)
   obtain ⟨pe,f',e',σ',hq,hx,g1,g2,g3,g4,g5,g6⟩:=hp
   cases pe with
   | normal =>
    obtain rfl:x'=.normal:=hx
    obtain ⟨vs0,σ1,e1,hI,hS1,hdrop,hlen,hvs⟩:=ZdY g1 hq
    have hF1:FRel G e1 σ1 w' (Zg3 (fun _=>.undef) live vs0) a'.tmps:=ZbT (fun i=>.undef _) fun k i x h1 h2=>hvs k (f' i) x _ (by rw [TQ,h1];rfl) h2 (g2 i)
    exact ihy hC hM hfl hok.2 ks t0 hks.2 Q hS1 hF1 (g3.drop hdrop g3.len) g4 (g5.drop hdrop) g6 (h2 _ _ hI)
   | exit id=>obtain rfl:x'=.exit id:=hx;exact ⟨.exit id,f',e',σ',hq,rfl,g1,g2,g3,g4,g5,g6⟩
   | goto l=>obtain rfl:x'=.goto l:=hx;exact ⟨.goto l,f',e',σ',hq,rfl,g1,g2,g3,g4,g5,g6⟩
   | ret=>obtain rfl:x'=.ret:=hx;exact ⟨.ret,f',e',σ',hq,rfl,g1,g2,g3,g4,g5,g6⟩
   | panic p=>obtain ⟨v,rfl,hv⟩:=hx;exact ⟨.panic p,f',e',σ',hq,⟨v,rfl,hv⟩,g1,g2,g3,g4,g5,g6⟩
 | cond c x y ihx ihy =>
  intro C ro e0 σ0 w0 N ds n hC hM hfl hok ks t0 hks Q e σ w a f hS hF hL hN hds hZ h
  simp only [ZM,Tj] at hok
  simp only [YJ,Tj] at hks
  simp only [W] at h
  have hv:=ZaP hF c
  split at h
  ·rename_i t hc
   rw [hc] at hv
   cases t with
   | true=>exact wpIn_cond_true hv.dbool (ihx hC hM hfl hok.1 ks t0 hks.1 _ hS hF hL hN hds hZ h)
   | false=>exact wpIn_cond_false hv.dbool (ihy hC hM hfl hok.2 ks t0 hks.2 _ hS hF hL hN hds hZ h)
  ·exact h.elim
 | block id b ih =>
  intro C ro e0 σ0 w0 N ds n hC hM hfl hok ks t0 hks Q e σ w a f hS hF hL hN hds hZ h
  exact wpIn_block (wpIn_mono (ih hC hM hfl hok ks t0 hks _ hS hF hL hN hds hZ h) Znj)
 | scope b ih =>
  intro C ro e0 σ0 w0 N ds n hC hM hfl hok ks t0 hks Q e σ w a f hS hF hL hN hds hZ h
  exact Zni (wpIn_mono (ih hC hM hfl hok ks t0 hks _ hS hF hL hN hds hZ h) Znk)
 | loop b ih =>
  intro C ro e0 σ0 w0 N ds n hC hM hfl hok ks t0 hks Q e σ w a f hS hF hL hN hds hZ h
  simp only [W] at h
  generalize C.loop (Wq b)=A at h
  split at h
  ·rename_i m0 _
   generalize m0+1=m at h
   let J:Nat→Frame→St→Act→World→Prop:=fun k f1 σ1 a1 w1=>∃e1,ZlM (fun Q f σ=>W C b Q f σ) Q k f1 σ1∧SRel G e1 σ1 w1∧FRel G e1 σ1 w1 f1 a1.tmps∧Later e σ w e1 σ1 w1∧a1.tmps.size=N∧Marks ds e1 σ1 w1 a1.defers∧Kept ks a.tmps a1.tmps
   let In:Act→World→Prop:=fun a1 w1=>∃k f1 σ1,J k f1 σ1 a1 w1
   let Mu:Act→World→Nat→Prop:=fun a1 w1 m=>∃f1 σ1,J m f1 σ1 a1 w1
   have least:∀a1 w1,In a1 w1→∃m,Mu a1 w1 m∧∀m',Mu a1 w1 m'→m≤m':=fun a1 w1 ⟨k,f1,σ1,hJ⟩=>by
    have:∀m,Mu a1 w1 m→∃m,Mu a1 w1 m∧∀m',Mu a1 w1 m'→m≤m':=by
     intro m
     induction m using Nat.strongRecOn with
     | _ m ihm =>
      intro hm
      exact m107
    exact this _ ⟨f1,σ1,hJ⟩
   classical
   let mu:Act→World→Nat:=fun a1 w1=>if hh:∃m,Mu a1 w1 m∧∀m',Mu a1 w1 m'→m≤m' then Classical.choose hh else 0
   have hmu:∀a1 w1,In a1 w1→Mu a1 w1 (mu a1 w1)∧∀m',Mu a1 w1 m'→mu a1 w1≤m':=fun a1 w1 hIn=>by
    have hh:=least a1 w1 hIn
    simp only [mu,dif_pos hh]
    exact Classical.choose_spec hh
   refine wpIn_loop In mu ⟨m,f,σ,e,h,hS,hF,Later.refl e σ w,hN,hds,fun i _=>rfl⟩ ?_
   intro a1 w1 hIn
   obtain ⟨⟨f2,σ2,⟨e2,hU,hS2,hF2,hL2,hN2,hds2,hK2⟩⟩,_⟩:=hmu a1 w1 hIn
   generalize hmm:mu a1 w1=mm at hU
   cases mm with
   | zero=>exact hU.elim
   | succ mm =>
    simp only [ZlM] at hU
    have hb:=ih (n:=n) (hC.later hL) hM hfl hok ks a.tmps hks _ hS2 hF2 hL2 hN2 hds2 hK2 hU
    refine wpIn_mono hb fun x a' w' hp=>?_
    obtain ⟨pe,f',e',σ',hq,hx,h1,h2,h3,h4,h5,h6⟩:=hp
    have hk6:Kept ks t0 a'.tmps:=fun i hi=>(h6 i hi).trans (hZ i hi)
    cases pe with
    | normal =>
     obtain rfl:x=.normal:=hx
     have hJ:J mm f' σ' a' w':=⟨e',hq,h1,h2,h3,h4,h5,h6⟩
     have hIn':In a' w':=⟨mm,f',σ',hJ⟩
     refine ⟨hIn',?_⟩
     have:=(hmu a' w' hIn').2 _ ⟨f',σ',hJ⟩
     exact Nat.lt_succ_of_le this
    | exit id=>obtain rfl:x=.exit id:=hx;exact ⟨.exit id,f',e',σ',hq,rfl,h1,h2,hL.trans h3,h4,h5,hk6⟩
    | goto l=>obtain rfl:x=.goto l:=hx;exact ⟨.goto l,f',e',σ',hq,rfl,h1,h2,hL.trans h3,h4,h5,hk6⟩
    | ret=>obtain rfl:x=.ret:=hx;exact ⟨.ret,f',e',σ',hq,rfl,h1,h2,hL.trans h3,h4,h5,hk6⟩
    | panic p=>obtain ⟨v,rfl,hv⟩:=hx;exact ⟨.panic p,f',e',σ',hq,⟨v,rfl,hv⟩,h1,h2,hL.trans h3,h4,h5,hk6⟩
  have key:∀A:LoopAnn,YJ A.keep b=true→(Zg2 σ.bx.length (A.live.map f) σ fun vs σ0=>A.I vs σ0 ∧
    ∀vs σ1,A.I vs σ1→W C b (fun e f' σ'=>match e with
     | .normal=>Zg2 σ1.bx.length (A.live.map f') σ' fun vs' σ''=>A.I vs' σ''∧A.μ vs' σ''<A.μ vs σ1
     | e=>Q e f' σ') (Zg3 (Zj9 f A.keep) A.live vs) σ1)→(Code.loop b).wpIn (fw ro) n G.P (Z9 G e0 σ0 w0 ds N (Kept ks t0) Q) a w:=fun A hkeep h=>by
   obtain ⟨vs0,σ1,e1,⟨hI,hround⟩,hS1,hdrop,hlen,hvs⟩:=ZdY hS h
   have hkeepRel:∀{e':Env} {σ':St} {w':World} {tm:Array Value},Later e σ w e' σ' w'→Kept (ks++A.keep) a.tmps tm→∀i,i∈A.keep→VRel G e' σ' w' (clean (f i)) (tm.getD i Go.undef):=fun {e' σ' w' tm} hl hk i hi=>by
    rw [hk i (TX.2 (.inr hi))]
    exact VRel.clean hl.len hl.beta hl.pres (hF i) (hF i).bnd
   have hlive:∀(f':Frame) (tm:Array Value) (vs':List PV) {e':Env} {σ':St} {w':World} {e'':Env} {σ'':St},FRel G e' σ' w' f' tm→(∀(i:Nat) (x y:PV) (u:Value),(A.live.map f')[i]?=some x→vs'[i]?=some y→VRel G e' σ' w' x u→VRel G e'' σ'' w' y u) →
     ∀(k i:Nat) (x:PV),A.live[k]?=some i→vs'[k]?=some x→VRel G e'' σ'' w' x (tm.getD i Go.undef):=fun f' tm vs' {e' σ' w' e'' σ''} hf hv k i x h1 h2 =>
    hv k (f' i) x _ (by rw [TQ,h1];rfl) h2 (hf i)
   let J:List PV→St→Act→World→Prop:=fun vs σ1 a1 w1=>∃e1,A.I vs σ1∧SRel G e1 σ1 w1∧FRel G e1 σ1 w1 (Zg3 (Zj9 f A.keep) A.live vs) a1.tmps∧Later e σ w e1 σ1 w1∧a1.tmps.size=N∧Marks ds e1 σ1 w1 a1.defers∧Kept (ks++A.keep) a.tmps a1.tmps
   let In:Act→World→Prop:=fun a1 w1=>∃vs σ1,J vs σ1 a1 w1
   let Mu:Act→World→Nat→Prop:=fun a1 w1 m=>∃vs σ1,J vs σ1 a1 w1∧A.μ vs σ1=m
   have least:∀a1 w1,In a1 w1→∃m,Mu a1 w1 m∧∀m',Mu a1 w1 m'→m≤m':=fun a1 w1 ⟨vs,σ1,hJ⟩=>by
    have:∀m,Mu a1 w1 m→∃m,Mu a1 w1 m∧∀m',Mu a1 w1 m'→m≤m':=by
     intro m
     induction m using Nat.strongRecOn with
     | _ m ihm =>
      intro hm
      exact m107
    exact this _ ⟨vs,σ1,hJ,rfl⟩
   classical
   let mu:Act→World→Nat:=fun a1 w1=>if hh:∃m,Mu a1 w1 m∧∀m',Mu a1 w1 m'→m≤m' then Classical.choose hh else 0
   have hmu:∀a1 w1,In a1 w1→Mu a1 w1 (mu a1 w1)∧∀m',Mu a1 w1 m'→mu a1 w1≤m':=fun a1 w1 hIn=>by
    have hh:=least a1 w1 hIn
    simp only [mu,dif_pos hh]
    exact Classical.choose_spec hh
   have hL1:Later e σ w e1 σ1 w:=(Later.refl e σ w).drop hdrop (Tr _)
   have hKept0:Kept (ks++A.keep) a.tmps a.tmps:=fun i _=>rfl
   refine wpIn_loop In mu ⟨vs0,σ1,e1,hI,hS1,?_,hL1,hN,hds.drop hdrop,hKept0⟩ ?_
   ·exact ZbT (Zev (hkeepRel hL1 hKept0)) (hlive f a.tmps vs0 hF hvs)
   ·intro a1 w1 hIn
    obtain ⟨⟨vs,σ2,⟨e2,hI2,hS2,hF2,hL2,hN2,hds2,hK2⟩,hm⟩,_⟩:=hmu a1 w1 hIn
    have hb:=ih (n:=n) (hC.later hL) hM hfl hok (ks++A.keep) a.tmps (ZfI hks hkeep) _ hS2 hF2 hL2 hN2 hds2 hK2 (hround vs σ2 hI2)
    refine wpIn_mono hb fun x a' w' hp=>?_
    obtain ⟨pe,f',e',σ',hq,hx,h1,h2,h3,h4,h5,h6⟩:=hp
    have hk6:Kept ks t0 a'.tmps:=fun i hi=>(h6 i (TX.2 (.inl hi))).trans (hZ i hi)
    cases pe with
    | normal =>
     obtain rfl:x=.normal:=hx
     obtain ⟨vs',σ3,e3,⟨hI3,hlt⟩,hS3,hdrop3,hlen3,hvs3⟩:=ZdY h1 hq
     have hL3:Later e σ w e3 σ3 w':=h3.drop hdrop3 hL2.len
     have hJ:J vs' σ3 a' w':=⟨e3,hI3,hS3,ZbT (Zev (hkeepRel hL3 h6)) (hlive f' a'.tmps vs' h2 hvs3),hL3,h4,h5.drop hdrop3,h6⟩
     have hIn':In a' w':=⟨vs',σ3,hJ⟩
     refine ⟨hIn',?_⟩
     have:=(hmu a' w' hIn').2 _ ⟨vs',σ3,hJ,rfl⟩
     rw [← hm]
     exact Nat.lt_of_le_of_lt this hlt
    | exit id=>obtain rfl:x=.exit id:=hx;exact ⟨.exit id,f',e',σ',hq,rfl,h1,h2,hL.trans h3,h4,h5,hk6⟩
    | goto l=>obtain rfl:x=.goto l:=hx;exact ⟨.goto l,f',e',σ',hq,rfl,h1,h2,hL.trans h3,h4,h5,hk6⟩
    | ret=>obtain rfl:x=.ret:=hx;exact ⟨.ret,f',e',σ',hq,rfl,h1,h2,hL.trans h3,h4,h5,hk6⟩
    | panic p=>obtain ⟨v,rfl,hv⟩:=hx;exact ⟨.panic p,f',e',σ',hq,⟨v,rfl,hv⟩,h1,h2,hL.trans h3,h4,h5,hk6⟩
  split at h
  ·rename_i hkeep
   split at h
   ·exact key _ hkeep h
   ·exact key (A.tied f) hkeep h
  ·exact h.elim
 | rangeFunc g ps asg body iha ihb =>
  intro C ro e0 σ0 w0 N ds n hC hM hfl hok ks t0 hks Q e σ w a f hS hF hL hN hds hZ h
  simp only [ZM,Tj] at hok
  simp only [W] at h
  split at h
  ·rename_i gid first caps hg
   have hv:=ZaP hF g
   rw [hg] at hv
   generalize hgv:a.eval g=gv at hv
   cases hv with
   | func _ _ _ va vc ha hc h1 h2 =>
   have hro:ro=none:=by
    rcases hC.out with h0 | h0
    ·exact h0
    ·exact absurd (h 0 default) (h0 _ _ _ _ _)
   subst hro
   refine wpIn_rangeFunc fun fn _=>?_
   have hMi:CxMono C.inner.calm:=⟨hM.one,hM.call,hM.raw,rfl⟩
   have hdf:ds.2.2=false:=by
    cases hd2:ds.2.2 with
    | false=>rfl
    | true=>exact absurd (h 0 default) (hfl hd2 _ _ _ _ _)
   let rec0:Loop:={ state:=.ready,pending:=none,fn,tmps:=a.tmps,params:=ps,assign:=asg,body,defers:=w.heap.size }
   let wA:=w.alloc (.deferred (some []))
   have hgA:Grows w wA:=Grows.alloc w _
   have hSA:SRel G e σ wA:=hS.grow hgA
   have hstA:Stepped e σ w e σ wA:=hgA.stepped e σ
   have hdsA:Marks ds e σ wA (ZbN w.heap.size::a.defers):=hds.push hS hdf
   have hsz:wA.heap.size=w.heap.size+1:=by simp [wA]
   obtain ⟨hst1,hS1,_⟩:=Zef hSA (.loop .ready none rec0) (.loop rec0) (fun _ _ _ _ hh=>hh)
   have hβ1:(e.more σ.bx.length wA.heap.size).β σ.bx.length=w.heap.size+1:=by simp [Env.more,hsz]
   have hit:=h (w.heap.size+1) rec0
   obtain ⟨hent,hcall⟩:=hC.iter _ _ _ _ _ hit
   have hargs1:ArgsRel G (e.more σ.bx.length wA.heap.size) (σ.new (.loop .ready none rec0)) (wA.alloc (.loop rec0)) (first++.raw (.func (.yield (w.heap.size+1)) #[] #[])::caps) (va++#[.func (.yield (w.heap.size+1)) #[] #[]]++vc):=by
    rw [List.append_cons]
    refine (ArgsRel.append (ArgsRel.append ⟨ha,fun i x u hx hu=>((h1 i x u hx hu).step hstA).step hst1⟩ ⟨rfl,fun i x u hx hu=>?_⟩) ⟨hc,fun i x u hx hu=>((h2 i x u hx hu).step hstA).step hst1⟩)
    match i with
    | 0=>cases hx;cases hu;exact .raw _
    | n+1=>cases hx
   have hL1:Later e σ w (e.more σ.bx.length wA.heap.size) (σ.new (.loop .ready none rec0)) (wA.alloc (.loop rec0)):=hstA.toLater.trans hst1.toLater
   have hlen1:σ.bx.length<(σ.new (.loop .ready none rec0)).bx.length:=by rw [ZEj];omega
   refine ⟨w.heap.size+1,[ZbN w.heap.size],wA.alloc (.loop rec0),{ target:=.fn (.func gid) vc,args:=va++#[.func (.yield (w.heap.size+1)) #[] #[]] },wA.alloc (.loop rec0),gid,va++#[.func (.yield (w.heap.size+1)) #[] #[]]++vc,wA.alloc (.loop rec0),
    run_enterLoop_outer fn a.tmps ps asg body,?_,fun _ _=>trivial,?_,fun hh=>by simp [fw] at hh,?_⟩
   ·show (Deferred.ofValue (a.eval g) _).run _ _=_
    rw [hgv]
    simp [Deferred.ofValue,rangeCall,Act.eval]
   ·simp only [invoke];exact hent _ _
   ·refine (hcall (n - 1) _ _ _ hS1 hargs1 ?_).mono fun en w3 hA=>?_
    ·
     intro v args σ' K hr
     obtain ⟨rfl,hbx,hal,hWA⟩:=hr
     refine ⟨w.heap.size+1,rfl,fun ro n e' w' vs hS' hL' ha'=>?_⟩
     have hi':σ.bx.length<σ'.bx.length:=(Ti.1 hbx).1
     have hβ':e'.β σ.bx.length=w.heap.size+1:=(hL'.beta _ hlen1).trans hβ1
     have hheap:w'.heap[w.heap.size+1]?=some (.loop rec0):=by have:=hS'.box _ _ hbx;rw [hβ'] at this;exact this
     have hvs:vs.size=rec0.params.size:=by rw [ha'.1,hal];simp [rec0]
     refine ⟨_,_,_,_,run_yield hheap hvs,?_⟩
     have hF0:FRel G e' σ' w' (Jv f) a.tmps:=hF.clean (hL1.trans hL')
     have hps:∀p∈ps.toList,p<a.tmps.size:=fun p hp=>by
      have:=Tl.1 hok.1.1 p hp
      rw [hN];exact Tb this
     have hfold:(rec0.params.zip vs).foldl (fun tmps (x:Nat×Value)=>tmps.setIfInBounds x.1 x.2) rec0.tmps=(ps.toList.zip vs.toList).foldl (fun tmps (x:Nat×Value)=>tmps.setIfInBounds x.1 x.2) a.tmps:=by
      rw [← Array.foldl_toList,Array.toList_zip]
     obtain ⟨hF1,hsz1⟩:=ZiG (ps:=ps.toList) (args:=args) (vs:=vs.toList) hF0 (by simpa using ha'.1) (fun i x u hx hu=>ha'.2 i x u hx (by simpa using hu)) hps
     refine roundIn_of_wpIn trivial ?_
     have hCr:CxOK G C.inner (some (w.heap.size+1)) e' σ' w':=⟨hC.tab,hC.call,hC.raw.later (hL.trans (hL1.trans hL')),fun _ _ _ _ _ hh=>hh.elim,.inr fun _ _ _ _ _ hh=>hh⟩
     have hwa:=iha (n:=n) (ds:=(0,[],false)) hCr hMi (fun h=>by cases h) hok.1.2 [] #[] (YF _) _ (a:={ tmps:=(rec0.params.zip vs).foldl (fun tmps (x:Nat×Value)=>tmps.setIfInBounds x.1 x.2) rec0.tmps,defers:=[] }) hS' (by rw [hfold];exact hF1) (Later.refl _ _ _) (by rw [hfold];exact hsz1.trans hN) (Marks.nil _ _ (Sa _)) (fun i hi=>by cases hi) hWA
     refine wpIn_mono hwa fun x1 a1 w1 hp=>?_
     obtain ⟨pe,f1,e1,σ1,hq,hx,k1,k2,k3,k4,k5,k6⟩:=hp
     cases pe with
     | normal =>
      obtain rfl:x1=.normal:=hx
      obtain ⟨hb1,hWB⟩:=hq
      obtain ⟨hst2,hS2⟩:=Zhc (st':=.busy) (pd':=none) k1 hb1
      have hβ1':e1.β σ.bx.length=w.heap.size+1:=(k3.beta _ hi').trans hβ'
      have hheap1:w1.heap[w.heap.size+1]?=some (.loop rec0):=by have:=k1.box _ _ hb1;rw [hβ1'] at this;exact this
      refine ⟨_,run_beginRound hheap1 rfl,?_⟩
      rw [hβ1'] at hst2 hS2
      have hwb:=ihb (n:=n) (ds:=(0,[],false)) (hCr.later (k3.trans hst2.toLater)) hMi (fun h=>by cases h) hok.2 [] #[] (YF _) _ hS2 (k2.step hst2) (Later.refl _ _ _) k4 (k5.later hst2.toLater) (fun i hi=>by cases hi) hWB
      refine wpIn_mono hwb fun x2 a2 w2 hp2=>?_
      obtain ⟨pe2,f2,e2,σ2,hq2,hx2,m1,m2,m3,m4,m5,m6⟩:=hp2
      have hl2:σ.bx.length<(σ1.set σ.bx.length (.loop .busy none rec0)).bx.length:=by simp only [St.set,Sy];exact (Ti.1 hb1).1
      have hβ2:e2.β σ.bx.length=w.heap.size+1:=(m3.beta _ hl2).trans hβ1'
      have hL2:Later e' σ' w' e2 σ2 w2:=(k3.trans hst2.toLater).trans m3
      have fin:∀(jump:Option Code),ZyH σ.bx.length rec0 (if jump.isNone then .ready else .done) jump jump.isNone σ2 K→∃v w'',(Instr.endRound (w.heap.size+1) jump).run G.P w2=.ok v w''∧Y8 G e' σ' w' K (.returned v) w'':=fun jump hq=>by
       obtain ⟨hbx2,hK⟩:=hq
       have hheap2:w2.heap[w.heap.size+1]?=some (.loop { rec0 with state:=.busy,pending:=none }):=by have:=m1.box _ _ hbx2;rw [hβ2] at this;exact this
       have hst5:=Zhc (st':=if jump.isNone then .ready else .done) (pd':=jump) m1 hbx2
       rw [hβ2] at hst5
       exact ⟨_,_,run_endRound jump hheap2,_,_,e2,hK,⟨_,rfl,.mkbool⟩,hst5.2,hL2.trans hst5.1.toLater⟩
      cases pe2 with
      | normal=>obtain rfl:x2=.normal:=hx2;exact fin none hq2
      | ret=>obtain rfl:x2=.ret:=hx2;exact fin (some .ret) hq2
      | exit id=>obtain rfl:x2=.exit id:=hx2;exact fin (some (.exit id)) hq2
      | goto t=>obtain rfl:x2=.goto t:=hx2;exact fin (some (.goto t)) hq2
      | panic p=>exact hq2.elim
     | exit id=>exact hq.elim
     | goto t=>exact hq.elim
     | ret=>exact hq.elim
     | panic p=>exact hq.elim
    ·
     obtain ⟨pe,σ3,e3,hk,hE,hS3,hL3⟩:=hA
     have hLs:=hL1.trans hL3
     have hds3:Marks ds e3 σ3 w3 (ZbN w.heap.size::a.defers):=(hdsA.later hst1.toLater).later hL3
     have hβ3:e3.β σ.bx.length=w.heap.size+1:=(hL3.beta _ hlen1).trans hβ1
     cases pe with
     | panic p =>
      obtain ⟨u,rfl,hr⟩:=hE
      exact ⟨.panic p,_,e3,σ3,hk,⟨u,rfl,hr⟩,hS3,fun i=>.undef _,hL.trans hLs,hN,hds3,hZ⟩
     | ret p =>
      obtain ⟨u,rfl,hr⟩:=hE
      unfold ZlL at hk
      simp only at hk
      split at hk
      ·rename_i st pd r hbx
       have hheap:w3.heap[w.heap.size+1]?=some (.loop { r with state:=st,pending:=pd }):=by have:=hS3.box _ _ hbx;rw [hβ3] at this;exact this
       have hst4:=Zhc (st':=.exhausted) (pd':=pd) hS3 hbx
       rw [hβ3] at hst4
       obtain ⟨hst4,hS4⟩:=hst4
       have hpost:∀(pe:PExit) (x:Exit),Q pe (Jv f) (σ3.set σ.bx.length (.loop .exhausted pd r))→ZyI G e3 (σ3.set σ.bx.length (.loop .exhausted pd r)) (w3.putObj (w.heap.size+1) (.loop { r with state:=.exhausted,pending:=pd })) pe x →
         Z9 G e0 σ0 w0 ds N (Kept ks t0) Q x { a with defers:=[ZbN w.heap.size]++a.defers } (w3.putObj (w.heap.size+1) (.loop { r with state:=.exhausted,pending:=pd })):=fun pe x hq hx =>
        ⟨pe,_,e3,_,hq,hx,hS4,hF.clean (hLs.trans hst4.toLater),hL.trans (hLs.trans hst4.toLater),hN,hds3.later hst4.toLater,hZ⟩
       have hend:∀(hb:st≠.busy),(Instr.endLoop (w.heap.size+1)).run G.P w3=.ok pd (w3.putObj (w.heap.size+1) (.loop { r with state:=.exhausted,pending:=pd })):=fun hb=>run_endLoop hheap hb
       have go:st≠.busy→ZoE σ.bx.length r (Jv f) Q σ3 pd→rangePost (fw none) n G.P (w.heap.size+1) (Z9 G e0 σ0 w0 ds N (Kept ks t0) Q) { a with defers:=[ZbN w.heap.size]++a.defers } (.returned u) w3:=fun hb hq=>by
        refine ⟨pd,_,hend hb,?_⟩
        unfold ZoE at hq
        split at hq
        ·exact hpost .normal .normal hq rfl
        ·exact wpIn_ret (hpost .ret .ret hq rfl)
        ·rename_i id;exact wpIn_exit (hpost (.exit id) (.exit id) hq rfl)
        ·rename_i t;exact wpIn_goto (hpost (.goto t) (.goto t) hq rfl)
        ·exact hq.elim
       cases st with
       | busy=>exact hk.elim
       | ready=>exact go (by simp) hk
       | done=>exact go (by simp) hk
       | exhausted=>exact go (by simp) hk
      ·exact hk.elim
  ·exact h.elim
 | _=>intro C ro e0 σ0 w0 N ds n hC hM hfl _ ks t0 _ Q e σ w a f hS hF hL hN hds hZ h;exact h.elim
end
end Go.PM
end

section
namespace Go.PM
abbrev Zz:=List PV→St→(PEnd→St→Prop)→Prop
structure PCalls (G:GE) (g:FuncId) (sp:Zz):Prop where
 enters:VA G.P g
 calls:∀args σ K,sp args σ K→∀(n:Nat) (e:Env) (w:World) (vs:Array Value),SRel G e σ w→ArgsRel G e σ w args vs→CallsIn (fw none) n G.P g vs w (Y8 G e σ w K)
theorem Zi {P : Program} {f : FuncId} {fn : Func} {c : Code} (hf : P.funcs[f]? = some fn) (hname : (fn.name == "runtime.NumGoroutine") = false) (hb : fn.body = some c) : VA P f := fun args w => by
 have h1 : fn.name ≠ "runtime.NumGoroutine" := by simpa using hname
 simp [callFunc,hf,h1,hb]
section
variable {G:GE} {C:Cx} {e:Env} {σ:St} {w:World} {f:Frame} {n:Nat} {tm:Array Value}
def ZyA (tm:Array Value):ResultVar→Sem Value
 | .tmp t=>pure (tm.getD t Go.undef)
 | .cell a t=>do loadVar t (← asAddr (tm.getD a Go.undef))
theorem Zhd {P:Program} {t:TypeId} {v u:Value} (hv:∃a,v=.pointer (some a)) (h:(Instr.loadAt t v).run P w=.ok u w):(do loadVar t (← asAddr v):Sem Value).run P w=.ok u w:=by
 obtain ⟨a,rfl⟩:=hv
 simpa [Instr.loadAt,Instr.sureAddr,asAddr] using h
theorem ZcI (hT:TabOK C.T G.P) (hS:SRel G e σ w) (hF:FRel G e σ w f tm):∀{l:List ResultVar} {K:List PV→Prop},pres C.T f σ.bx l K →
  ∃pvs vs,K pvs∧(l.mapM (ZyA tm)).run G.P w=.ok vs w∧vs.length=pvs.length∧∀(i:Nat) (x:PV) (u:Value),pvs[i]?=some x→vs[i]?=some u→VRel G e σ w x u
 | [],K,h=>⟨[],[],h,rfl,rfl,fun i x u hx=>by simp at hx⟩
 | .tmp t::l,K,h=>by
  simp only [pres,YI] at h
  obtain ⟨pvs,vs,hK,hr,hl,hv⟩:=ZcI hT hS hF h
  refine ⟨f t::pvs,tm.getD t Go.undef::vs,hK,?_,by simp [hl],fun i x u hx hu=>?_⟩
  ·rw [List.mapM_cons]
   simp only [ZyA,Sem.run_bind,Sem.run_pure,Result.andThen,hr]
  ·cases i with
   | zero=>simp only [List.getElem?_cons_zero,Option.some.injEq] at hx hu;subst hx;subst hu;exact hF t
   | succ i=>exact hv i x u (by simpa using hx) (by simpa using hu)
 | .cell a t::l,K,h=>by
  simp only [pres] at h
  have hptr:∃a',tm.getD a Go.undef=.pointer (some a'):=by
   have:=hF a
   generalize tm.getD a Go.undef=v at this
   generalize f a=x at this h
   cases this with
   | ptr b off _=>exact ⟨_,rfl⟩
   | elem r off b o u _ _ _=>exact ⟨_,rfl⟩
   | _=>exact h.elim
  obtain ⟨pv,u0,hk,hr0,hrun⟩:=Zgg hT hS (hF a) h
  rw [YI] at hk
  obtain ⟨pvs,vs,hK,hr,hl,hv⟩:=ZcI hT hS hF hk
  refine ⟨pv::pvs,u0::vs,hK,?_,by simp [hl],fun i x u hx hu=>?_⟩
  ·rw [List.mapM_cons]
   have:=Zhd hptr hrun
   simp only [ZyA]
   rw [Sem.run_bind,this]
   simp only [Sem.run_bind,Sem.run_pure,Result.andThen,hr]
  ·cases i with
   | zero=>simp only [List.getElem?_cons_zero,Option.some.injEq] at hx hu;subst hx;subst hu;exact hr0
   | succ i=>exact hv i x u (by simpa using hx) (by simpa using hu)
theorem Wb (hT:TabOK C.T G.P) (hS:SRel G e σ w) (hF:FRel G e σ w f tm) {fn:Func} {K:List PV→Prop} (h:pres C.T f σ.bx fn.results.toList K) :
  ∃pvs v,K pvs∧(results fn tm).run G.P w=.ok v w∧VRel G e σ w (JM pvs) v:=by
 obtain ⟨pvs,vs,hK,hr,hl,hv⟩:=ZcI hT hS hF h
 have hres:(results fn tm).run G.P w=.ok (if h:vs.toArray.size=1 then vs.toArray[0] else .tuple vs.toArray) w:=by
  have hfun:results fn tm=(do let vs ← fn.results.mapM (ZyA tm);pure (if h:vs.size=1 then vs[0] else .tuple vs)):=by
   unfold results
   congr 1
  have h1:fn.results.mapM (ZyA tm)=List.toArray <$> fn.results.toList.mapM (ZyA tm):=by
   conv=>lhs;rw [show fn.results=fn.results.toList.toArray from by simp]
   exact List.mapM_toArray
  rw [hfun,h1,Sem.run_bind,Sem.run_map,hr]
  rfl
 refine ⟨pvs,_,hK,hres,?_⟩
 match pvs,vs,hl,hv with
 | [],[],_,hv=>exact .tuple [] #[] rfl (fun i x u hx=>by simp at hx)
 | [x],[u],_,hv=>exact hv 0 x u rfl rfl
 | x::y::l,u::v::m,hl,hv =>
  have:¬((u::v::m).toArray.size=1):=by simp
  rw [dif_neg this]
  exact .tuple _ _ (by simpa using hl) (fun i a b ha hb=>hv i a b ha (by simpa using hb))
theorem XR {e0:Env} {σ0:St} {w0:World} {keep:Nat} {own:Bool} {pv:PV} {v:Value} {K:PV→St→Prop} (hS:SRel G e σ w) (hL:Later e0 σ0 w0 e σ w) (hk:σ0.bx.length≤keep) (hv:VRel G e σ w pv v)
  (h:Za8 keep own pv σ K):∃pv' σ' e',K pv' σ'∧VRel G e' σ' w pv' v∧SRel G e' σ' w∧Later e0 σ0 w0 e' σ' w:=by
 unfold Za8 at h
 split at h
 ·rename_i hb
  cases own with
  | true =>
   simp only at h
   obtain ⟨vs',σ',e',hK,hS',hd,hlen,hvs⟩:=ZdY hS h
   match vs',hlen,hK with
   | [y],_,hK=>exact ⟨y,σ',e',hK,hvs 0 pv y v rfl rfl hv,hS',hL.drop hd hk⟩
  | false =>
   simp only at h
   obtain ⟨bs,tk',as',hK,hx,hI,hbl,hn,hbs⟩:=Zbf (as:=[]) (ZEn σ.tk [] (fun t ht=>by cases ht)) h
   exact ⟨clean pv,_,e.re as',hK,(NV.cl pv hb).rel hn hI hbl hv,Zha hS hn hI hbl hbs,hL.drop (Zep hn hI hbl) hk⟩
 ·exact h.elim
theorem Zav {vs:Array Value}:∀(args:List PV) (i:Nat),(∀(k:Nat) (x:PV),args[k]?=some x→VRel G e σ w x (vs.getD (i+k) Go.undef))→FRel G e σ w (ZfH i args) vs
 | [],i,_=>fun j=>.undef _
 | a::args,i,h=>by
  intro j
  simp only [ZfH]
  by_cases hij:i=j
  ·subst hij;rw [YV];exact h 0 a (by simp)
  ·rw [X8 _ _ hij]
   exact Zav args (i+1) (fun k x hx=>by have:=h (k+1) x (by simpa using hx);rwa [show i+(k+1)=i+1+k by omega] at this) j
theorem VRel.world {w':World} (hc:∀b off u,w.cell? ⟨b,off,none⟩=some u→w'.cell? ⟨b,off,none⟩=some u) (hb:∀(b:Nat) (cs:Array Value) (ty:TypeId) (fz:Nat×Nat),w.heap[b]?=some (Obj.cells cs ty fz)→w'.heap[b]?=some (Obj.cells cs ty fz)) {x:PV} {v:Value} (h:VRel G e σ w x v):VRel G e σ w' x v:=by
 have hd:∀{x:D} {v:Value},DRel (okc e σ) w x v→DRel (okc e σ) w' x v:=fun hd=>hd.mono fun b off u hu ho=>⟨ho,hc b off u hu⟩
 induction h with
 | d x v h=>exact .d _ _ (hd h)
 | undef v=>exact .undef _
 | ptr b off h=>exact .ptr b off h
 | asl b off n h=>exact .asl b off n h
 | elem r off b o u hcc ho hu=>exact .elem r off b o u (fun j hj=>hc _ _ _ (hcc j hj)) ho (fun j x hx=>hd (hu j x hx))
 | sl t el rows v hn hdd ht =>
  refine .sl t el rows v hn (hd hdd) fun h=>?_
  rcases ht h with h1 | ⟨sz,g1,g2,g3,b,off,cap,cs,ty,fz,g4,g5,g6,g7,g8⟩
  ·exact .inl h1
  ·exact .inr ⟨sz,g1,g2,g3,b,off,cap,cs,ty,fz,g4,g5,g6,hb _ _ _ _ g7,g8⟩
 | nils el=>exact .nils el
 | func f a c va vc ha hcc _ _ ih1 ih2=>exact .func f a c va vc ha hcc ih1 ih2
 | iface t x v _ ih=>exact .iface t x v ih
 | agg cs vs hs _ h1 ih=>exact .agg cs vs hs ih h1
 | tuple cs vs hs _ ih=>exact .tuple cs vs hs ih
 | raw v=>exact .raw v
theorem Zr3 {r:Nat} (hS:SRel G e σ w) (hr:w.heap[r]?=some (.deferred (some []))) (hb:∀i,i<σ.bx.length→e.β i≠r) (hg:G.nG≤r) :
  SRel G e σ (w.putObj r (.deferred none))∧(∀x v,VRel G e σ w x v→VRel G e σ (w.putObj r (.deferred none)) x v)∧∀(e0:Env) (σ0:St) (w0:World),Later e0 σ0 w0 e σ w→w0.heap.size≤r→Later e0 σ0 w0 e σ (w.putObj r (.deferred none)):=by
 have hoth:∀k,k≠r→(w.putObj r (.deferred none)).heap[k]?=w.heap[k]?:=fun k hk=>World.putObj_heap_other hk
 have hcell:∀b off u,w.cell? ⟨b,off,none⟩=some u→b≠r:=fun b off u hu he=>by
  subst he;simp [World.cell?,hr] at hu
 have hc:∀b off u,w.cell? ⟨b,off,none⟩=some u→(w.putObj r (.deferred none)).cell? ⟨b,off,none⟩=some u:=fun b off u hu=>by
  have:=hcell b off u hu
  simpa [World.cell?,hoth b this] using hu
 have hbk:∀(b:Nat) (cs:Array Value) (ty:TypeId) (fz:Nat×Nat),w.heap[b]?=some (Obj.cells cs ty fz)→(w.putObj r (.deferred none)).heap[b]?=some (Obj.cells cs ty fz):=fun b cs ty fz h=>by
  have:b≠r:=fun he=>by subst he;rw [hr] at h;cases h
  rw [hoth b this];exact h
 have hV:∀x v,VRel G e σ w x v→VRel G e σ (w.putObj r (.deferred none)) x v:=fun x v h=>h.world hc hbk
 refine ⟨?_,hV,fun e0 σ0 w0 hL hr0=>?_⟩
 ·exact {
   inj:=hS.inj
   box:=fun i x hx=>by
    have hi:=(Ti.1 hx).1
    have hB:=hS.box i x hx
    have heq:=hoth (e.β i) (hb i hi)
    cases x with
    | cells t cs =>
     obtain ⟨vs,g1,g2,g3⟩:=hB
     exact ⟨vs,heq.trans g1,g2,fun k y u hy hu=>⟨hV _ _ (g3 k y u hy hu).1,(g3 k y u hy hu).2⟩⟩
    | iter s p=>exact heq.trans hB
    | loop st pd r=>exact heq.trans hB
   low:=hS.low
   tkn:=hS.tkn
   own:=fun t ht p hp=>by
    obtain ⟨q1,q2,cs,ty,fz,q3⟩:=hS.own t ht p hp
    exact ⟨q1,q2,cs,ty,fz,hbk _ _ _ _ q3⟩
   dis:=hS.dis
   xlt:=fun b off hx=>by rw [World.putObj_size];exact hS.xlt b off hx
   xown:=hS.xown
   glob:=fun b hbg=>(hoth b (by omega)).trans (hS.glob b hbg)
   big:=by rw [World.putObj_size];exact hS.big }
 ·exact {
   len:=hL.len
   beta:=hL.beta
   X:=hL.X
   pres:=fun b off u hu ho=>let ⟨h1,h2⟩:=hL.pres b off u hu ho;⟨h1,hc b off u h2⟩
   blocks:=fun b hlt hn ht=>(hoth b (by omega)).trans (hL.blocks b hlt hn ht)
   size:=by rw [World.putObj_size];exact hL.size
   os:=hL.os
   tape:=hL.tape
   output:=hL.output
   fresh:=hL.fresh
   ftok:=hL.ftok }
theorem JS {fn:Func} {R:Ending→World→Prop} {u:FrameMode} {e0:Env} {σ0:St} {w0:World} (hu:u≠.run):∀(rs:List Nat) {w:World},rs.Nodup→(∀r,r∈rs→w0.heap.size≤r∧w.heap[r]?=some (.deferred (some []))∧∀i,i<σ.bx.length→e.β i≠r) →
  G.nG≤w0.heap.size→SRel G e σ w→FRel G e σ w f tm→Later e0 σ0 w0 e σ w→(∀pv v,VRel G e σ w pv v→∀w',SRel G e σ w'→FRel G e σ w' f tm→Later e0 σ0 w0 e σ w'→VRel G e σ w' pv v→True) →
  (∀w',(∀x v,VRel G e σ w x v→VRel G e σ w' x v)→SRel G e σ w'→FRel G e σ w' f tm→Later e0 σ0 w0 e σ w'→LeavesIn (fw none) n G.P fn tm R [] u w')→LeavesInM (fw none) n G.P fn tm R (rs.map ZbN) u w
 | [],w,_,_,_,hS,hF,hL,_,hend=>by
  simp only [TF,LeavesInM]
  exact hend w (fun _ _ h=>h) hS hF hL
 | r::rs,w,hnd,hrs,hG,hS,hF,hL,_,hend=>by
  obtain ⟨h1,h2,h3⟩:=hrs r (by simp)
  obtain ⟨hS',hV,hL'⟩:=Zr3 hS h2 h3 (Sh hG h1)
  simp only [Tw,LeavesInM]
  refine ⟨hu,.inl ⟨r,_,rfl,run_takeDeferred h2,?_⟩⟩
  refine JS hu rs (List.nodup_cons.1 hnd).2 (fun q hq=>?_) hG hS' (fun i=>hV _ _ (hF i)) (hL' _ _ _ hL h1) (fun _ _ _ _ _ _ _ _=>trivial) (fun w' hV'=>hend w' fun x v h=>hV' x v (hV x v h))
  obtain ⟨g1,g2,g3⟩:=hrs q (Tp _ hq)
  have hne:q≠r:=fun e=>(List.nodup_cons.1 hnd).1 (e ▸ hq)
  exact ⟨g1,(World.putObj_heap_other hne).trans g2,g3⟩
theorem Zew (hmix:G.P.follows .mixedOrders=true) {g:FuncId} {fn:Func} {c:Code} (hC:CxOK G C none e σ w) (hM:CxMono C.calm) (hf:G.P.funcs[g]?=some fn) (hb:fn.body=some c) (hok:ZM fn.ntmps c=true)
  {args:List PV} {Q:PQ} {K:PEnd→St→Prop} (hlen:args.length≤fn.ntmps) (h:W C c Q (ZfH 0 args) σ)
  (hQ:∀(pe:PExit) (f:Frame) (σ':St),Q pe f σ'→match pe with
   | .normal | .ret=>pres C.T f σ'.bx fn.results.toList fun vs=>∀(e':Env) (w':World) (v:Value),SRel G e' σ' w'→VRel G e' σ' w' (JM vs) v→Later e σ w e' σ' w'→Y8 G e σ w K (.returned v) w'
   | .panic p=>∀(e':Env) (w':World) (v:Value),SRel G e' σ' w'→VRel G e' σ' w' p v→Later e σ w e' σ' w'→Y8 G e σ w K (.panicked [{ v:=v,recovered:=false }]) w'
   | _=>False)
  {vs:Array Value} (hS:SRel G e σ w) (hargs:ArgsRel G e σ w args vs):CallsIn (fw none) n G.P g vs w (Y8 G e σ w K):=by
 have hsz:vs.size=args.length:=hargs.1
 have hF:FRel G e σ w (ZfH 0 args) (vs++Array.replicate (fn.ntmps - vs.size) undef):=Zav args 0 fun k x hx=>by
  exact m27
 have hw:=JR (n:=n) (ro:=none) (ds:=(w.heap.size,[],false)) hmix c hC hM (fun h=>by cases h) hok [] #[] (YF c) _ (a:={ tmps:=vs++Array.replicate (fn.ntmps - vs.size) undef,defers:=[] }) hS hF (Later.refl e σ w) (by simp;omega) (Marks.nil e σ (Tr _)) (fun i hi=>by cases hi) h
 refine callsIn_of_wp_marks hf hb trivial (wpIn_mono hw fun x a' w' hp=>?_)
 obtain ⟨pe,f',e',σ',hq,hx,h1,h2,h3,h4,⟨_,rs,h5,_,h5n,h5r⟩,h6⟩:=hp
 have h5:a'.defers=rs.map ZbN:=by rw [h5];exact TA _
 have hq':=hQ pe f' σ' hq
 have hrs:∀r,r∈rs→w.heap.size≤r∧w'.heap[r]?=some (.deferred (some []))∧∀i,i<σ'.bx.length→e'.β i≠r:=fun r hr=>let ⟨g1,g2,g3,_⟩:=h5r r hr;⟨g1,g2,g3⟩
 have ends:∀(hq':pres C.T f' σ'.bx fn.results.toList fun vs=>∀(e':Env) (w':World) (v:Value),SRel G e' σ' w'→VRel G e' σ' w' (JM vs) v→Later e σ w e' σ' w'→Y8 G e σ w K (.returned v) w'),LeavesInM (fw none) n G.P fn a'.tmps (Y8 G e σ w K) a'.defers .returning w':=fun hq'=>by
  rw [h5]
  refine JS (by simp) rs h5n hrs hS.big h1 h2 h3 (fun _ _ _ _ _ _ _ _=>trivial) fun w2 _ k1 k2 k3=>?_
  obtain ⟨pvs,v,hl,hr,hv⟩:=Wb hC.tab k1 k2 hq'
  exact ⟨v,hr,hl e' w2 v k1 hv k3⟩
 cases pe with
 | normal=>obtain rfl:x=.normal:=hx;exact ends hq'
 | ret=>obtain rfl:x=.ret:=hx;exact ends hq'
 | panic p =>
  obtain ⟨v,rfl,hv⟩:=hx
  show LeavesInM (fw none) n G.P fn a'.tmps (Y8 G e σ w K) a'.defers (.panicking _) w'
  rw [h5]
  refine JS (by simp) rs h5n hrs hS.big h1 h2 h3 (fun _ _ _ _ _ _ _ _=>trivial) fun w2 hV k1 k2 k3=>?_
  exact hq' e' w2 v k1 (hV _ _ hv) k3
 | exit id=>exact hq'.elim
 | goto l=>exact hq'.elim
theorem V5 (hmix:G.P.follows .mixedOrders=true) {g:FuncId} {fn:Func} {c:Code} (hC:CxOK G C none e σ w) (hM:CxMono C.calm) (hf:G.P.funcs[g]?=some fn) (hb:fn.body=some c) (hok:ZM fn.ntmps c=true)
  {keep:Nat} {own:Bool} {args:List PV} {R:PEnd→St→Prop} (hk:σ.bx.length≤keep) (hlen:args.length≤fn.ntmps) (h:WF C fn keep own args σ R) {vs:Array Value} (hS:SRel G e σ w) (hargs:ArgsRel G e σ w args vs) :
  CallsIn (fw none) n G.P g vs w (Y8 G e σ w R):=by
 have hbo:VY fn=c:=by simp [VY,hb]
 unfold WF at h
 rw [hbo] at h
 have presM:∀{T:Tab} {f:Frame} {bx:List Box} {l:List ResultVar} {K K':List PV→Prop},(∀vs,K vs→K' vs)→pres T f bx l K→pres T f bx l K':=by
  intro T f bx l
  induction l with
  | nil=>exact fun hK h=>hK _ h
  | cons r l ih =>
   intro K K' hK h
   exact m73
 refine Zew hmix hC hM hf hb hok hlen h (fun pe f' σ' hq=>?_) hS hargs
 have fin:∀{pv:PV} {p:PV→PEnd} {en:Value→Ending},(∀(pv:PV) (e:Env) (σ:St) (w:World) v,VRel G e σ w pv v→ZoR G e σ w (p pv) (en v))→(Za8 keep own pv σ' fun v σ''=>R (p v) σ'')→∀(e':Env) (w':World) (v:Value),SRel G e' σ' w'→VRel G e' σ' w' pv v→Later e σ w e' σ' w'→Y8 G e σ w R (en v) w':=fun {pv p en} hpe hl e' w' v hS' hv hL=>by
  obtain ⟨pv',σ'',e'',hK,hv',hS'',hL''⟩:=XR hS' hL hk hv hl
  exact ⟨p pv',σ'',e'',hK,hpe _ _ _ _ _ hv',hS'',hL''⟩
 cases pe with
 | normal=>exact presM (fun vs hl=>fin (p:=.ret) (en:=.returned) (fun _ _ _ _ v h=>⟨v,rfl,h⟩) hl) hq
 | ret=>exact presM (fun vs hl=>fin (p:=.ret) (en:=.returned) (fun _ _ _ _ v h=>⟨v,rfl,h⟩) hl) hq
 | panic p=>exact fin (p:=.panic) (en:=fun v=>.panicked [{ v:=v,recovered:=false }]) (fun _ _ _ _ v h=>⟨v,rfl,h⟩) hq
 | exit id=>exact hq.elim
 | goto l=>exact hq.elim
end
end Go.PM
end

section
namespace Go.PM
mutual
def ZyL:PV→List Nat→List Nat
 | .ptr b _,acc=>match ZjX b acc with | true=>acc | false=>acc++[b]
 | .asl b _ _,acc=>match ZjX b acc with | true=>acc | false=>acc++[b]
 | .func _ a c,acc=>ZfJ c (ZfJ a acc)
 | .iface _ v,acc=>ZyL v acc
 | .agg cs,acc=>ZfJ cs acc
 | .tuple vs,acc=>ZfJ vs acc
 | _,acc=>acc
def ZfJ:List PV→List Nat→List Nat
 | [],acc=>acc
 | v::l,acc=>ZfJ l (ZyL v acc)
end
def Zgo (bx:List Box):Nat→Nat→List Nat→List Nat
 | 0,_,acc=>acc
 | n+1,i,acc=>match acc[i]? with
  | none=>acc
  | some b=>match bx[b]? with
   | some (.cells _ cs)=>Zgo bx n (i+1) (ZfJ cs acc)
   | _=>Zgo bx n (i+1) acc
def ZiH (b:Nat):List Nat→Nat→Option Nat
 | [],_=>none
 | x::l,i=>match Nat.beq x b with | true=>some i | false=>ZiH b l (i+1)
def ZiI:List Nat→Bool
 | []=>true
 | x::l=>match ZjX x l with | true=>false | false=>ZiI l
mutual
def ZyB (bs:List Nat):PV→PV
 | .ptr b o=>match ZiH b bs 0 with | some i=>.ptr i o | none=>.undef
 | .asl b o n=>match ZiH b bs 0 with | some i=>.asl i o n | none=>.undef
 | .func f a c=>.func f (Zkr bs a) (Zkr bs c)
 | .iface t v=>.iface t (ZyB bs v)
 | .agg cs=>.agg (Zkr bs cs)
 | .tuple vs=>.tuple (Zkr bs vs)
 | .d x=>.d x
 | .undef=>.undef
 | .elem r o=>.elem r o
 | .sl t e rows=>.sl t e rows
 | .nils e=>.nils e
 | .raw v=>.raw v
def Zkr (bs:List Nat):List PV→List PV
 | []=>[]
 | v::l=>ZyB bs v::Zkr bs l
end
def Zr4 (bs:List Nat) (bx:List Box):List Nat→(List Box→Prop)→Prop
 | [],K=>K []
 | b::l,K=>match bx[b]? with
  | some (.cells t cs)=>Zr4 bs bx l fun r=>K (.cells t (Zkr bs cs)::r)
  | some (.iter s p)=>Zr4 bs bx l fun r=>K (.iter s p::r)
  | some (.loop _ _ _)=>False
  | none=>False
mutual
def ZiJ (bs:List Nat) (m L nx:Nat):PV→PV
 | .ptr i o=>match bs[i]? with | some b=>.ptr b o | none=>.ptr (L+(i - m)) o
 | .asl i o n=>match bs[i]? with | some b=>.asl b o n | none=>.asl (L+(i - m)) o n
 | .sl t e rows=>.sl (nx+t) e rows
 | .func f a c=>.func f (ZdN bs m L nx a) (ZdN bs m L nx c)
 | .iface t v=>.iface t (ZiJ bs m L nx v)
 | .agg cs=>.agg (ZdN bs m L nx cs)
 | .tuple vs=>.tuple (ZdN bs m L nx vs)
 | .d x=>.d x
 | .undef=>.undef
 | .elem r o=>.elem r o
 | .nils e=>.nils e
 | .raw v=>.raw v
def ZdN (bs:List Nat) (m L nx:Nat):List PV→List PV
 | []=>[]
 | v::l=>ZiJ bs m L nx v::ZdN bs m L nx l
end
def Zbi (bs:List Nat) (m L nx:Nat):Box→Box
 | .cells t cs=>.cells t (ZdN bs m L nx cs)
 | .iter s p=>.iter s p
 | .loop st pd r=>.loop st pd r
def Zex (bb:Box→Box):List Nat→List Box→List Box→(List Box→Prop)→Prop
 | [],xs,acc,K=>K (acc++xs.map bb)
 | b::l,x::xs,acc,K=>Zex bb l xs (acc.set b (bb x)) K
 | _::_,[],_,_=>False
def Znl (bs:List Nat) (m L nx:Nat):PEnd→PEnd
 | .ret v=>.ret (ZiJ bs m L nx v)
 | .panic v=>.panic (ZiJ bs m L nx v)
def ZcJ (sp:Zz) (args:List PV) (σ:St) (K:PEnd→St→Prop):Prop :=
 Zge (Zgo σ.bx (σ.bx.length+1) 0 (ZfJ args [])) fun bs=>match ZiI bs with
 | true=>Zr4 bs σ.bx bs fun cb=>Zup bs.length (Zkr bs args) σ.tk 0 fun args' tk k=>Zj8 bs.length bs.length cb tk k fun cb' rest k =>
   sp args' ⟨cb',toks k,k⟩ fun pe σ3=>Zex (Zbi bs bs.length σ.bx.length σ.nx) bs σ3.bx σ.bx fun bx =>
    K (Znl bs bs.length σ.bx.length σ.nx pe) ⟨bx,rest++σ3.tk.map (σ.nx+·),σ.nx+σ3.nx⟩
 | false=>False
def ZbU (sp:Zz) (args:List PV) (σ:St) (K:PEnd→St→Prop):Prop :=
 Zge (Zgo σ.bx (σ.bx.length+1) 0 (ZfJ args [])) fun bs=>match ZiI bs with
 | true=>Zr4 bs σ.bx bs fun cb=>ZoC bs.length (Zkr bs args) σ.tk 0 fun args' tk k=>Zj8 bs.length bs.length cb tk k fun cb' rest k =>
   sp args' ⟨cb',toks k,k⟩ fun pe σ3=>Zex (Zbi bs bs.length σ.bx.length σ.nx) bs σ3.bx σ.bx fun bx =>
    K (Znl bs bs.length σ.bx.length σ.nx pe) ⟨bx,rest++σ3.tk.map (σ.nx+·),σ.nx+σ3.nx⟩
 | false=>False
theorem Zbj:∀{l:List Nat},ZiI l=true→∀(i j b:Nat),l[i]?=some b→l[j]?=some b→i=j
 | [],_,i,j,b,h,_=>by simp at h
 | x::l,h,i,j,b,hi,hj=>by
  simp only [ZiI] at h
  split at h
  ·cases h
  ·rename_i hm
   have hx:∀k:Nat,l[k]?≠some x:=fun k hk=>by
    have:=(Y7 x l).2 (Sj hk)
    rw [this] at hm;cases hm
   cases i with
   | zero =>
    cases j with
    | zero=>rfl
    | succ j=>simp at hi hj;subst hi;exact absurd hj (hx j)
   | succ i =>
    cases j with
    | zero=>simp at hi hj;subst hj;exact absurd hi (hx i)
    | succ j=>simp at hi hj;rw [Zbj h i j b hi hj]
theorem ZcK {b:Nat}:∀{l:List Nat} {i j:Nat},ZiH b l i=some j→i≤j∧l[j - i]?=some b
 | [],i,j,h=>by simp [ZiH] at h
 | x::l,i,j,h=>by
  simp only [ZiH] at h
  split at h
  ·rename_i hb;cases h;simp [Tn hb]
  ·obtain ⟨h1,h2⟩:=ZcK h
   refine ⟨by omega,?_⟩
   rw [show j - i=(j - (i+1))+1 by omega];simpa using h2
theorem V6 {bs:List Nat}:∀{l:List PV} (i:Nat) (y:PV),(Zkr bs l)[i]?=some y→∃x,l[i]?=some x∧y=ZyB bs x
 | [],i,y,h=>by simp [Zkr] at h
 | x::l,i,y,h=>by
  cases i with
  | zero=>simp [Zkr] at h;exact ⟨x,by simp,h.symm⟩
  | succ i=>simp only [Zkr,T9] at h;obtain ⟨z,h1,h2⟩:=V6 i y h;exact ⟨z,by simpa using h1,h2⟩
theorem Xf {bs:List Nat}:∀{l:List PV},(Zkr bs l).length=l.length
 | []=>rfl
 | x::l=>by simp [Zkr,Xf]
theorem UE {bs:List Nat} {m L nx:Nat}:∀{l:List PV} (i:Nat) (y:PV),(ZdN bs m L nx l)[i]?=some y→∃x,l[i]?=some x∧y=ZiJ bs m L nx x
 | [],i,y,h=>by simp [ZdN] at h
 | x::l,i,y,h=>by
  cases i with
  | zero=>simp [ZdN] at h;exact ⟨x,by simp,h.symm⟩
  | succ i=>simp only [ZdN,T9] at h;obtain ⟨z,h1,h2⟩:=UE i y h;exact ⟨z,by simpa using h1,h2⟩
theorem X2 {bs:List Nat} {m L nx:Nat}:∀{l:List PV},(ZdN bs m L nx l).length=l.length
 | []=>rfl
 | x::l=>by simp [ZdN,X2]
def ZtJ (bs:List Nat):Box→Box
 | .cells t cs=>.cells t (Zkr bs cs)
 | .iter s p=>.iter s p
 | .loop st pd r=>.loop st pd r
theorem Zhe {bs:List Nat} {bx:List Box}:∀{l:List Nat} {K:List Box→Prop},Zr4 bs bx l K→∃cb,K cb∧cb.length=l.length∧∀(j b:Nat),l[j]?=some b→∃x,bx[b]?=some x∧cb[j]?=some (ZtJ bs x)
 | [],K,h=>⟨[],h,rfl,fun j b hj=>by simp at hj⟩
 | b::l,K,h=>by
  simp only [Zr4] at h
  split at h
  ·rename_i t cs hb
   exact m95
  ·rename_i s p hb
   exact m95
  ·exact h.elim
  ·exact h.elim
theorem Zhf {bb:Box→Box}:∀{bs:List Nat} {xs acc:List Box} {K:List Box→Prop},(∀(i j b:Nat),bs[i]?=some b→bs[j]?=some b→i=j)→(∀b,b∈bs→b<acc.length)→Zex bb bs xs acc K →
  ∃r,K r∧bs.length≤xs.length∧r.length=acc.length+(xs.length - bs.length)∧(∀(j b:Nat) (x:Box),bs[j]?=some b→xs[j]?=some x→r[b]?=some (bb x))∧(∀i,i<acc.length→i∉bs→r[i]?=acc[i]?) ∧
   ∀i,acc.length≤i→r[i]?=xs[bs.length+(i - acc.length)]?.map bb
 | [],xs,acc,K,hn,hl,h=>⟨_,h,by simp,by simp,fun j b x hj=>by simp at hj,fun i hi _=>by rw [TP hi],fun i hi=>by rw [T1 hi,TQ];simp⟩
 | b::bs,x::xs,acc,K,hn,hl,h=>by
  simp only [Zex] at h
  have hlt:b<acc.length:=hl b (by simp)
  obtain ⟨r,h1,h2,h3,h4,h5,h6⟩:=Zhf (bs:=bs) (fun i j c hi hj=>by have:=hn (i+1) (j+1) c (by simpa using hi) (by simpa using hj);omega) (fun c hc=>by rw [Sy];exact hl c (Tp _ hc)) h
  have hnb:b∉bs:=fun hm=>by
   obtain ⟨k,hk,hke⟩:=T8 hm
   have:=hn 0 (k+1) b (by simp) (by simp [Tk hk,hke])
   omega
  refine ⟨r,h1,by simp;omega,by rw [h3,Sy];simp,fun j c y hj hy=>?_,fun i hi hni=>?_,fun i hi=>?_⟩
  ·cases j with
   | zero =>
    simp only [List.getElem?_cons_zero,Option.some.injEq] at hj hy
    subst hj;subst hy
    rw [h5 b (by rw [Sy];exact hlt) hnb,List.getElem?_set_self hlt]
   | succ j=>exact h4 j c y (by simpa using hj) (by simpa using hy)
  ·have hib:b≠i:=fun e=>hni (e ▸ by simp)
   rw [h5 i (by rw [Sy];exact hi) (fun hm=>hni (Tp _ hm)),List.getElem?_set_ne hib]
  ·rw [h6 i (by rw [Sy];exact hi),Sy,Tc,show bs.length+1+(i - acc.length)=bs.length+(i - acc.length)+1 by omega,T9]
 | b::bs,[],acc,K,hn,hl,h=>h.elim
section
variable {G:GE} {e:Env} {σ:St} {w:World}
def Zhg (e:Env) (σ:St) (bs rest:List Nat) (b off:Nat):Prop :=
 e.X b off∨(∃i,i<σ.bx.length∧i∉bs∧e.β i=b)∨∃t,t∈rest∧∃p,e.M t=some p∧p.1=b∧p.2≤off
def Env.handed (e:Env) (σ:St) (bs rest:List Nat):Env:=⟨fun j=>e.β (bs.getD j 0),e.M,Zhg e σ bs rest⟩
structure Hand (σ:St) (bs rest pass:List Nat) (cb:List Box):Prop where
 nodup:∀(i j b:Nat),bs[i]?=some b→bs[j]?=some b→i=j
 len:cb.length=bs.length
 get:∀(j b:Nat),bs[j]?=some b→∃x,σ.bx[b]?=some x∧cb[j]?=some (ZtJ bs x)
 restIn:∀t,t∈rest→t∈σ.tk
 passIn:∀t,t∈pass→t∈σ.tk∧t∉rest
variable {bs rest pass:List Nat} {cb:List Box}
theorem Hand.lt (h:Hand σ bs rest pass cb) {b:Nat} (hb:b∈bs):b<σ.bx.length:=by
 obtain ⟨k,hk,he⟩:=T8 hb
 obtain ⟨x,hx,_⟩:=h.get k b (by rw [Tk hk,he])
 exact (Ti.1 hx).1
theorem Hand.at (h:Hand σ bs rest pass cb) {j:Nat} (hj:j<bs.length):∃b,bs[j]?=some b∧b∈bs∧(e.handed σ bs rest).β j=e.β b:=by
 have:=Tk hj
 exact ⟨bs[j],this,TV hj,by simp [Env.handed,this]⟩
theorem ZlT (hS:SRel G e σ w) (h:Hand σ bs rest pass cb) {b off:Nat} (ho:okc e σ b off):okc (e.handed σ bs rest) ⟨cb,pass,σ.nx⟩ b off:=by
 refine ⟨fun hX=>?_,fun j hj=>?_,fun t ht p hp hpb=>ho.2.2 t (h.passIn t ht).1 p hp hpb⟩
 ·rcases hX with hX | ⟨i,h1,_,h2⟩ | ⟨t,h1,p,h2,h3,h4⟩
  ·exact ho.1 hX
  ·exact ho.2.1 i h1 h2
  ·have:=ho.2.2 t (h.restIn t h1) p h2 h3;omega
 ·obtain ⟨b',h1,h2,h3⟩:=h.at (e:=e) (show j<bs.length by rw [← h.len];exact hj)
  rw [h3];exact ho.2.1 b' (h.lt h2)
theorem VRel.ren (hS:SRel G e σ w) (h:Hand σ bs rest pass cb) {x:PV} {v:Value} (hv:VRel G e σ w x v):VRel G (e.handed σ bs rest) ⟨cb,pass,σ.nx⟩ w (ZyB bs x) v:=by
 have hd:∀{x:D} {v:Value},DRel (okc e σ) w x v→DRel (okc (e.handed σ bs rest) ⟨cb,pass,σ.nx⟩) w x v:=fun hd=>hd.mono fun b off u hu ho=>⟨ZlT hS h ho,hu⟩
 induction hv with
 | d x v hx=>exact .d _ _ (hd hx)
 | undef v=>exact .undef _
 | ptr b off hb =>
  simp only [ZyB]
  cases hi:ZiH b bs 0 with
  | none=>exact .undef _
  | some i =>
   obtain ⟨_,h2⟩:=ZcK hi
   simp only [Nat.sub_zero] at h2
   have hlt:=(Ti.1 h2).1
   have:(e.handed σ bs rest).β i=e.β b:=by simp [Env.handed,h2]
   rw [← this]
   exact .ptr i off (by show i<cb.length;rw [h.len];exact hlt)
 | asl b off n hb =>
  simp only [ZyB]
  cases hi:ZiH b bs 0 with
  | none=>exact .undef _
  | some i =>
   obtain ⟨_,h2⟩:=ZcK hi
   simp only [Nat.sub_zero] at h2
   have hlt:=(Ti.1 h2).1
   have:(e.handed σ bs rest).β i=e.β b:=by simp [Env.handed,h2]
   rw [← this]
   exact .asl i off n (by show i<cb.length;rw [h.len];exact hlt)
 | elem r off b o u hc ho hu=>exact .elem r off b o u hc (fun j hj=>ZlT hS h (ho j hj)) (fun j x hx=>hd (hu j x hx))
 | sl t el rows v hn hdd ht=>exact .sl t el rows v hn (hd hdd) fun hp=>ht (h.passIn t hp).1
 | nils el=>exact .nils el
 | func f a c va vc ha hc _ _ ih1 ih2 =>
  refine .func f _ _ va vc (by rw [Xf];exact ha) (by rw [Xf];exact hc) (fun i y u hy hu=>?_) (fun i y u hy hu=>?_)
  ·obtain ⟨x,hx,rfl⟩:=V6 i y hy;exact ih1 i x u hx hu
  ·obtain ⟨x,hx,rfl⟩:=V6 i y hy;exact ih2 i x u hx hu
 | iface t x v _ ih=>exact .iface t _ v ih
 | agg cs vs hs _ h1 ih=>exact .agg _ vs (by rw [Xf];exact hs) (fun i y u hy hu=>by obtain ⟨x,hx,rfl⟩:=V6 i y hy;exact ih i x u hx hu) h1
 | tuple cs vs hs _ ih=>exact .tuple _ vs (by rw [Xf];exact hs) (fun i y u hy hu=>by obtain ⟨x,hx,rfl⟩:=V6 i y hy;exact ih i x u hx hu)
 | raw v=>exact .raw _
theorem SRel.ren (hS:SRel G e σ w) (h:Hand σ bs rest pass cb):SRel G (e.handed σ bs rest) ⟨cb,pass,σ.nx⟩ w where
 inj:=fun i j hi hj he=>by
  obtain ⟨b,h1,h2,h3⟩:=h.at (e:=e) (show i<bs.length by rw [← h.len];exact hi)
  obtain ⟨b',h1',h2',h3'⟩:=h.at (e:=e) (show j<bs.length by rw [← h.len];exact hj)
  rw [h3,h3'] at he
  have:=hS.inj b b' (h.lt h2) (h.lt h2') he
  subst this
  exact h.nodup i j b h1 h1'
 box:=fun j y hy=>by
  have hj:=(Ti.1 hy).1
  obtain ⟨b,h1,h2,h3⟩:=h.at (e:=e) (show j<bs.length by rw [← h.len];exact hj)
  obtain ⟨x,hx,hcb⟩:=h.get j b h1
  simp only at hy
  rw [hcb] at hy
  cases hy
  have hB:=hS.box b x hx
  rw [h3]
  cases x with
  | cells t cs =>
   obtain ⟨vs,g1,g2,g3⟩:=hB
   refine ⟨vs,g1,by rw [Xf];exact g2,fun i y u hy hu=>?_⟩
   obtain ⟨z,hz,rfl⟩:=V6 i y hy
   exact ⟨(g3 i z u hz hu).1.ren hS h,(g3 i z u hz hu).2⟩
  | iter s p=>exact hB
  | loop st pd r=>exact hB
 low:=fun j hj=>by
  obtain ⟨b,h1,h2,h3⟩:=h.at (e:=e) (show j<bs.length by rw [← h.len];exact hj)
  rw [h3];exact hS.low b (h.lt h2)
 tkn:=fun t ht=>hS.tkn t (h.passIn t ht).1
 own:=fun t ht p hp=>by
  obtain ⟨h1,h2,h3⟩:=hS.own t (h.passIn t ht).1 p hp
  refine ⟨h1,fun j hj=>?_,h3⟩
  obtain ⟨b,g1,g2,g3⟩:=h.at (e:=e) (show j<bs.length by rw [← h.len];exact hj)
  rw [g3];exact h2 b (h.lt g2)
 dis:=fun t t' ht ht'=>hS.dis t t' (h.passIn t ht).1 (h.passIn t' ht').1
 xlt:=fun b off hX=>by
  rcases hX with hX | ⟨i,h1,_,h2⟩ | ⟨t,h1,p,h2,h3,h4⟩
  ·exact hS.xlt b off hX
  ·rw [← h2];exact hS.lt h1
  ·obtain ⟨_,_,cs,ty,fz,hh⟩:=hS.own t (h.restIn t h1) p h2
   rw [← h3];exact (Tq.1 hh).1
 xown:=fun t ht p hp off hoff hX=>by
  rcases hX with hX | ⟨i,h1,_,h2⟩ | ⟨t',h1,p',h2,h3,h4⟩
  ·exact hS.xown t (h.passIn t ht).1 p hp off hoff hX
  ·exact (hS.own t (h.passIn t ht).1 p hp).2.1 i h1 h2
  ·exact hS.dis t' t (h.restIn t' h1) (h.passIn t ht).1 (fun e=>(h.passIn t ht).2 (e ▸ h1)) p' p h2 hp h3
 glob:=hS.glob
 big:=hS.big
def Env.back (e:Env) (L m nx:Nat) (e3:Env):Env:=⟨fun i=>if i<L then e.β i else e3.β (m+(i - L)),fun t=>if t<nx then e.M t else e3.M (t - nx),e.X⟩
structure Handed (e:Env) (σ:St) (w:World) (bs rest:List Nat) (e2:Env) (σ2:St):Prop where
 nodup:∀(i j b:Nat),bs[i]?=some b→bs[j]?=some b→i=j
 lt:∀b,b∈bs→b<σ.bx.length
 len:σ2.bx.length=bs.length
 beta:∀(j b:Nat),bs[j]?=some b→e2.β j=e.β b
 X:e2.X=Zhg e σ bs rest
 okc:∀b off,okc e σ b off→okc e2 σ2 b off
 tok:∀t,t∈σ2.tk→∀p,e2.M t=some p→∃t0,t0∈σ.tk∧t0∉rest∧e.M t0=some p
 restIn:∀t,t∈rest→t∈σ.tk
variable {e2 e3:Env} {σ2 σ3:St} {w':World} {bx:List Box}
structure Backed (σ:St) (bs:List Nat) (σ3:St) (bx:List Box):Prop where
 le:bs.length≤σ3.bx.length
 len:bx.length=σ.bx.length+(σ3.bx.length - bs.length)
 some:∀(j b:Nat) (x:Box),bs[j]?=some b→σ3.bx[j]?=some x→bx[b]?=some (Zbi bs bs.length σ.bx.length σ.nx x)
 old:∀i,i<σ.bx.length→i∉bs→bx[i]?=σ.bx[i]?
 new:∀i,σ.bx.length≤i→bx[i]?=σ3.bx[bs.length+(i - σ.bx.length)]?.map (Zbi bs bs.length σ.bx.length σ.nx)
abbrev Jy (σ:St) (rest:List Nat) (σ3:St) (bx:List Box):St:=⟨bx,rest++σ3.tk.map (σ.nx+·),σ.nx+σ3.nx⟩
theorem YZ {t:Nat} (hS:SRel G e σ w) (h:Handed e σ w bs rest e2 σ2) (ht:t∈(Jy σ rest σ3 bx).tk):(t∈rest∧t<σ.nx)∨∃t',t'∈σ3.tk∧t=σ.nx+t':=by
 rcases TX.1 ht with h1 | h1
 ·exact .inl ⟨h1,hS.tkn t (h.restIn t h1)⟩
 ·obtain ⟨t',h2,h3⟩:=Sf.1 h1
  exact .inr ⟨t',h2,h3.symm⟩
theorem Xu {L m nx t:Nat} (h:t<nx):(e.back L m nx e3).M t=e.M t:=by simp [Env.back,h]
theorem back_M_new {L m nx t:Nat}:(e.back L m nx e3).M (nx+t)=e3.M t:=by
 have:¬nx+t<nx:=by omega
 simp [Env.back,this]
theorem Yz {L m nx i:Nat} (h:i<L):(e.back L m nx e3).β i=e.β i:=by simp [Env.back,h]
theorem Vu {L m nx i:Nat} (h:L≤i):(e.back L m nx e3).β i=e3.β (m+(i - L)):=by
 have:¬i<L:=by omega
 simp [Env.back,this]
theorem Zks (h:Handed e σ w bs rest e2 σ2) (hL:Later e2 σ2 w e3 σ3 w') {i:Nat} (hi:i<σ.bx.length):(∃j,j<σ2.bx.length∧bs[j]?=some i∧e3.β j=e.β i)∨(i∉bs∧∀off,e3.X (e.β i) off):=by
 by_cases hm:i∈bs
 ·obtain ⟨j,hj,he⟩:=T8 hm
  have hb:bs[j]?=some i:=by rw [Tk hj,he]
  have hj2:j<σ2.bx.length:=by rw [h.len];exact hj
  exact .inl ⟨j,hj2,hb,(hL.beta j hj2).trans (h.beta j i hb)⟩
 ·exact .inr ⟨hm,fun off=>by rw [hL.X,h.X];exact .inr (.inl ⟨i,hi,hm,rfl⟩)⟩
theorem Zhh (hS:SRel G e σ w) (h:Handed e σ w bs rest e2 σ2) (hL:Later e2 σ2 w e3 σ3 w') (hb:Backed σ bs σ3 bx) {b off:Nat} (ho:okc e3 σ3 b off) :
  okc (e.back σ.bx.length bs.length σ.nx e3) (Jy σ rest σ3 bx) b off:=by
 have hX:¬Zhg e σ bs rest b off:=by rw [← h.X,← hL.X];exact ho.1
 refine ⟨fun hx=>hX (.inl hx),fun i hi=>?_,fun t ht p hp hpb=>?_⟩
 ·by_cases hlt:i<σ.bx.length
  ·rw [Yz hlt]
   rcases Zks h hL hlt with ⟨j,hj,_,he⟩ | ⟨_,hx⟩
   ·rw [← he];exact ho.2.1 j (TM hj hL.len)
   ·intro e;rw [← e] at ho;exact ho.1 (hx off)
  ·rw [Vu (by omega)]
   have hlen:=hb.len
   have hle:=hb.le
   simp only at hi
   exact ho.2.1 _ (by omega)
 ·rcases YZ hS h ht with ⟨h1,h2⟩ | ⟨t',h1,rfl⟩
  ·rw [Xu h2] at hp
   have:¬p.2≤off:=fun hle=>hX (.inr (.inr ⟨t,h1,p,hp,hpb,hle⟩))
   omega
  ·rw [back_M_new] at hp
   exact ho.2.2 t' h1 p hp hpb
theorem VRel.back (hS:SRel G e σ w) (h:Handed e σ w bs rest e2 σ2) (hL:Later e2 σ2 w e3 σ3 w') (hb:Backed σ bs σ3 bx) {x:PV} {v:Value} (hv:VRel G e3 σ3 w' x v) :
  VRel G (e.back σ.bx.length bs.length σ.nx e3) (Jy σ rest σ3 bx) w' (ZiJ bs bs.length σ.bx.length σ.nx x) v:=by
 have hd:∀{x:D} {v:Value},DRel (okc e3 σ3) w' x v→DRel (okc (e.back σ.bx.length bs.length σ.nx e3) (Jy σ rest σ3 bx)) w' x v:=fun hd=>hd.mono fun b off u hu ho=>⟨Zhh hS h hL hb ho,hu⟩
 induction hv with
 | d x v hx=>exact .d _ _ (hd hx)
 | undef v=>exact .undef _
 | ptr i off hi =>
  simp only [ZiJ]
  have hlen:=hb.len
  have hle:=hb.le
  cases hbi:bs[i]? with
  | some b =>
   have hj:=(Ti.1 hbi).1
   have hlt:=h.lt b (Sj hbi)
   have:e3.β i=(e.back σ.bx.length bs.length σ.nx e3).β b:=by
    rw [Yz hlt];exact (hL.beta i (by rw [h.len];exact hj)).trans (h.beta i b hbi)
   rw [this]
   exact .ptr b off (by show b<bx.length;omega)
  | none =>
   have hge:bs.length≤i:=by simpa using hbi
   have:e3.β i=(e.back σ.bx.length bs.length σ.nx e3).β (σ.bx.length+(i - bs.length)):=by
    rw [Vu (by omega)];congr 1;omega
   rw [this]
   exact .ptr _ off (by show _<bx.length;omega)
 | asl i off n hi =>
  simp only [ZiJ]
  have hlen:=hb.len
  have hle:=hb.le
  cases hbi:bs[i]? with
  | some b =>
   have hj:=(Ti.1 hbi).1
   have hlt:=h.lt b (Sj hbi)
   have:e3.β i=(e.back σ.bx.length bs.length σ.nx e3).β b:=by
    rw [Yz hlt];exact (hL.beta i (by rw [h.len];exact hj)).trans (h.beta i b hbi)
   rw [this]
   exact .asl b off n (by show b<bx.length;omega)
  | none =>
   have hge:bs.length≤i:=by simpa using hbi
   have:e3.β i=(e.back σ.bx.length bs.length σ.nx e3).β (σ.bx.length+(i - bs.length)):=by
    rw [Vu (by omega)];congr 1;omega
   rw [this]
   exact .asl _ off n (by show _<bx.length;omega)
 | elem r off b o u hc ho hu=>exact .elem r off b o u hc (fun j hj=>Zhh hS h hL hb (ho j hj)) (fun j x hx=>hd (hu j x hx))
 | sl t el rows v hn hdd ht =>
  refine .sl _ el rows v (by show σ.nx+t<σ.nx+σ3.nx;omega) (hd hdd) fun hp=>?_
  rcases YZ hS h hp with ⟨_,h2⟩ | ⟨t',h1,h2⟩
  ·omega
  ·obtain rfl:t=t':=by omega
   rcases ht h1 with ⟨g1,g2,g3⟩ | ⟨sz,g1,g2,g3,b,off,cap,cs,ty,fz,g4,g5,g6,g7,g8,g9,g10⟩
   ·exact .inl ⟨g1,g2,back_M_new.trans g3⟩
   ·exact .inr ⟨sz,g1,g2,g3,b,off,cap,cs,ty,fz,g4,g5,g6,g7,g8,g9,back_M_new.trans g10⟩
 | nils el=>exact .nils el
 | func f a c va vc ha hc _ _ ih1 ih2 =>
  refine .func f _ _ va vc (by rw [X2];exact ha) (by rw [X2];exact hc) (fun i y u hy hu=>?_) (fun i y u hy hu=>?_)
  ·obtain ⟨x,hx,rfl⟩:=UE i y hy;exact ih1 i x u hx hu
  ·obtain ⟨x,hx,rfl⟩:=UE i y hy;exact ih2 i x u hx hu
 | iface t x v _ ih=>exact .iface t _ v ih
 | agg cs vs hs _ h1 ih=>exact .agg _ vs (by rw [X2];exact hs) (fun i y u hy hu=>by obtain ⟨x,hx,rfl⟩:=UE i y hy;exact ih i x u hx hu) h1
 | tuple cs vs hs _ ih=>exact .tuple _ vs (by rw [X2];exact hs) (fun i y u hy hu=>by obtain ⟨x,hx,rfl⟩:=UE i y hy;exact ih i x u hx hu)
 | raw v=>exact .raw _
theorem JT (hS:SRel G e σ w) (h:Handed e σ w bs rest e2 σ2) (hS3:SRel G e3 σ3 w') (hL:Later e2 σ2 w e3 σ3 w') (hb:Backed σ bs σ3 bx):Stepped e σ w (e.back σ.bx.length bs.length σ.nx e3) (Jy σ rest σ3 bx) w' where
 len:=by show σ.bx.length≤bx.length;rw [hb.len];omega
 beta:=fun i hi=>Yz hi
 X:=rfl
 pres:=fun b off u hu ho=>by
  obtain ⟨h1,h2⟩:=hL.pres b off u hu (h.okc b off ho)
  exact ⟨Zhh hS h hL hb h1,h2⟩
 blocks:=fun b hlt hn ht=>hL.blocks b hlt (fun j hj=>by
   have hj':j<bs.length:=by rw [← h.len];exact hj
   have hbj:=Tk hj'
   rw [h.beta j _ hbj];exact hn _ (h.lt _ (TV hj'))) (fun t htm p hp=>by
   obtain ⟨t0,h1,_,h2⟩:=h.tok t htm p hp;exact ht t0 h1 p h2)
 size:=hL.size
 os:=hL.os
 tape:=hL.tape
 output:=hL.output
 fresh:=fun i h1 h2=>by
  rw [Vu h1]
  have hlen:=hb.len
  have hle:=hb.le
  have:i<bx.length:=h2
  exact hL.fresh _ (by rw [h.len];omega) (by omega)
 ftok:=fun t ht p hp=>by
  rcases YZ hS h ht with ⟨h1,h2⟩ | ⟨t',h1,rfl⟩
  ·rw [Xu h2] at hp;exact .inr ⟨t,h.restIn t h1,p,hp,rfl⟩
  ·rw [back_M_new] at hp
   rcases hL.ftok t' h1 p hp with h2 | ⟨t0,h3,p0,h4,h5⟩
   ·exact .inl h2
   ·obtain ⟨t1,g1,_,g2⟩:=h.tok t0 h3 p0 h4;exact .inr ⟨t1,g1,p0,g2,h5⟩
 nx:=Nat.le_add_right _ _
 toks:=fun t hlt ht=>by
  rcases YZ hS h ht with ⟨h1,_⟩ | ⟨t',h1,rfl⟩
  ·exact ⟨h.restIn t h1,Xu hlt⟩
  ·omega
 own:=fun t hlt ht p hp hplt=>by
  rcases YZ hS h ht with ⟨h1,_⟩ | ⟨t',h1,rfl⟩
  ·obtain ⟨_,hnb,_⟩:=hS.own t (h.restIn t h1) p hp
   refine hL.blocks p.1 hplt (fun j hj=>?_) (fun t2 ht2 p2 hp2=>?_)
   ·have hj':j<bs.length:=by rw [← h.len];exact hj
    have hbj:=Tk hj'
    rw [h.beta j _ hbj];exact hnb _ (h.lt _ (TV hj'))
   ·obtain ⟨t0,g1,g2,g3⟩:=h.tok t2 ht2 p2 hp2
    exact hS.dis t0 t g1 (h.restIn t h1) (fun e=>g2 (e ▸ h1)) p2 p g3 hp
  ·omega
theorem SRel.back (hS:SRel G e σ w) (h:Handed e σ w bs rest e2 σ2) (hS3:SRel G e3 σ3 w') (hL:Later e2 σ2 w e3 σ3 w') (hb:Backed σ bs σ3 bx):SRel G (e.back σ.bx.length bs.length σ.nx e3) (Jy σ rest σ3 bx) w':=by
 have hst:=JT hS h hS3 hL hb
 have hlen:=hb.len
 have hle:=hb.le
 have hbx:(Jy σ rest σ3 bx).bx.length=bx.length:=rfl
 have hnew:∀i,σ.bx.length≤i→i<bx.length→(e.back σ.bx.length bs.length σ.nx e3).β i=e3.β (bs.length+(i - σ.bx.length))∧bs.length+(i - σ.bx.length)<σ3.bx.length∧w.heap.size≤e3.β (bs.length+(i - σ.bx.length)):=fun i h1 h2=>by
  have:=hst.fresh i h1 h2
  rw [Vu h1] at this
  exact ⟨Vu h1,by omega,this⟩
 have hrest:∀t,t∈rest→∀p,e.M t=some p→p.1<w.heap.size:=fun t ht p hp=>by
  obtain ⟨_,_,cs,ty,fz,hh⟩:=hS.own t (h.restIn t ht) p hp
  exact (Tq.1 hh).1
 constructor
 ·intro i j hi hj he
  by_cases h1:i<σ.bx.length <;> by_cases h2:j<σ.bx.length
  ·rw [Yz h1,Yz h2] at he;exact hS.inj i j h1 h2 he
  ·obtain ⟨g1,g2,g3⟩:=hnew j (by omega) hj
   rw [Yz h1,g1] at he
   have:=hS.lt h1;omega
  ·obtain ⟨g1,g2,g3⟩:=hnew i (by omega) hi
   rw [Yz h2,g1] at he
   have:=hS.lt h2;omega
  ·obtain ⟨g1,g2,g3⟩:=hnew i (by omega) hi
   obtain ⟨k1,k2,k3⟩:=hnew j (by omega) hj
   rw [g1,k1] at he
   have:=hS3.inj _ _ g2 k2 he
   omega
 ·intro i x hx
  have hi:=(Ti.1 hx).1
  simp only at hx hi
  have hBk:∀(y:Box) (b:Nat),BRel G e3 σ3 w' y b→BRel G (e.back σ.bx.length bs.length σ.nx e3) (Jy σ rest σ3 bx) w' (Zbi bs bs.length σ.bx.length σ.nx y) b:=fun y b hB=>by
   cases y with
   | cells t cs =>
    obtain ⟨vs,g1,g2,g3⟩:=hB
    refine ⟨vs,g1,by rw [X2];exact g2,fun k z u hz hu=>?_⟩
    obtain ⟨z',hz',rfl⟩:=UE k z hz
    exact ⟨(g3 k z' u hz' hu).1.back hS h hL hb,(g3 k z' u hz' hu).2⟩
   | iter s p=>exact hB
   | loop st pd r=>exact hB
  by_cases h1:i<σ.bx.length
  ·rw [Yz h1]
   rcases Zks h hL h1 with ⟨j,hj,hbj,he⟩ | ⟨hni,hX⟩
   ·have hj3:j<σ3.bx.length:=TM hj hL.len
    have:=hb.some j i _ hbj (Tk hj3)
    rw [this] at hx
    cases hx
    rw [← he]
    exact hBk _ _ (hS3.box j _ (Tk hj3))
   ·rw [hb.old i h1 hni] at hx
    refine (hS.box i x hx).step hst (hL.blocks _ (hS.lt h1) (fun j hj=>?_) (fun t ht p hp=>?_))
    ·have hj':j<bs.length:=by rw [← h.len];exact hj
     have hbj:=Tk hj'
     rw [h.beta j _ hbj]
     intro he
     have:=hS.inj _ _ (h.lt _ (TV hj')) h1 he
     exact hni (this ▸ TV hj')
    ·obtain ⟨t0,g1,_,g2⟩:=h.tok t ht p hp
     exact fun he=>(hS.own t0 g1 p g2).2.1 i h1 he.symm
  ·obtain ⟨g1,g2,g3⟩:=hnew i (by omega) hi
   rw [hb.new i (by omega),Tk g2] at hx
   cases hx
   rw [g1]
   exact hBk _ _ (hS3.box _ _ (Tk g2))
 ·intro i hi
  by_cases h1:i<σ.bx.length
  ·rw [Yz h1];exact hS.low i h1
  ·obtain ⟨g1,g2,g3⟩:=hnew i (by omega) hi
   rw [g1];exact hS3.low _ g2
 ·intro t ht
  rcases YZ hS h ht with ⟨_,h2⟩ | ⟨t',h1,rfl⟩
  ·show t<σ.nx+σ3.nx;omega
  ·have:=hS3.tkn t' h1;show σ.nx+t'<σ.nx+σ3.nx;omega
 ·intro t ht p hp
  rcases YZ hS h ht with ⟨h1,h2⟩ | ⟨t',h1,rfl⟩
  ·rw [Xu h2] at hp
   obtain ⟨g1,g2,cs,ty,fz,g3⟩:=hS.own t (h.restIn t h1) p hp
   refine ⟨g1,fun i hi=>?_,cs,ty,fz,(hst.own t h2 ht p hp (hrest t h1 p hp)).trans g3⟩
   by_cases h3:i<σ.bx.length
   ·rw [Yz h3];exact g2 i h3
   ·obtain ⟨k1,k2,k3⟩:=hnew i (by omega) hi
    rw [k1]
    have:=hrest t h1 p hp;omega
  ·rw [back_M_new] at hp
   obtain ⟨g1,g2,g3⟩:=hS3.own t' h1 p hp
   refine ⟨g1,fun i hi=>?_,g3⟩
   by_cases h3:i<σ.bx.length
   ·rw [Yz h3]
    rcases Zks h hL h3 with ⟨j,hj,_,he⟩ | ⟨_,hX⟩
    ·rw [← he];exact g2 j (TM hj hL.len)
    ·intro he
     exact hS3.xown t' h1 p hp p.2 (Tr _) (he ▸ hX p.2)
   ·obtain ⟨k1,k2,k3⟩:=hnew i (by omega) hi
    rw [k1];exact g2 _ k2
 ·intro t t' ht ht' hne p p' hp hp'
  have mixed:∀t t',t∈rest→t<σ.nx→t'∈σ3.tk→∀p p',e.M t=some p→e3.M t'=some p'→p.1≠p'.1:=fun t t' h1 h2 h3 p p' hp hp' he=>by
   refine hS3.xown t' h3 p' hp' (max p.2 p'.2) (Nat.le_max_right _ _) ?_
   rw [hL.X,h.X]
   exact .inr (.inr ⟨t,h1,p,hp,he,Nat.le_max_left _ _⟩)
  rcases YZ hS h ht with ⟨h1,h2⟩ | ⟨s,h1,rfl⟩ <;> rcases YZ hS h ht' with ⟨k1,k2⟩ | ⟨s',k1,rfl⟩
  ·rw [Xu h2] at hp
   rw [Xu k2] at hp'
   exact hS.dis t t' (h.restIn t h1) (h.restIn t' k1) hne p p' hp hp'
  ·rw [Xu h2] at hp
   rw [back_M_new] at hp'
   exact mixed t s' h1 h2 k1 p p' hp hp'
  ·rw [back_M_new] at hp
   rw [Xu k2] at hp'
   exact fun he=>mixed t' s k1 k2 h1 p' p hp' hp he.symm
  ·rw [back_M_new] at hp hp'
   exact hS3.dis s s' h1 k1 (fun e=>hne (by rw [e])) p p' hp hp'
 ·intro b off hX
  exact TM (hS.xlt b off hX) hL.size
 ·intro t ht p hp off hoff hX
  rcases YZ hS h ht with ⟨h1,h2⟩ | ⟨t',h1,rfl⟩
  ·rw [Xu h2] at hp;exact hS.xown t (h.restIn t h1) p hp off hoff hX
  ·rw [back_M_new] at hp
   refine hS3.xown t' h1 p hp off hoff ?_
   rw [hL.X,h.X];exact .inl hX
 ·exact hS3.glob
 ·exact hS3.big
theorem ZbV {g:FuncId} {sp:Zz} (hP:PCalls G g sp) {args:List PV} {K:PEnd→St→Prop} (hv:ZcJ sp args σ K) :
  VA G.P g∧∀(ro:Option Nat) (n:Nat) (e:Env) (w:World) (vs:Array Value),SRel G e σ w→ArgsRel G e σ w args vs→CallsIn (fw ro) n G.P g vs w (Zuv G e σ w K):=by
 unfold ZcJ at hv
 simp only [Uz] at hv
 generalize Zgo σ.bx (σ.bx.length+1) 0 (ZfJ args [])=bs at hv
 split at hv
 ·rename_i hnd
  obtain ⟨cb,hv,hcl,hcg⟩:=Zhe hv
  obtain ⟨args',tk1,as1,hv,hx1,hI1,hal,hav⟩:=Zg9 (as:=[]) (ZEn σ.tk σ.tk fun _ h=>h) hv
  exact m6
 ·exact hv.elim
theorem ZfK {g:FuncId} {sp:Zz} (hP:PCalls G g sp) {args:List PV} {K:PEnd→St→Prop} (hv:ZbU sp args σ K) :
  VA G.P g∧∀(ro:Option Nat) (n:Nat) (e:Env) (w:World) (vs:Array Value),SRel G e σ w→ArgsRel G e σ w args vs→CallsIn (fw ro) n G.P g vs w (Zuv G e σ w K):=by
 unfold ZbU at hv
 simp only [Uz] at hv
 generalize Zgo σ.bx (σ.bx.length+1) 0 (ZfJ args [])=bs at hv
 split at hv
 ·rename_i hnd
  obtain ⟨cb,hv,hcl,hcg⟩:=Zhe hv
  obtain ⟨args',tk1,as1,hv,hx1,hI1,hal,hav⟩:=ZlP (as:=[]) (ZEn σ.tk σ.tk fun _ h=>h) hv
  exact m6
 ·exact hv.elim
def Zc (sp:Zz):Prop:=∀args σ (K K':PEnd→St→Prop),(∀e σ,K e σ→K' e σ)→sp args σ K→sp args σ K'
theorem ZbW {bs:List Nat} {bx:List Box}:∀{l:List Nat} {K K':List Box→Prop},(∀r,K r→K' r)→Zr4 bs bx l K→Zr4 bs bx l K'
 | [],K,K',hK,h=>hK _ h
 | b::l,K,K',hK,h=>by
  simp only [Zr4] at h ⊢
  split at h
  ·exact ZbW (fun r hr=>hK _ hr) h
  ·exact ZbW (fun r hr=>hK _ hr) h
  ·exact h.elim
  ·exact h.elim
theorem Zpd {n:Nat} {tk:List Nat} {k:Nat} {v:PV} {K K':PV→List Nat→Nat→Prop} (hK:∀v t k,K v t k→K' v t k) (h:Zuo n tk k v K):Zuo n tk k v K':=by
 have gen:∀v,(match bnd n v with | true=>Za7 (clean v) fun v=>K v tk k | false=>K .undef tk k:Prop)→(match bnd n v with | true=>Za7 (clean v) fun v=>K' v tk k | false=>K' .undef tk k:Prop):=fun v h=>by
  split at h
  ·rw [YI] at h ⊢;exact hK _ _ _ h
  ·exact hK _ _ _ h
 cases v with
 | sl t el rows =>
  simp only [Zuo] at h ⊢
  split at h <;> exact hK _ _ _ h
 | nils el=>exact hK _ _ _ h
 | d x=>exact gen (.d x) h
 | undef=>exact gen .undef h
 | ptr b o=>exact gen (.ptr b o) h
 | asl b o n=>exact gen (.asl b o n) h
 | elem r o=>exact gen (.elem r o) h
 | func f a c=>exact gen (.func f a c) h
 | iface t v=>exact gen (.iface t v) h
 | agg cs=>exact gen (.agg cs) h
 | tuple cs=>exact gen (.tuple cs) h
 | raw v=>exact gen (.raw v) h
theorem Zey {n:Nat}:∀{vs:List PV} {tk:List Nat} {k:Nat} {K K':List PV→List Nat→Nat→Prop},(∀v t k,K v t k→K' v t k)→Zup n vs tk k K→Zup n vs tk k K'
 | [],_,_,_,_,hK,h=>hK _ _ _ h
 | v::vs,_,_,_,_,hK,h=>Zpd (fun v t k h=>Zey (fun vs t k h=>hK _ _ _ h) h) h
theorem Znm {n:Nat} {tk:List Nat} {k:Nat} {v:PV} {K K':PV→List Nat→Nat→Prop} (hK:∀v t k,K v t k→K' v t k) (h:Zj7 n tk k v K):Zj7 n tk k v K':=by
 have gen:∀v,(match bnd n v with | true=>Za7 (cleanN v) fun v=>K v tk k | false=>K .undef tk k:Prop)→(match bnd n v with | true=>Za7 (cleanN v) fun v=>K' v tk k | false=>K' .undef tk k:Prop):=fun v h=>by
  split at h
  ·rw [YI] at h ⊢;exact hK _ _ _ h
  ·exact hK _ _ _ h
 cases v with
 | sl t el rows =>
  simp only [Zj7] at h ⊢
  split at h <;> exact hK _ _ _ h
 | nils el=>exact hK _ _ _ h
 | d x=>exact gen (.d x) h
 | undef=>exact gen .undef h
 | ptr b o=>exact gen (.ptr b o) h
 | asl b o n=>exact gen (.asl b o n) h
 | elem r o=>exact gen (.elem r o) h
 | func f a c=>exact gen (.func f a c) h
 | iface t v=>exact gen (.iface t v) h
 | agg cs=>exact gen (.agg cs) h
 | tuple cs=>exact gen (.tuple cs) h
 | raw v=>exact gen (.raw v) h
theorem Zgp {n:Nat}:∀{vs:List PV} {tk:List Nat} {k:Nat} {K K':List PV→List Nat→Nat→Prop},(∀v t k,K v t k→K' v t k)→ZoC n vs tk k K→ZoC n vs tk k K'
 | [],_,_,_,_,hK,h=>hK _ _ _ h
 | v::vs,_,_,_,_,hK,h=>Znm (fun v t k h=>Zgp (fun vs t k h=>hK _ _ _ h) h) h
theorem JU {n:Nat}:∀{m:Nat} {bs:List Box} {tk:List Nat} {k:Nat} {K K':List Box→List Nat→Nat→Prop},(∀v t k,K v t k→K' v t k)→Zj8 n m bs tk k K→Zj8 n m bs tk k K'
 | 0,_,_,_,_,_,hK,h=>by simp only [Zj8] at h ⊢;exact hK _ _ _ h
 | _+1,[],_,_,_,_,_,h=>h.elim
 | _+1,.cells t cs::bs,_,_,_,_,hK,h=>by
  simp only [Zj8] at h ⊢
  exact Zey (fun v t k h=>JU (fun _ _ _ h=>hK _ _ _ h) h) h
 | _+1,.iter s p::bs,_,_,K,K',hK,h=>by
  simp only [Zj8] at h ⊢
  exact JU (K:=fun l tk k=>K (.iter s p::l) tk k) (K':=fun l tk k=>K' (.iter s p::l) tk k) (fun _ _ _ h=>hK _ _ _ h) h
 | _+1,.loop st pd r::bs,_,_,K,K',hK,h=>by
  simp only [Zj8] at h ⊢
  exact JU (K:=fun l tk k=>K (.loop st pd r::l) tk k) (K':=fun l tk k=>K' (.loop st pd r::l) tk k) (fun _ _ _ h=>hK _ _ _ h) h
theorem ZcL {bb:Box→Box}:∀{bs:List Nat} {xs acc:List Box} {K K':List Box→Prop},(∀r,K r→K' r)→Zex bb bs xs acc K→Zex bb bs xs acc K'
 | [],_,_,_,_,hK,h=>by simp only [Zex] at h ⊢;exact hK _ h
 | _::_,[],_,_,_,_,h=>h.elim
 | b::bs,x::xs,_,_,_,hK,h=>by simp only [Zex] at h ⊢;exact ZcL hK h
theorem Zdo {sp:Zz} (hsp:Zc sp):Zc (ZcJ sp):=fun args σ K K' hK h=>by
 unfold ZcJ at h ⊢
 simp only [Uz] at h ⊢
 split at h
 ·exact ZbW (fun cb h=>Zey (fun a t k h=>JU (fun cb' r k h=>hsp _ _ _ _ (fun pe σ3 h=>ZcL (fun bx h=>hK _ _ h) h) h) h) h) h
 ·exact h.elim
theorem Zhi {sp:Zz} (hsp:Zc sp):Zc (ZbU sp):=fun args σ K K' hK h=>by
 unfold ZbU at h ⊢
 simp only [Uz] at h ⊢
 split at h
 ·exact ZbW (fun cb h=>Zgp (fun a t k h=>JU (fun cb' r k h=>hsp _ _ _ _ (fun pe σ3 h=>ZcL (fun bx h=>hK _ _ h) h) h) h) h) h
 ·exact h.elim
end
end Go.PM
end

section
namespace Go.PM
abbrev Tbl:=List (Nat×Zz)
def ZEk:Tbl→Nat→List PV→St→(PEnd→St→Prop)→Prop
 | [],_,_,_,_=>False
 | (g,sp)::l,n,args,σ,K=>match Nat.beq g n with
  | true=>ZcJ sp args σ K
  | false=>ZEk l n args σ K
def TblOK (G:GE):Tbl→Prop
 | []=>True
 | (g,sp)::l=>(PCalls G g sp∧Zc sp)∧TblOK G l
theorem TblOK.sem {G:GE}:∀{l:Tbl},TblOK G l→Zkd G (ZEk l)
 | [],_=>fun _ _ _ _ h=>h.elim
 | (g,sp)::l,⟨⟨h1,_⟩,h2⟩=>fun n args σ K h=>by
  simp only [ZEk] at h
  split at h
  ·rename_i hb
   cases Tn hb
   exact ZbV h1 h
  ·exact TblOK.sem h2 n args σ K h
theorem TblOK.mono {G:GE}:∀{l:Tbl},TblOK G l→∀n args σ (K K':PEnd→St→Prop),(∀e σ,K e σ→K' e σ)→ZEk l n args σ K→ZEk l n args σ K'
 | [],_=>fun _ _ _ _ _ _ h=>h.elim
 | (g,sp)::l,⟨⟨_,h1⟩,h2⟩=>fun n args σ K K' hK h=>by
  simp only [ZEk] at h ⊢
  split at h
  ·exact Zdo h1 _ _ _ _ hK h
  ·exact TblOK.mono h2 n args σ K K' hK h
def ZEl (nl:Nat→Bool) (tbl:Tbl):Tbl→Nat→List PV→St→(PEnd→St→Prop)→Prop
 | [],_,_,_,_=>False
 | (g,sp)::l,n,args,σ,K=>match Nat.beq g n with
  | true=>match nl n with | true=>ZbU sp args σ K | false=>ZcJ sp args σ K
  | false=>ZEl nl tbl l n args σ K
theorem TblOK.semN {G:GE} {nl:Nat→Bool} {tbl:Tbl}:∀{l:Tbl},TblOK G l→Zkd G (ZEl nl tbl l)
 | [],_=>fun _ _ _ _ h=>h.elim
 | (g,sp)::l,⟨⟨h1,_⟩,h2⟩=>fun n args σ K h=>by
  simp only [ZEl] at h
  split at h
  ·rename_i hb
   cases Tn hb
   split at h
   ·exact ZfK h1 h
   ·exact ZbV h1 h
  ·exact TblOK.semN h2 n args σ K h
theorem TblOK.monoN {G:GE} {nl:Nat→Bool} {tbl:Tbl}:∀{l:Tbl},TblOK G l→∀n args σ (K K':PEnd→St→Prop),(∀e σ,K e σ→K' e σ)→ZEl nl tbl l n args σ K→ZEl nl tbl l n args σ K'
 | [],_=>fun _ _ _ _ _ _ h=>h.elim
 | (g,sp)::l,⟨⟨_,h1⟩,h2⟩=>fun n args σ K K' hK h=>by
  simp only [ZEl] at h ⊢
  split at h
  ·split at h
   ·exact Zhi h1 _ _ _ _ hK h
   ·exact Zdo h1 _ _ _ _ hK h
  ·exact TblOK.monoN h2 n args σ K K' hK h
def Zpe:Value→List PV→St→(PEnd→St→Prop)→Prop:=fun _ _ _ _=>False
abbrev Raw:=Value→List PV→St→(PEnd→St→Prop)→Prop
abbrev Znn:=FuncId→List PV→Raw→St→(PEnd→St→Prop)→Prop
def WT:Znn:=fun _ _ _ _ _=>False
def ZyM:LoopAnn:=⟨[],[],fun _ _=>False,fun _ _=>0⟩
def Za:List (Nat×LoopAnn)→Nat→LoopAnn
 | [],_=>ZyM
 | (k,a)::l,n=>match Nat.beq k n with | true=>a | false=>Za l n
def ctx (T:Tab) (tbl:Tbl) (loops:Nat→LoopAnn):Cx:=⟨T,ZEk tbl,Zpe,WT,loops,fun _=>0,fun _=>false,fun _=>false,true,fun _=>none⟩
def ZDh (T:Tab) (tbl:Tbl) (it:Znn) (loops:Nat→LoopAnn):Cx:=⟨T,ZEk tbl,Zpe,it,loops,fun _=>0,fun _=>false,fun _=>false,true,fun _=>none⟩
def Zno (T:Tab) (tbl:Tbl) (it:Znn) (loops:Nat→LoopAnn) (unr:Nat→Nat) (ties:Nat→Bool):Cx:=⟨T,ZEk tbl,Zpe,it,loops,unr,ties,fun _=>false,true,fun _=>none⟩
def ZDi (T:Tab) (tbl:Tbl) (it:Znn) (loops:Nat→LoopAnn) (unr:Nat→Nat) (ties:Nat→Bool) (bsl nl:Nat→Bool):Cx:=⟨T,ZEl nl tbl tbl,Zpe,it,loops,unr,ties,bsl,true,fun _=>none⟩
def ZDj (T:Tab) (tbl:Tbl) (loops:Nat→LoopAnn) (unr:Nat→Nat) (ties:Nat→Bool) (bsl nl:Nat→Bool) (cut:Nat→Option (List Nat×(List PV→St→Prop))):Cx:=⟨T,ZEl nl tbl tbl,Zpe,WT,loops,unr,ties,bsl,true,cut⟩
def ZyN:List (Nat×List Nat×(List PV→St→Prop))→Nat→Option (List Nat×(List PV→St→Prop))
 | [],_=>none
 | (k,a)::l,n=>match Nat.beq k n with | true=>some a | false=>ZyN l n
def VW:List Nat→Nat→Bool
 | [],_=>false
 | k::l,n=>match Nat.beq k n with | true=>true | false=>VW l n
def ZbX:List (Nat×Nat)→Nat→Nat
 | [],_=>0
 | (k,a)::l,n=>match Nat.beq k n with | true=>a | false=>ZbX l n
def Zpf (T:Tab) (tbl:Tbl) (it:Znn) (gid:FuncId) (fn:Func) (loops:Nat→LoopAnn):Znn:=fun g args raw σ K=>match Nat.beq gid g with
 | true=>Nat.ble args.length fn.ntmps=true∧W ⟨T,ZEk tbl,raw,it,loops,fun _=>0,fun _=>false,fun _=>false,true,fun _=>none⟩ (VY fn) (fun e f σ'=>match e with
   | .normal | .ret=>pres T f σ'.bx fn.results.toList fun vs=>K (.ret (JM vs)) σ'
   | .panic v=>K (.panic v) σ'
   | _=>False) (ZfH 0 args) σ
 | false=>False
theorem Y0 {G:GE}:Ja G WT:=fun _ _ _ _ _ h=>h.elim
theorem Znp {G : GE} {T : Tab} {tbl : Tbl} (hT : TabOK T G.P) (hmix : G.P.follows .mixedOrders = true) (ht : TblOK G tbl) {it : Znn} (hit : Ja G it) {gid : FuncId} {fn : Func} {c : Code} (hf : G.P.funcs[gid]? = some fn) (hb : fn.body = some c) (hname : (fn.name == "runtime.NumGoroutine") = false)
  (hok:ZM fn.ntmps c=true) (loops:Nat→LoopAnn):Ja G (Zpf T tbl it gid fn loops):=fun g args raw σ K h=>by
 unfold Zpf at h
 split at h
 ·rename_i hbq
  cases Tn hbq
  refine ⟨Zi hf hname hb,fun n e w vs hS hargs hraw=>?_⟩
  have hbo:VY fn=c:=by simp [VY,hb]
  rw [hbo] at h
  have presM:∀{T:Tab} {f:Frame} {bx:List Box} {l:List ResultVar} {K K':List PV→Prop},(∀vs,K vs→K' vs)→pres T f bx l K→pres T f bx l K':=by
   intro T f bx l
   induction l with
   | nil=>exact fun hK h=>hK _ h
   | cons r l ih =>
    intro K K' hK h
    exact m73
  refine Zew hmix (C:=⟨T,ZEk tbl,raw,it,loops,fun _=>0,fun _=>false,fun _=>false,true,fun _=>none⟩) ⟨hT,ht.sem,hraw,hit,.inl rfl⟩ ⟨fun _ h1 h2=>hT.one h1 h2,ht.mono,fun _ _ _ _ h=>h.elim,rfl⟩ hf hb hok (Tb h.1) h.2 (fun pe f' σ' hq=>?_) hS hargs
  cases pe with
  | normal=>exact presM (fun vs hK e' w' v h1 h2 h3=>⟨.ret (JM vs),σ',e',hK,⟨v,rfl,h2⟩,h1,h3⟩) hq
  | ret=>exact presM (fun vs hK e' w' v h1 h2 h3=>⟨.ret (JM vs),σ',e',hK,⟨v,rfl,h2⟩,h1,h3⟩) hq
  | panic p=>exact fun e' w' v h1 h2 h3=>⟨.panic p,_,e',hq,⟨v,rfl,h2⟩,h1,h3⟩
  | exit id=>exact hq.elim
  | goto l=>exact hq.elim
 ·exact h.elim
theorem Zpg {G : GE} {T : Tab} {tbl : Tbl} (hT : TabOK T G.P) (hmix : G.P.follows .mixedOrders = true) (ht : TblOK G tbl) {it : Znn} (hit : Ja G it) {g : FuncId} {fn : Func} {c : Code} (hf : G.P.funcs[g]? = some fn) (hb : fn.body = some c) (hname : (fn.name == "runtime.NumGoroutine") = false)
  (hok:ZM fn.ntmps c=true) {sp:Zz}
  (h:∀args σ K,sp args σ K→∃loops keep own,σ.bx.length≤keep∧args.length≤fn.ntmps∧WF (ZDh T tbl it loops) fn keep own args σ K):PCalls G g sp where
 enters:=Zi hf hname hb
 calls:=fun args σ K hs n e w vs hS ha=>by
  obtain ⟨loops,keep,own,h1,h2,h3⟩:=h args σ K hs
  exact V5 hmix (C:=ZDh T tbl it loops) ⟨hT,ht.sem,fun _ _ _ _ h=>h.elim,hit,.inl rfl⟩ ⟨fun _ h1 h2=>hT.one h1 h2,ht.mono,fun _ _ _ _ h=>h.elim,rfl⟩ hf hb hok h1 h2 h3 hS ha
theorem Zph {G : GE} {T : Tab} {tbl : Tbl} (hT : TabOK T G.P) (hmix : G.P.follows .mixedOrders = true) (ht : TblOK G tbl) {it : Znn} (hit : Ja G it) {g : FuncId} {fn : Func} {c : Code} (hf : G.P.funcs[g]? = some fn) (hb : fn.body = some c) (hname : (fn.name == "runtime.NumGoroutine") = false)
  (hok:ZM fn.ntmps c=true) {sp:Zz}
  (h:∀args σ K,sp args σ K→∃loops unr ties keep own,σ.bx.length≤keep∧args.length≤fn.ntmps∧WF (Zno T tbl it loops unr ties) fn keep own args σ K):PCalls G g sp where
 enters:=Zi hf hname hb
 calls:=fun args σ K hs n e w vs hS ha=>by
  obtain ⟨loops,unr,ties,keep,own,h1,h2,h3⟩:=h args σ K hs
  exact V5 hmix (C:=Zno T tbl it loops unr ties) ⟨hT,ht.sem,fun _ _ _ _ h=>h.elim,hit,.inl rfl⟩ ⟨fun _ h1 h2=>hT.one h1 h2,ht.mono,fun _ _ _ _ h=>h.elim,rfl⟩ hf hb hok h1 h2 h3 hS ha
theorem Zkt {G : GE} {T : Tab} {tbl : Tbl} (hT : TabOK T G.P) (hmix : G.P.follows .mixedOrders = true) (ht : TblOK G tbl) {g : FuncId} {fn : Func} {c : Code} (hf : G.P.funcs[g]? = some fn) (hb : fn.body = some c) (hname : (fn.name == "runtime.NumGoroutine") = false)
  (hok:ZM fn.ntmps c=true) {sp:Zz}
  (h:∀args σ K,sp args σ K→∃loops unr ties bsl nl keep own,σ.bx.length≤keep∧args.length≤fn.ntmps∧WF (ZDi T tbl WT loops unr ties bsl nl) fn keep own args σ K):PCalls G g sp where
 enters:=Zi hf hname hb
 calls:=fun args σ K hs n e w vs hS ha=>by
  obtain ⟨loops,unr,ties,bsl,nl,keep,own,h1,h2,h3⟩:=h args σ K hs
  exact V5 hmix (C:=ZDi T tbl WT loops unr ties bsl nl) ⟨hT,ht.semN,fun _ _ _ _ h=>h.elim,Y0,.inl rfl⟩ ⟨fun _ h1 h2=>hT.one h1 h2,ht.monoN,fun _ _ _ _ h=>h.elim,rfl⟩ hf hb hok h1 h2 h3 hS ha
theorem ZuB {G : GE} {T : Tab} {tbl : Tbl} (hT : TabOK T G.P) (hmix : G.P.follows .mixedOrders = true) (ht : TblOK G tbl) {g : FuncId} {fn : Func} {c : Code} (hf : G.P.funcs[g]? = some fn) (hb : fn.body = some c) (hname : (fn.name == "runtime.NumGoroutine") = false)
  (hok:ZM fn.ntmps c=true) {sp:Zz}
  (h:∀args σ K,sp args σ K→∃loops unr ties bsl nl cut keep own,σ.bx.length≤keep∧args.length≤fn.ntmps∧WF (ZDj T tbl loops unr ties bsl nl cut) fn keep own args σ K):PCalls G g sp where
 enters:=Zi hf hname hb
 calls:=fun args σ K hs n e w vs hS ha=>by
  obtain ⟨loops,unr,ties,bsl,nl,cut,keep,own,h1,h2,h3⟩:=h args σ K hs
  exact V5 hmix (C:=ZDj T tbl loops unr ties bsl nl cut) ⟨hT,ht.semN,fun _ _ _ _ h=>h.elim,Y0,.inl rfl⟩ ⟨fun _ h1 h2=>hT.one h1 h2,ht.monoN,fun _ _ _ _ h=>h.elim,rfl⟩ hf hb hok h1 h2 h3 hS ha
theorem Zku {G : GE} {T : Tab} {tbl : Tbl} (hT : TabOK T G.P) (hmix : G.P.follows .mixedOrders = true) (ht : TblOK G tbl) {g : FuncId} {fn : Func} {c : Code} (hf : G.P.funcs[g]? = some fn) (hb : fn.body = some c) (hname : (fn.name == "runtime.NumGoroutine") = false)
  (hok:ZM fn.ntmps c=true) {sp:Zz}
  (h:∀args σ K,sp args σ K→∃loops unr ties keep own,σ.bx.length≤keep∧args.length≤fn.ntmps∧WF (Zno T tbl WT loops unr ties) fn keep own args σ K):PCalls G g sp :=
 Zph hT hmix ht Y0 hf hb hname hok h
theorem ZiK {G : GE} {T : Tab} {tbl : Tbl} (hT : TabOK T G.P) (hmix : G.P.follows .mixedOrders = true) (ht : TblOK G tbl) {g : FuncId} {fn : Func} {c : Code} (hf : G.P.funcs[g]? = some fn) (hb : fn.body = some c) (hname : (fn.name == "runtime.NumGoroutine") = false)
  (hok:ZM fn.ntmps c=true) {sp:Zz}
  (h:∀args σ K,sp args σ K→∃loops keep own,σ.bx.length≤keep∧args.length≤fn.ntmps∧WF (ctx T tbl loops) fn keep own args σ K):PCalls G g sp :=
 Zpg hT hmix ht Y0 hf hb hname hok h
theorem ZEb {p:Prop} [Decidable p] {X Y:Prop} (h1:p→X) (h2:¬p→Y):CondP (decide p) X Y:=by
 by_cases h:p
 ·simp only [h,decide_true];exact h1 h
 ·simp only [h,decide_false];exact h2 h
theorem ZEf {p:Prop} [Decidable p] {X Y:Prop} (h1:¬p→X) (h2:p→Y):CondP (!decide p) X Y:=by
 by_cases h:p
 ·simp only [h,decide_true];exact h2 h
 ·simp only [h,decide_false];exact h1 h
theorem InR.i64 {n:Int} (h1:-9223372036854775808≤n) (h2:n≤9223372036854775807):InR .i64 n:=by
 unfold InR IntKind.wrap
 exact m137
theorem InR.i32 {n:Int} (h1:-2147483648≤n) (h2:n≤2147483647):InR .i32 n:=by
 unfold InR IntKind.wrap
 simp only [show IntKind.i32.bits=32 from rfl,show IntKind.i32.signed=true from rfl,TC]
 split <;> simp at * <;> omega
theorem InR.u8 {n:Int} (h1:0≤n) (h2:n≤255):InR .u8 n:=by
 unfold InR IntKind.wrap
 simp only [show IntKind.u8.bits=8 from rfl,show IntKind.u8.signed=false from rfl,TG]
 simp;omega
theorem InR.u32 {n:Int} (h1:0≤n) (h2:n≤4294967295):InR .u32 n:=by
 unfold InR IntKind.wrap
 simp only [show IntKind.u32.bits=32 from rfl,show IntKind.u32.signed=false from rfl,TG]
 simp;omega
theorem InR.u64 {n:Int} (h1:0≤n) (h2:n≤18446744073709551615):InR .u64 n:=by
 unfold InR IntKind.wrap
 simp only [show IntKind.u64.bits=64 from rfl,show IntKind.u64.signed=false from rfl,TG]
 simp;omega
theorem oiO {n:Int} {K X:Prop} (q:K) (h1:-9223372036854775808≤n:=by omega) (h2:n≤9223372036854775807:=by omega):InR .i64 n∧K∨X:=.inl ⟨InR.i64 h1 h2,q⟩
theorem oiD {n:Int} {K X:Prop} (q:K) (h1:-9223372036854775808≤n:=by decide) (h2:n≤9223372036854775807:=by decide):InR .i64 n∧K∨X:=.inl ⟨InR.i64 h1 h2,q⟩
theorem oiB {n:Int} {K X:Prop} (q:K) (h1:0≤n:=by omega) (h2:n≤255:=by omega):InR .u8 n∧K∨X:=.inl ⟨InR.u8 h1 h2,q⟩
theorem oiU {n:Int} {K X:Prop} (q:K) (h1:0≤n:=by omega) (h2:n≤18446744073709551615:=by omega):InR .u64 n∧K∨X:=.inl ⟨InR.u64 h1 h2,q⟩
theorem ZrL {K:PEnd→St→Prop} {p p':PEnd} {σ σ':St} (h:K p σ) (h1:p=p') (h2:σ=σ'):K p' σ':=by subst h1;subst h2;exact h
end Go.PM
end

section
namespace Go.PM
structure PDef (G:GE) (g:FuncId) (spR:List PV→St→(St→Prop)→Prop) (spP:PV→List PV→St→(St→Prop)→Prop):Prop where
 enters:VA G.P g
 ret:∀args σ K,spR args σ K→∀(n:Nat) (e:Env) (w:World) (vs:Array Value),SRel G e σ w→ArgsRel G e σ w args vs →
  CallsDIn (fw none) n G.P g vs .returning w fun en u' w'=>u'=.returning∧(∃r,en=.returned r)∧∃σ' e',K σ'∧SRel G e' σ' w'∧Later e σ w e' σ' w'
 pan:∀pv args σ K,spP pv args σ K→∀(n:Nat) (e:Env) (w:World) (vs:Array Value) (v:Value),SRel G e σ w→ArgsRel G e σ w args vs→VRel G e σ w pv v →
  CallsDIn (fw none) n G.P g vs (.panicking [{ v:=v,recovered:=false }]) w fun en u' w'=>u'=.panicking [{ v:=v,recovered:=true }]∧(∃r,en=.returned r)∧∃σ' e',K σ'∧SRel G e' σ' w'∧Later e σ w e' σ' w'
def ZBR (c:Code):Option (Nat×Nat×Code):=match c with
 | .seq (.region _ ops false) rest=>match ops.toList with
  | [o1,o2]=>match o1.op,o1.dst,o1.guard,o2.op,o2.dst,o2.guard with
   | .call { callee:=.builtin .recover,args,.. },some a,none,.assign (.tmp a'),some b,none=>match args.toList,Nat.beq a a' with
    | [],true=>some (a,b,rest)
    | _,_=>none
   | _,_,_,_,_,_=>none
  | _=>none
 | _=>none
theorem Zpz {c:Code} {a b:Nat} {rest:Code} (h:ZBR c=some (a,b,rest)):∃id ops o1 o2 at',c=.seq (.region id ops false) rest∧ops=#[o1,o2]∧o1.op=.call { callee:=.builtin .recover,args:=#[],argTypes:=at' }∧o1.dst=some a∧o1.guard=none∧o2.op=.assign (.tmp a)∧o2.dst=some b∧o2.guard=none:=by
 unfold ZBR at h
 split at h
 ·rename_i id ops rest'
  split at h
  ·rename_i o1 o2 hops
   split at h
   ·rename_i args at' a1 a2 b1 h1 h2 h3 h4 h5 h6
    split at h
    ·rename_i h7 h8
     cases h
     have:=Tn h8
     subst this
     have ha:args=#[]:=by apply Array.ext';simpa using h7
     subst ha
     exact ⟨id,ops,o1,o2,at',rfl,by apply Array.ext';simpa using hops,h1,h2,h3,h4,h5,h6⟩
    ·cases h
   ·cases h
  ·cases h
 ·cases h
section
variable {G:GE}
def Zy1 (T:Tab) (fn:Func) (keep:Nat) (K:St→Prop):PQ:=fun e f σ=>match e with
 | .normal | .ret=>pres T f σ.bx fn.results.toList fun vs=>Za8 keep false (JM vs) σ fun _ σ'=>K σ'
 | _=>False
theorem ZuU {T : Tab} {tbl : Tbl} (hT : TabOK T G.P) (hmix : G.P.follows .mixedOrders = true) (ht : TblOK G tbl) {g : FuncId} {fn : Func} {c : Code} (hf : G.P.funcs[g]? = some fn) (hb : fn.body = some c) (hname : (fn.name == "runtime.NumGoroutine") = false)
  {a b:Nat} {rest:Code} (hrec:ZBR c=some (a,b,rest)) (hok:ZM fn.ntmps c=true) {spR:List PV→St→(St→Prop)→Prop} {spP:PV→List PV→St→(St→Prop)→Prop}
  (hr:∀args σ K,spR args σ K→∃loops keep,σ.bx.length≤keep∧args.length≤fn.ntmps∧W (ctx T tbl loops) rest (Zy1 T fn keep K) (ZaM (ZaM (ZfH 0 args) a (.d .nili)) b (.d .nili)) σ)
  (hp:∀pv args σ K,spP pv args σ K→∃loops keep,σ.bx.length≤keep∧args.length≤fn.ntmps∧W (ctx T tbl loops) rest (Zy1 T fn keep K) (ZaM (ZaM (ZfH 0 args) a pv) b pv) σ):PDef G g spR spP:=by
 obtain ⟨id,ops,o1,o2,at',rfl,rfl,q1,q2,q3,q4,q5,q6⟩:=Zpz hrec
 simp only [ZM,Tj,Zpc,q2,q5] at hok
 have ha:a<fn.ntmps:=by have:=Tb hok.1.1.1;omega
 have hbN:b<fn.ntmps:=by have:=Tb hok.1.1.2.1;omega
 have walk:∀(pv:PV) (v:Value) (u u':FrameMode) (args:List PV) (σ:St) (K:St→Prop) (loops:Nat→LoopAnn) (keep:Nat),σ.bx.length≤keep→args.length≤fn.ntmps→W (ctx T tbl loops) rest (Zy1 T fn keep K) (ZaM (ZaM (ZfH 0 args) a pv) b pv) σ →
   (∀(c₀:Go.Frame) (cs:List Go.Frame),c₀.mode=u→match recoverD (c₀::cs) with | some (x,cs')=>x=v∧cs'={ c₀ with mode:=u' }::cs | none=>v=.nilIface∧u'=u) →
   ∀(n:Nat) (e:Env) (w:World) (vs:Array Value),SRel G e σ w→ArgsRel G e σ w args vs→VRel G e σ w pv v →
   CallsDIn (fw none) n G.P g vs u w fun en u2 w'=>u2=u'∧(∃r,en=.returned r)∧∃σ' e',K σ'∧SRel G e' σ' w'∧Later e σ w e' σ' w':=by
  intro pv v u u' args σ K loops keep hk hlen hW hrc n e w vs hS hargs hv
  refine callsDIn_of_wpSIn hf hb trivial fun c₀ cs hu=>?_
  have hsz:vs.size=args.length:=hargs.1
  have hF:FRel G e σ w (ZfH 0 args) (vs++Array.replicate (fn.ntmps - vs.size) undef):=Zav args 0 fun k x hx=>by
   exact m27
  refine wpSIn_seq (wpSIn_region ?_)
  let A0:Act:={ tmps:=vs++Array.replicate (fn.ntmps - vs.size) undef,defers:=[] }
  have hA0:A0.tmps.size=fn.ntmps:=by simp [A0];omega
  have s0:(#[o1,o2]:Array Oper)[0]?=some o1:=rfl
  have s1:(#[o1,o2]:Array Oper)[1]?=some o2:=rfl
  have w1:∀t,Region.wanted o1 (yielded #[o1,o2] t)=true:=fun t=>by simp [Region.wanted,q3]
  have w2:∀t,Region.wanted o2 (yielded #[o1,o2] t)=true:=fun t=>by simp [Region.wanted,q6]
  have x1:∀A:Act,(execOp A.eval o1).run G.P w=.ok .recover w:=fun A=>by
   unfold execOp
   simp only [q1,resolve,Sem.run_bind,Sem.run_pure,Result.andThen,invoke,builtin]
  have x2:∀A:Act,(execOp A.eval o2).run G.P w=.ok (.value (A.eval (.tmp a))) w:=fun A=>by
   unfold execOp
   simp only [q4,Sem.run_pure]
  have y2:(A0.put (some a) v).eval (.tmp a)=v:=by
   simp [Act.put,Act.eval,T5,hA0,ha]
  have tail:rest.wpSIn (fw none) n G.P (bodyPostS G.P fn c₀ cs fun en u2 w'=>u2=u'∧(∃r,en=.returned r)∧∃σ' e',K σ'∧SRel G e' σ' w'∧Later e σ w e' σ' w') ((A0.put (some a) v).put (some b) v) ({ c₀ with mode:=u' }::cs) w:=by
   have hF1:FRel G e σ w (ZaM (ZfH 0 args) a pv) (A0.put (some a) v).tmps:=FRel.put (a:=A0) (d:=some a) hF hv (fun i hi=>by cases hi;rw [hA0];exact ha)
   have hF2:FRel G e σ w (ZaM (ZaM (ZfH 0 args) a pv) b pv) ((A0.put (some a) v).put (some b) v).tmps:=FRel.put (a:=A0.put (some a) v) (d:=some b) hF1 hv (fun i hi=>by cases hi;rw [Y9,hA0];exact hbN)
   refine wpSIn_of_wpIn rfl (wpIn_mono (JR (n:=n) (ro:=none) (ds:=(w.heap.size,[],true)) hmix rest (C:=ctx T tbl loops) ⟨hT,ht.sem,fun _ _ _ _ h=>h.elim,Y0,.inl rfl⟩ ⟨fun _ h1 h2=>hT.one h1 h2,ht.mono,fun _ _ _ _ h=>h.elim,rfl⟩ (fun _ _ _ _ _ _ h=>h) hok.2 [] #[] (YF _) _
    (a:=(A0.put (some a) v).put (some b) v) hS hF2 (Later.refl e σ w) (by rw [Y9,Y9,hA0]) (by rw [Ww,Ww];exact Marks.nil e σ (Tr _)) (fun i hi=>by cases hi) hW) fun x a' w' hp=>?_)
   obtain ⟨pe,f',e',σ',hq,hx,h1,h2,h3,h4,⟨_,rs,h5,h5f,_⟩,h6⟩:=hp
   have hd0:a'.defers=[]:=by rw [h5,h5f rfl];rfl
   have done:(pres T f' σ'.bx fn.results.toList fun vs=>Za8 keep false (JM vs) σ' fun _ σ''=>K σ'')→∃r,(results fn a'.tmps).run G.P w'=.ok r w'∧u'=u'∧(∃r',Ending.returned r=.returned r')∧∃σ' e',K σ'∧SRel G e' σ' w'∧Later e σ w e' σ' w':=fun hl=>by
    obtain ⟨pvs,r,hlv,hr,hvr⟩:=Wb (C:=ctx T tbl loops) hT h1 h2 hl
    exact m136
   cases pe with
   | normal=>obtain rfl:x=.normal:=hx;obtain ⟨r,hr,hR⟩:=done hq;exact ⟨hd0,u',rfl,r,hr,hR⟩
   | ret=>obtain rfl:x=.ret:=hx;obtain ⟨r,hr,hR⟩:=done hq;exact ⟨hd0,u',rfl,r,hr,hR⟩
   | exit id=>exact hq.elim
   | goto l=>exact hq.elim
   | panic p=>exact hq.elim
  show wpOpsSIn (fw none) n G.P #[o1,o2] _ [0,1] A0 (c₀::cs) w
  simp only [wpOpsSIn,s0,s1,w1,w2,if_true,x1,x2,q2,q5]
  refine ⟨fun _ _=>trivial,?_⟩
  have hh:=hrc c₀ cs hu
  cases hrd:recoverD (c₀::cs) with
  | none =>
   rw [hrd] at hh
   obtain ⟨rfl,rfl⟩:=hh
   have hc0:({ c₀ with mode:=u' }:Go.Frame)=c₀:=by subst hu;rfl
   rw [hc0] at tail
   simp only [y2]
   exact ⟨fun _ _=>trivial,tail⟩
  | some p =>
   obtain ⟨x,cs'⟩:=p
   rw [hrd] at hh
   obtain ⟨rfl,rfl⟩:=hh
   simp only [y2]
   exact ⟨fun _ _=>trivial,tail⟩
 refine ⟨Zi hf hname hb,fun args σ K hs n e w vs hS hargs=>?_,fun pv args σ K hs n e w vs v hS hargs hv=>?_⟩
 ·obtain ⟨loops,keep,h1,h2,h3⟩:=hr args σ K hs
  exact walk (.d .nili) .nilIface .returning .returning args σ K loops keep h1 h2 h3 (fun c₀ cs hu=>by simp [recoverD,hu]) n e w vs hS hargs (.d _ _ .nili)
 ·obtain ⟨loops,keep,h1,h2,h3⟩:=hp pv args σ K hs
  exact walk pv v _ _ args σ K loops keep h1 h2 h3 (fun c₀ cs hu=>by simp [recoverD,hu]) n e w vs hS hargs hv
end
def Zb5:List Oper→Option (List Oper×Oper)
 | []=>none
 | [o]=>some ([],o)
 | o::p::l=>match Zb5 (p::l) with | some (a,b)=>some (o::a,b) | none=>none
theorem Uj:∀{l:List Oper} {i:List Oper} {o:Oper},Zb5 l=some (i,o)→l=i++[o]
 | [],i,o,h=>by cases h
 | [x],i,o,h=>by cases h;rfl
 | x::p::l,i,o,h=>by
  simp only [Zb5] at h
  split at h
  ·rename_i a b hs
   cases h
   rw [Uj hs];rfl
  ·cases h
def ZeJ (o:Oper):Option (Operand×List Operand):=match o.op,o.guard,o.dst with
 | .defer { callee:=.value x,args,.. },none,none=>some (x,args.toList)
 | _,_,_=>none
theorem ZaX {o:Oper} {x:Operand} {args:List Operand} (h:ZeJ o=some (x,args)):∃as at',o.op=.defer { callee:=.value x,args:=as,argTypes:=at' }∧as.toList=args∧o.guard=none∧o.dst=none:=by
 unfold ZeJ at h
 split at h
 ·rename_i x' as at' h1 h2 h3;cases h;exact ⟨as,at',h1,rfl,h2,h3⟩
 ·cases h
def ZeK (c:Code):Option (List Oper×List Oper×Operand×List Operand):=match c with
 | .region _ ops false=>match Zb5 ops.toList with
  | some (init,last)=>match ZeJ last with
   | some (x,args)=>some (ops.toList,init,x,args)
   | none=>none
  | none=>none
 | _=>none
def WD (C:Cx) (g0:FuncId) (Q0:PQ) (Q1:List PV→PQ):Code→Frame→St→Prop
 | .seq a b,f,σ=>match ZeK a with
  | some (all,init,x,args)=>ZtG C all (fun e f σ=>match e with
    | .normal=>(match ev f x with
     | .func g first caps=>(match Nat.beq g g0 with
      | true=>W C b (Q1 (X0 (first++args.map (ev f)++caps))) f σ
      | false=>False)
     | _=>False)
    | e=>Q0 e f σ) init f σ
  | none=>W C a (fun e f σ=>match e with | .normal=>WD C g0 Q0 Q1 b f σ | e=>Q0 e f σ) f σ
 | c,f,σ=>W C c Q0 f σ
section
variable {G:GE} {C:Cx} {e0:Env} {σ0:St} {w0:World} {n N:Nat} {ds:Nat×List Deferred×Bool} {Z:Array Value→Prop} {Q:PQ}
theorem Zbq (hC:CxOK G C none e0 σ0 w0) {ops:Array Oper} {rest:List Nat} {QQ:Exit→Act→World→Prop} (hd:∀o,o∈ops→∀d,o.dst=some d→d<N∧∀t v,Z t→Z (t.setIfInBounds d v))
  (hQQ:∀x a w,x≠.normal→Z9 G e0 σ0 w0 ds N Z Q x a w→QQ x a w) (hend:∀a w,Z9 G e0 σ0 w0 ds N Z Q .normal a w→wpOpsIn (fw none) n G.P ops QQ rest a w) :
  ∀(l:List Oper) (k:Nat),(∀j,j<l.length→l[j]?=ops[k+j]?)→∀{e:Env} {σ:St} {w:World} {a:Act} {f:Frame},
  SRel G e σ w→FRel G e σ w f a.tmps→Later e0 σ0 w0 e σ w→a.tmps.size=N→Marks ds e σ w a.defers→Z a.tmps→ZtG C ops.toList Q l f σ→wpOpsIn (fw none) n G.P ops QQ (List.range' k l.length++rest) a w
 | [],k,_,e,σ,w,a,f,hS,hF,hL,hN,hds,hZ,h=>hend a w ⟨.normal,f,e,σ,h,rfl,hS,hF,hL,hN,hds,hZ⟩
 | o::l,k,hl,e,σ,w,a,f,hS,hF,hL,hN,hds,hZ,h=>by
  have h0:ops[k]?=some o:=by simpa using (hl 0 (by simp)).symm
  have hstep:=Zdi (ro:=none) (n:=n) hC hS hF hL hN hds hZ (ops:=ops) (hd o (Sg h0)) h
  have next:∀a' w',KRel G e0 σ0 w0 ds N Z (ZtG C ops.toList Q l) a' w'→wpOpsIn (fw none) n G.P ops QQ (List.range' (k+1) l.length++rest) a' w':=fun a' w' ⟨f',e',σ',h1,h2,h3,h4,h5,h6,h7⟩ =>
   Zbq hC hd hQQ hend l (k+1) (fun j hj=>by have:=hl (j+1) (by simp;omega);simpa [So,Nat.add_comm 1 j] using this) h2 h3 h4 h5 h6 h7 h1
  rw [Tc,List.range'_succ,Tm]
  simp only [wpOpsIn,h0]
  split at hstep
  ·rename_i hw
   rw [Th hw]
   exact ZEo hQQ (Oper.wpIn_mono next hstep)
  ·rename_i hw
   rw [Te hw]
   exact ⟨fun _ _=>trivial,next _ _ hstep⟩
def ZQ (g0:FuncId) (va vc:Array Value):Deferred:={ target:=.fn (.func g0) vc,args:=va }
def Znw (G:GE) (g0:FuncId) (e0:Env) (σ0:St) (w0:World) (N:Nat) (Q0:PQ) (Q1:List PV→PQ):Exit→Act→World→Prop:=fun x a w =>
 Z9 G e0 σ0 w0 (0,[],true) N (Kept [] #[]) Q0 x a w ∨
 ∃fa va vc e1 σ1 w1,Later e0 σ0 w0 e1 σ1 w1∧ArgsRel G e1 σ1 w1 fa (va++vc)∧Z9 G e1 σ1 w1 (0,[ZQ g0 va vc],true) N (Kept [] #[]) (Q1 (X0 fa)) x a w
theorem Zsd {g0:FuncId} {Q0:PQ} {Q1:List PV→PQ} (hmix:G.P.follows .mixedOrders=true) (hC:∀e σ w,CxOK G C none e σ w) (hM:CxMono C.calm) (hI:∀g args raw σ K,¬C.iter g args raw σ K) :
  ∀(c:Code),ZM N c=true→∀{e:Env} {σ:St} {w:World} {a:Act} {f:Frame},SRel G e σ w→FRel G e σ w f a.tmps→Later e0 σ0 w0 e σ w→a.tmps.size=N→a.defers=[]→WD C g0 Q0 Q1 c f σ →
   c.wpIn (fw none) n G.P (Znw G g0 e0 σ0 w0 N Q0 Q1) a w:=by
 have plain:∀(c:Code),ZM N c=true→∀{e:Env} {σ:St} {w:World} {a:Act} {f:Frame},SRel G e σ w→FRel G e σ w f a.tmps→Later e0 σ0 w0 e σ w→a.tmps.size=N→a.defers=[]→W C c Q0 f σ→c.wpIn (fw none) n G.P (Znw G g0 e0 σ0 w0 N Q0 Q1) a w :=
  fun c hok {e σ w a f} hS hF hL hN hd h=>wpIn_mono (JR (n:=n) (ro:=none) (ds:=(0,[],true)) hmix c (hC _ _ _) hM (fun _=>hI) hok [] #[] (YF _) _ hS hF hL hN (by rw [hd];exact Marks.nil e σ (Sa _)) (fun i hi=>by cases hi) h) fun x a w hp=>.inl hp
 intro c
 induction c with
 | seq c1 c2 ih1 ih2 =>
  intro hok e σ w a f hS hF hL hN hd h
  have hok':=hok
  simp only [ZM,Tj] at hok'
  have hM0:Marks (0,[],true) e σ w a.defers:=by rw [hd];exact Marks.nil e σ (Sa _)
  simp only [WD] at h
  split at h
  ·rename_i all init x args hdi
   unfold ZeK at hdi
   split at hdi
   ·rename_i id ops
    split at hdi
    ·rename_i init' last hsl
     split at hdi
     ·rename_i x' args' hdc
      cases hdi
      have hops:=Uj hsl
      obtain ⟨as,at',hop,has,hg,hdst⟩:=ZaX hdc
      have hsize:ops.size=init.length+1:=by rw [← Si,hops];simp
      have hlast:ops[init.length]?=some last:=by rw [← Tx,hops];simp
      have hopsOK:=hok'.1
      simp only [ZM,Tj] at hopsOK
      have hd2:∀o,o∈ops→∀d,o.dst=some d→d<N∧∀t v,Kept [] #[] t→Kept [] #[] (t.setIfInBounds d v):=fun o ho d hdd=>⟨Zau hopsOK.1 o (TO.1 ho) d hdd,fun t v _ i hi=>by cases hi⟩
      refine wpIn_seq (wpIn_region ?_)
      rw [show List.range ops.size=List.range' 0 init.length++[init.length] from by rw [hsize,List.range_succ,List.range_eq_range']]
      refine Zbq (N:=N) (Z:=Kept [] #[]) (ds:=(0,[],true)) (hC e0 σ0 w0) hd2 (fun x a w hx hp=>?_) (fun a1 w1 hp=>?_) init 0 (fun j hj=>?_) hS hF hL hN hM0 (fun i hi=>by cases hi) h
      ·exact m77
      ·obtain ⟨pe,f',e',σ',hq,hxr,h1,h2,h3,h4,⟨_,rs,h5,h5f,_⟩,h6⟩:=hp
       cases pe with
       | normal =>
        simp only at hq
        have hv:=ZaP h2 x
        split at hq
        ·rename_i g first caps heq
         split at hq
         ·rename_i hgb
          cases Tn hgb
          rw [heq] at hv
          generalize hgv:a1.eval x=v at hv
          cases hv with
          | func _ _ _ va vc ha hc k1 k2 =>
           have hd0:a1.defers=[]:=by rw [h5,h5f rfl];rfl
           have hargs:ArgsRel G e' σ' w1 (first++args.map (ev f')++caps) (va++as.map a1.eval++vc):=by
            exact m99
           have hw:Region.wanted last (yielded ops a1.tmps)=true:=by simp [Region.wanted,hg]
           simp only [wpOpsIn,hlast,hw,if_true]
           have hrun:(execOp a1.eval last).run G.P w1=.ok (.defer (ZQ g0 (va++as.map a1.eval) vc)) w1:=by
            exact m144
           refine ⟨fun _ _=>trivial,?_⟩
           rw [show (fw none).round=none from rfl,Oper.semAt_none,hrun,Oper.uponIn_defer]
           rw [hdst]
           show c2.wpIn (fw none) n G.P (Znw G g0 e0 σ0 w0 N Q0 Q1) { a1 with defers:=ZQ g0 (va++as.map a1.eval) vc::a1.defers } w1
           rw [hd0]
           refine wpIn_mono (JR (n:=n) (ro:=none) (ds:=(0,[ZQ g0 (va++as.map a1.eval) vc],true)) hmix c2 (hC e' σ' w1) hM (fun _=>hI) hok'.2 [] #[] (YF _) _ (a:={ a1 with defers:=[ZQ g0 (va++as.map a1.eval) vc] }) h1 h2 (Later.refl _ _ _) h4
            ⟨Sa _,[],rfl,fun _=>rfl,List.nodup_nil,fun r h=>by cases h⟩ (fun i hi=>by cases hi) hq) fun x a w hp=>.inr ⟨_,_,_,e',σ',w1,h3,hargs,hp⟩
         ·exact hq.elim
        ·exact hq.elim
       | exit id=>cases hxr
       | goto l=>cases hxr
       | ret=>cases hxr
       | panic p=>obtain ⟨_,hxr,_⟩:=hxr;cases hxr
      ·rw [← Tx,hops,Sm,TP hj]
     ·cases hdi
    ·cases hdi
   ·cases hdi
  ·refine wpIn_seq (wpIn_mono (JR (n:=n) (ro:=none) (ds:=(0,[],true)) hmix c1 (hC _ _ _) hM (fun _=>hI) hok'.1 [] #[] (YF _) _ hS hF hL hN hM0 (fun i hi=>by cases hi) h) fun x a1 w1 hp=>?_)
   obtain ⟨pe,f',e',σ',hq,hxr,h1,h2,h3,h4,h5,h6⟩:=hp
   cases pe with
   | normal =>
    obtain rfl:x=.normal:=hxr
    obtain ⟨_,rs,h5,h5f,_⟩:=h5
    exact ih2 hok'.2 h1 h2 h3 h4 (by rw [h5,h5f rfl];rfl) hq
   | exit id=>obtain rfl:x=.exit id:=hxr;exact .inl ⟨.exit id,f',e',σ',hq,rfl,h1,h2,h3,h4,h5,h6⟩
   | goto l=>obtain rfl:x=.goto l:=hxr;exact .inl ⟨.goto l,f',e',σ',hq,rfl,h1,h2,h3,h4,h5,h6⟩
   | ret=>obtain rfl:x=.ret:=hxr;exact .inl ⟨.ret,f',e',σ',hq,rfl,h1,h2,h3,h4,h5,h6⟩
   | panic p=>obtain ⟨v,rfl,hv⟩:=hxr;exact .inl ⟨.panic p,f',e',σ',hq,⟨v,rfl,hv⟩,h1,h2,h3,h4,h5,h6⟩
 | _=>intro hok e σ w a f hS hF hL hN hd h;exact plain _ hok hS hF hL hN hd h
end
def ZuV (T:Tab) (fn:Func) (keep:Nat) (own:Bool) (spR:List PV→St→(St→Prop)→Prop) (spP:PV→List PV→St→(St→Prop)→Prop) (R:PEnd→St→Prop) (fa:List PV):PQ:=fun e f σ=>match e with
 | .normal | .ret=>spR fa σ fun σ2=>pres T (Jv f) σ2.bx fn.results.toList fun vs=>Za8 keep own (JM vs) σ2 fun v σ'=>R (.ret v) σ'
 | .panic pv=>spP pv fa σ fun σ2=>pres T (Jv f) σ2.bx fn.results.toList fun vs=>Za8 keep own (JM vs) σ2 fun v σ'=>R (.ret v) σ'
 | _=>False
theorem ArgsRel.clean {G:GE} {e e':Env} {σ σ':St} {w w':World} {fa:List PV} {vs:Array Value} (h:ArgsRel G e σ w fa vs) (hL:Later e σ w e' σ' w'):ArgsRel G e' σ' w' (X0 fa) vs:=by
 refine ⟨by rw [Xt];exact h.1,fun i y u hy hu=>?_⟩
 obtain ⟨x,hx,rfl⟩:=Vt i y hy
 have hv:=h.2 i x u hx hu
 exact VRel.clean hL.len hL.beta hL.pres hv hv.bnd
theorem CallsDIn.mono {F:Fence} {n:Nat} {P:Program} {f:FuncId} {args:Array Value} {u:FrameMode} {w:World} {R R':Ending→FrameMode→World→Prop} (h:CallsDIn F n P f args u w R) (hR:∀e u w,R e u w→R' e u w):CallsDIn F n P f args u w R' :=
 ⟨h.1,fun c cs hu hr=>let ⟨e,u',w',fr,h1,h2⟩:=h.2 c cs hu hr;⟨e,u',w',fr,hR _ _ _ h1,h2⟩⟩
theorem ZpA {G : GE} {T : Tab} {tbl : Tbl} (hT : TabOK T G.P) (hmix : G.P.follows .mixedOrders = true) (ht : TblOK G tbl) {g : FuncId} {fn : Func} {c : Code} (hf : G.P.funcs[g]? = some fn) (hb : fn.body = some c) (hname : (fn.name == "runtime.NumGoroutine") = false)
  (hok:ZM fn.ntmps c=true) {g0:FuncId} {spR:List PV→St→(St→Prop)→Prop} {spP:PV→List PV→St→(St→Prop)→Prop} (hd:PDef G g0 spR spP) {sp:Zz}
  (h:∀args σ K,sp args σ K→∃loops unr ties keep own,σ.bx.length≤keep∧args.length≤fn.ntmps∧WD (Zno T tbl WT loops unr ties) g0 (ZrT T fn keep own K) (ZuV T fn keep own spR spP K) (VY fn) (ZfH 0 args) σ):PCalls G g sp where
 enters:=Zi hf hname hb
 calls:=fun args σ K hs n e w vs hS hargs=>by
  obtain ⟨loops,unr,ties,keep,own,hk,hlen,hW⟩:=h args σ K hs
  have hbo:VY fn=c:=by simp [VY,hb]
  rw [hbo] at hW
  have hsz:vs.size=args.length:=hargs.1
  have hF:FRel G e σ w (ZfH 0 args) (vs++Array.replicate (fn.ntmps - vs.size) undef):=Zav args 0 fun k x hx=>by
   exact m27
  refine callsIn_of_wp_defers hf hb trivial (wpIn_mono (Zsd (n:=n) (e0:=e) (σ0:=σ) (w0:=w) hmix (C:=Zno T tbl WT loops unr ties) (fun _ _ _=>⟨hT,ht.sem,fun _ _ _ _ h=>h.elim,Y0,.inl rfl⟩) ⟨fun _ h1 h2=>hT.one h1 h2,ht.mono,fun _ _ _ _ h=>h.elim,rfl⟩ (fun _ _ _ _ _ h=>h) c hok
   (a:={ tmps:=vs++Array.replicate (fn.ntmps - vs.size) undef,defers:=[] }) hS hF (Later.refl e σ w) (by simp;omega) rfl hW) fun x a' w' hp=>?_)
  exact m5
end Go.PM
end

section
namespace Go.PM
def ZAb (T:Tab) (fn:Func) (keep:Nat) (K:St→Prop):PQ:=fun e f σ=>match e with
 | .normal | .ret=>pres T f σ.bx fn.results.toList fun vs=>Za8 keep true (JM vs) σ fun _ σ'=>K σ'
 | _=>False
section
variable {G:GE}
theorem Zn3 {T : Tab} {tbl : Tbl} (hT : TabOK T G.P) (hmix : G.P.follows .mixedOrders = true) (ht : TblOK G tbl) {g : FuncId} {fn : Func} {c : Code} (hf : G.P.funcs[g]? = some fn) (hb : fn.body = some c) (hname : (fn.name == "runtime.NumGoroutine") = false)
  (hok:ZM fn.ntmps c=true) {spR:List PV→St→(St→Prop)→Prop}
  (hr:∀args σ K,spR args σ K→∃loops unr keep,σ.bx.length≤keep∧args.length≤fn.ntmps∧W (Zno T tbl WT loops unr (fun _=>false)) c (ZAb T fn keep K) (ZfH 0 args) σ):PDef G g spR (fun _ _ _ _=>False):=by
 refine ⟨Zi hf hname hb,fun args σ K hs n e w vs hS hargs=>?_,fun pv args σ K hs=>hs.elim⟩
 obtain ⟨loops,unr,keep,hk,hlen,hW⟩:=hr args σ K hs
 refine callsDIn_of_wpSIn hf hb trivial fun c₀ cs hu=>?_
 have hsz:vs.size=args.length:=hargs.1
 have hF:FRel G e σ w (ZfH 0 args) (vs++Array.replicate (fn.ntmps - vs.size) undef):=Zav args 0 fun k x hx=>by
  exact m27
 refine wpSIn_of_wpIn rfl (wpIn_mono (JR (n:=n) (ro:=none) (ds:=(0,[],true)) hmix c (C:=Zno T tbl WT loops unr (fun _=>false)) ⟨hT,ht.sem,fun _ _ _ _ h=>h.elim,Y0,.inl rfl⟩ ⟨fun _ h1 h2=>hT.one h1 h2,ht.mono,fun _ _ _ _ h=>h.elim,rfl⟩ (fun _ _ _ _ _ _ h=>h) hok [] #[] (YF _) _
  (a:={ tmps:=vs++Array.replicate (fn.ntmps - vs.size) undef,defers:=[] }) hS hF (Later.refl e σ w) (by simp;omega) (Marks.nil e σ (Sa _)) (fun i hi=>by cases hi) hW) fun x a' w' hp=>?_)
 obtain ⟨pe,f',e',σ',hq,hx,h1,h2,h3,h4,⟨_,rs,h5,h5f,_⟩,h6⟩:=hp
 have hd0:a'.defers=[]:=by rw [h5,h5f rfl];rfl
 have done:(pres T f' σ'.bx fn.results.toList fun vs=>Za8 keep true (JM vs) σ' fun _ σ''=>K σ'')→∃r,(results fn a'.tmps).run G.P w'=.ok r w'∧FrameMode.returning=.returning∧(∃r',Ending.returned r=.returned r')∧∃σ' e',K σ'∧SRel G e' σ' w'∧Later e σ w e' σ' w':=fun hl=>by
  obtain ⟨pvs,r,hlv,hr,hvr⟩:=Wb (C:=Zno T tbl WT loops unr (fun _=>false)) hT h1 h2 hl
  exact m136
 cases pe with
 | normal=>obtain rfl:x=.normal:=hx;obtain ⟨r,hr,hR⟩:=done hq;exact ⟨hd0,.returning,by rw [← hu],r,hr,hR⟩
 | ret=>obtain rfl:x=.ret:=hx;obtain ⟨r,hr,hR⟩:=done hq;exact ⟨hd0,.returning,by rw [← hu],r,hr,hR⟩
 | exit id=>exact hq.elim
 | goto l=>exact hq.elim
 | panic p=>exact hq.elim
end
def ZAc:Code→Bool
 | .seq a b=>ZAc a || ZAc b
 | .cond _ a b=>ZAc a || ZAc b
 | .region id ops d=>(ZeK (.region id ops d)).isSome
 | _=>false
def WL (C:Cx) (Q:PQ):List Code→Frame→St→Prop
 | [],f,σ=>Q .normal f σ
 | c::l,f,σ=>W C c (fun e f σ=>match e with | .normal=>WL C Q l f σ | e=>Q e f σ) f σ
def WDl (C:Cx) (g0:FuncId) (Q0:PQ) (Q1:List PV→PQ):Nat→List Code→Frame→St→Prop
 | 0,_,_,_=>False
 | _+1,[],f,σ=>Q0 .normal f σ
 | n+1,c::l,f,σ=>match ZAc c with
  | false=>W C c (fun e f σ=>match e with | .normal=>WDl C g0 Q0 Q1 n l f σ | e=>Q0 e f σ) f σ
  | true=>match c with
   | .seq a b=>WDl C g0 Q0 Q1 n (a::b::l) f σ
   | .cond x a b=>match ev f x with | .d (.bool t)=>CondP t (WDl C g0 Q0 Q1 n (a::l) f σ) (WDl C g0 Q0 Q1 n (b::l) f σ) | _=>False
   | c=>match ZeK c with
    | some (all,init,x,args)=>ZtG C all (fun e f σ=>match e with
      | .normal=>(match ev f x with
       | .func g first caps=>(match Nat.beq g g0 with
        | true=>WL C (Q1 (X0 (first++args.map (ev f)++caps))) l f σ
        | false=>False)
       | _=>False)
      | e=>Q0 e f σ) init f σ
    | none=>False
section
variable {G:GE} {C:Cx} {e0:Env} {σ0:St} {w0:World} {n N:Nat}
def wpl (n:Nat) (P:Program) (Q:Exit→Act→World→Prop):List Code→Act→World→Prop
 | [],a,w=>Q .normal a w
 | c::l,a,w=>c.wpIn (fw none) n P (Exit.then (wpl n P Q l) Q) a w
theorem Zmr (hmix:G.P.follows .mixedOrders=true) (hC:∀e σ w,CxOK G C none e σ w) (hM:CxMono C.calm) (hI:∀g args raw σ K,¬C.iter g args raw σ K) {ds:Nat×List Deferred×Bool} {Q:PQ} :
  ∀(l:List Code),(∀c∈l,ZM N c=true)→∀{e:Env} {σ:St} {w:World} {a:Act} {f:Frame},SRel G e σ w→FRel G e σ w f a.tmps→Later e0 σ0 w0 e σ w→a.tmps.size=N→Marks ds e σ w a.defers→WL C Q l f σ →
   wpl n G.P (Z9 G e0 σ0 w0 ds N (Kept [] #[]) Q) l a w
 | [],_,e,σ,w,a,f,hS,hF,hL,hN,hds,h=>⟨.normal,f,e,σ,h,rfl,hS,hF,hL,hN,hds,fun i hi=>by cases hi⟩
 | c::l,hok,e,σ,w,a,f,hS,hF,hL,hN,hds,h=>by
  refine wpIn_mono (JR (n:=n) (ro:=none) hmix c (hC _ _ _) hM (fun _=>hI) (hok c (by simp)) [] #[] (YF _) _ hS hF hL hN hds (fun i hi=>by cases hi) h) fun x a' w' hp=>?_
  obtain ⟨pe,f',e',σ',hq,hx,h1,h2,h3,h4,h5,h6⟩:=hp
  cases pe with
  | normal=>obtain rfl:x=.normal:=hx;exact Zmr hmix hC hM hI l (fun c hc=>hok c (Tp _ hc)) h1 h2 h3 h4 h5 hq
  | exit id=>obtain rfl:x=.exit id:=hx;exact ⟨.exit id,f',e',σ',hq,rfl,h1,h2,h3,h4,h5,h6⟩
  | goto l=>obtain rfl:x=.goto l:=hx;exact ⟨.goto l,f',e',σ',hq,rfl,h1,h2,h3,h4,h5,h6⟩
  | ret=>obtain rfl:x=.ret:=hx;exact ⟨.ret,f',e',σ',hq,rfl,h1,h2,h3,h4,h5,h6⟩
  | panic p=>obtain ⟨v,rfl,hv⟩:=hx;exact ⟨.panic p,f',e',σ',hq,⟨v,rfl,hv⟩,h1,h2,h3,h4,h5,h6⟩
theorem Zms {P:Program} {Q Q':Exit→Act→World→Prop} (hQ:∀x a w,Q x a w→Q' x a w):∀{l:List Code} {a:Act} {w:World},wpl n P Q l a w→wpl n P Q' l a w
 | [],a,w,h=>hQ _ _ _ h
 | c::l,a,w,h=>wpIn_mono h fun x a' w' hp=>by
  cases x with
  | normal=>exact Zms hQ hp
  | _=>exact hQ _ _ _ hp
theorem Zqk {g0:FuncId} {Q0:PQ} {Q1:List PV→PQ} (hmix:G.P.follows .mixedOrders=true) (hC:∀e σ w,CxOK G C none e σ w) (hM:CxMono C.calm) (hI:∀g args raw σ K,¬C.iter g args raw σ K) :
  ∀(k:Nat) (l:List Code),(∀c∈l,ZM N c=true)→∀{e:Env} {σ:St} {w:World} {a:Act} {f:Frame},SRel G e σ w→FRel G e σ w f a.tmps→Later e0 σ0 w0 e σ w→a.tmps.size=N→a.defers=[]→WDl C g0 Q0 Q1 k l f σ →
   wpl n G.P (Znw G g0 e0 σ0 w0 N Q0 Q1) l a w:=by
 intro k
 induction k with
 | zero=>intro l hok e σ w a f hS hF hL hN hd h;exact h.elim
 | succ k ih =>
  intro l hok e σ w a f hS hF hL hN hd h
  have hM0:Marks (0,[],true) e σ w a.defers:=by rw [hd];exact Marks.nil e σ (Sa _)
  cases l with
  | nil=>exact .inl ⟨.normal,f,e,σ,h,rfl,hS,hF,hL,hN,hM0,fun i hi=>by cases hi⟩
  | cons c l =>
   have hokc:=hok c (by simp)
   have hokl:∀c∈l,ZM N c=true:=fun c hc=>hok c (Tp _ hc)
   simp only [WDl] at h
   split at h
   ·show c.wpIn (fw none) n G.P _ a w
    refine wpIn_mono (JR (n:=n) (ro:=none) (ds:=(0,[],true)) hmix c (hC _ _ _) hM (fun _=>hI) hokc [] #[] (YF _) _ hS hF hL hN hM0 (fun i hi=>by cases hi) h) fun x a1 w1 hp=>?_
    obtain ⟨pe,f',e',σ',hq,hxr,h1,h2,h3,h4,h5,h6⟩:=hp
    cases pe with
    | normal =>
     obtain rfl:x=.normal:=hxr
     obtain ⟨_,rs,h5,h5f,_⟩:=h5
     exact ih l hokl h1 h2 h3 h4 (by rw [h5,h5f rfl];rfl) hq
    | exit id=>obtain rfl:x=.exit id:=hxr;exact .inl ⟨.exit id,f',e',σ',hq,rfl,h1,h2,h3,h4,h5,h6⟩
    | goto l=>obtain rfl:x=.goto l:=hxr;exact .inl ⟨.goto l,f',e',σ',hq,rfl,h1,h2,h3,h4,h5,h6⟩
    | ret=>obtain rfl:x=.ret:=hxr;exact .inl ⟨.ret,f',e',σ',hq,rfl,h1,h2,h3,h4,h5,h6⟩
    | panic p=>obtain ⟨v,rfl,hv⟩:=hxr;exact .inl ⟨.panic p,f',e',σ',hq,⟨v,rfl,hv⟩,h1,h2,h3,h4,h5,h6⟩
   ·split at h
    ·rename_i x y hD
     simp only [ZM,Tj] at hokc
     have:=ih (x::y::l) (fun c hc=>by
      rcases Tv.1 hc with rfl | hc
      ·exact hokc.1
      ·rcases Tv.1 hc with rfl | hc
       ·exact hokc.2
       ·exact hokl c hc) hS hF hL hN hd h
     refine wpIn_seq (wpIn_mono (show x.wpIn (fw none) n G.P _ a w from this) fun z a' w' hp=>?_)
     cases z with
     | normal=>exact hp
     | _=>exact hp
    ·rename_i x y z hD
     simp only [ZM,Tj] at hokc
     have hv:=ZaP hF x
     split at h
     ·rename_i t hc
      rw [hc] at hv
      cases t with
      | true=>exact wpIn_cond_true hv.dbool (ih (y::l) (fun c hc=>by
        rcases Tv.1 hc with rfl | hc
        ·exact hokc.1
        ·exact hokl c hc) hS hF hL hN hd h)
      | false=>exact wpIn_cond_false hv.dbool (ih (z::l) (fun c hc=>by
        rcases Tv.1 hc with rfl | hc
        ·exact hokc.2
        ·exact hokl c hc) hS hF hL hN hd h)
     ·exact h.elim
    ·split at h
     ·rename_i all init x args hdi
      unfold ZeK at hdi
      split at hdi
      ·rename_i id ops hD hD1 hD2
       split at hdi
       ·rename_i init' last hsl
        split at hdi
        ·rename_i x' args' hdc
         cases hdi
         have hops:=Uj hsl
         obtain ⟨as,at',hop,has,hg,hdst⟩:=ZaX hdc
         have hsize:ops.size=init.length+1:=by rw [← Si,hops];simp
         have hlast:ops[init.length]?=some last:=by rw [← Tx,hops];simp
         simp only [ZM,Tj] at hokc
         have hd2:∀o,o∈ops→∀d,o.dst=some d→d<N∧∀t v,Kept [] #[] t→Kept [] #[] (t.setIfInBounds d v):=fun o ho d hdd=>⟨Zau hokc.1 o (TO.1 ho) d hdd,fun t v _ i hi=>by cases hi⟩
         refine wpIn_region ?_
         rw [show List.range ops.size=List.range' 0 init.length++[init.length] from by rw [hsize,List.range_succ,List.range_eq_range']]
         refine Zbq (N:=N) (Z:=Kept [] #[]) (ds:=(0,[],true)) (hC e0 σ0 w0) hd2 (fun x a w hx hp=>?_) (fun a1 w1 hp=>?_) init 0 (fun j hj=>?_) hS hF hL hN hM0 (fun i hi=>by cases hi) h
         ·exact m77
         ·obtain ⟨pe,f',e',σ',hq,hxr,h1,h2,h3,h4,⟨_,rs,h5,h5f,_⟩,h6⟩:=hp
          cases pe with
          | normal =>
           simp only at hq
           have hv:=ZaP h2 x
           split at hq
           ·rename_i g first caps heq
            split at hq
            ·rename_i hgb
             cases Tn hgb
             rw [heq] at hv
             generalize hgv:a1.eval x=v at hv
             cases hv with
             | func _ _ _ va vc ha hc k1 k2 =>
              have hd0:a1.defers=[]:=by rw [h5,h5f rfl];rfl
              have hargs:ArgsRel G e' σ' w1 (first++args.map (ev f')++caps) (va++as.map a1.eval++vc):=by
               exact m99
              have hw:Region.wanted last (yielded ops a1.tmps)=true:=by simp [Region.wanted,hg]
              simp only [wpOpsIn,hlast,hw,if_true]
              have hrun:(execOp a1.eval last).run G.P w1=.ok (.defer (ZQ g0 (va++as.map a1.eval) vc)) w1:=by
               exact m144
              refine ⟨fun _ _=>trivial,?_⟩
              rw [show (fw none).round=none from rfl,Oper.semAt_none,hrun,Oper.uponIn_defer]
              rw [hdst]
              show wpl n G.P (Znw G g0 e0 σ0 w0 N Q0 Q1) l { a1 with defers:=ZQ g0 (va++as.map a1.eval) vc::a1.defers } w1
              rw [hd0]
              exact Zms (fun x a w hp=>.inr ⟨_,_,_,e',σ',w1,h3,hargs,hp⟩) (Zmr (n:=n) (e0:=e') (σ0:=σ') (w0:=w1) hmix hC hM hI (ds:=(0,[ZQ g0 (va++as.map a1.eval) vc],true)) l hokl
               (a:={ a1 with defers:=[ZQ g0 (va++as.map a1.eval) vc] }) h1 h2 (Later.refl _ _ _) h4 ⟨Sa _,[],rfl,fun _=>rfl,List.nodup_nil,fun r h=>by cases h⟩ hq)
            ·exact hq.elim
           ·exact hq.elim
          | exit id=>cases hxr
          | goto l=>cases hxr
          | ret=>cases hxr
          | panic p=>obtain ⟨_,hxr,_⟩:=hxr;cases hxr
         ·rw [← Tx,hops,Sm,TP hj]
        ·cases hdi
       ·cases hdi
      ·cases hdi
     ·exact h.elim
end
theorem ZsF {G : GE} {T : Tab} {tbl : Tbl} (hT : TabOK T G.P) (hmix : G.P.follows .mixedOrders = true) (ht : TblOK G tbl) {g : FuncId} {fn : Func} {c : Code} (hf : G.P.funcs[g]? = some fn) (hb : fn.body = some c) (hname : (fn.name == "runtime.NumGoroutine") = false)
  (hok:ZM fn.ntmps c=true) {g0:FuncId} {spR:List PV→St→(St→Prop)→Prop} {spP:PV→List PV→St→(St→Prop)→Prop} (hd:PDef G g0 spR spP) {sp:Zz}
  (h:∀args σ K,sp args σ K→∃loops unr ties keep own,σ.bx.length≤keep∧args.length≤fn.ntmps∧WDl (Zno T tbl WT loops unr ties) g0 (ZrT T fn keep own K) (ZuV T fn keep own spR spP K) 99 [VY fn] (ZfH 0 args) σ):PCalls G g sp where
 enters:=Zi hf hname hb
 calls:=fun args σ K hs n e w vs hS hargs=>by
  obtain ⟨loops,unr,ties,keep,own,hk,hlen,hW⟩:=h args σ K hs
  have hbo:VY fn=c:=by simp [VY,hb]
  rw [hbo] at hW
  have hsz:vs.size=args.length:=hargs.1
  have hF:FRel G e σ w (ZfH 0 args) (vs++Array.replicate (fn.ntmps - vs.size) undef):=Zav args 0 fun k x hx=>by
   exact m27
  have hwp:=Zqk (n:=n) (N:=fn.ntmps) (e0:=e) (σ0:=σ) (w0:=w) hmix (C:=Zno T tbl WT loops unr ties) (fun _ _ _=>⟨hT,ht.sem,fun _ _ _ _ h=>h.elim,Y0,.inl rfl⟩) ⟨fun _ h1 h2=>hT.one h1 h2,ht.mono,fun _ _ _ _ h=>h.elim,rfl⟩ (fun _ _ _ _ _ h=>h) 99 [c] (fun c' hc'=>by cases Sv.1 hc';exact hok)
   (a:={ tmps:=vs++Array.replicate (fn.ntmps - vs.size) undef,defers:=[] }) hS hF (Later.refl e σ w) (by simp;omega) rfl hW
  have hwp:c.wpIn (fw none) n G.P (Znw G g0 e σ w fn.ntmps (ZrT T fn keep own K) (ZuV T fn keep own spR spP K)) { tmps:=vs++Array.replicate (fn.ntmps - vs.size) undef,defers:=[] } w:=wpIn_mono hwp fun x a' w' hp=>by
   cases x with
   | normal=>exact hp
   | _=>exact hp
  refine callsIn_of_wp_defers hf hb trivial (wpIn_mono hwp fun x a' w' hp=>?_)
  exact m5
end Go.PM
end
