/- A part of the proof: plain logic, contracts and laws over the given program. -/
import Derived.RangeFuncCalls
import Derived.RangeFuncLeaves
import Derived.Laws.Sem
import Derived.RecoverIn
import Derived.Test.YtipdifmlclblhaaGreatDoorG03
set_option linter.unusedVariables false
set_option linter.unusedSimpArgs false
set_option linter.all false
set_option maxRecDepth 100000
set_option maxHeartbeats 16000000
section
namespace Go.PM
abbrev Zo:=List PV->St->(PEnd->St->Prop)->Prop
structure PCalls (G:GE) (g:FuncId) (sp:Zo):Prop where
 enters:W8 G.P g
 calls:∀args σ K,sp args σ K->∀(n:Nat) (e:Env) (w:World) (vs:Array Value),SRel G e σ w->ArgsRel G e σ w args vs->CallsIn (fw none) n G.P g vs w (Y2 G e σ w K)
theorem Zk {P : Program} {f : FuncId} {fn : Func} {c : Code} (hf : P.funcs[f]? = some fn) (ak : (fn.name == "runtime.NumGoroutine") = false) (hb : fn.body = some c) : W8 P f := fun args w => by
 have h1 : fn.name ≠ "runtime.NumGoroutine" := by simpa using ak
 simp [callFunc,hf,h1,hb]
section
variable {G:GE} {C:Cx} {e:Env} {σ:St} {w:World} {f:Frame} {n:Nat} {tm:Array Value}
def ZxG (tm:Array Value):ResultVar->Sem Value
 | .tmp t=>pure (tm.getD t Go.undef)
 | .cell a t=>do loadVar t (<- asAddr (tm.getD a Go.undef))
theorem ZfG {P:Program} {t:TypeId} {v u:Value} (hv:∃a,v=.pointer (some a)) (h:(Instr.loadAt t v).run P w=.ok u w):(do loadVar t (<- asAddr v):Sem Value).run P w=.ok u w:=by
 obtain ⟨a,rfl⟩:=hv;simpa [Instr.loadAt,Instr.sureAddr,asAddr] using h
theorem ZaH (hT:TabOK C.T G.P) (hS:SRel G e σ w) (hF:FRel G e σ w f tm):∀{l:List ResultVar} {K:List PV->Prop},pres C.T f σ.bx l K ->
  ∃pvs vs,K pvs/\(l.mapM (ZxG tm)).run G.P w=.ok vs w/\vs.length=pvs.length/\∀(i:Nat) (x:PV) (u:Value),pvs[i]?=some x->vs[i]?=some u->VRel G e σ w x u
 | [],K,h=>⟨[],[],h,rfl,rfl,fun i x u hx=>by simp at hx⟩
 | .tmp t::l,K,h=>by
  simp only [pres,ZF] at h;obtain ⟨pvs,vs,hK,hr,hl,hv⟩:=ZaH hT hS hF h;refine ⟨f t::pvs,tm.getD t Go.undef::vs,hK,?_,by simp [hl],fun i x u hx hu=>?_⟩
  ·rw [List.mapM_cons];simp only [ZxG,Sem.run_bind,Sem.run_pure,Result.andThen,hr]
  cases i with
  | zero=>simp only [Sq,Option.some.injEq] at hx hu;subst hx;subst hu;exact hF t
  | succ i=>exact hv i x u (by simpa using hx) (by simpa using hu)
 | .cell a t::l,K,h=>by
  simp only [pres] at h;have aap:∃a',tm.getD a Go.undef=.pointer (some a'):=by
   have:=hF a;generalize tm.getD a Go.undef=v at this;generalize f a=x at this h
   cases this with
   | ptr b off _=>exact ⟨_,rfl⟩
   | elem r off b o u _ _ _=>exact ⟨_,rfl⟩
   | _=>exact h.elim
  obtain ⟨pv,u0,hk,kl,ah⟩:=Zev hT hS (hF a) h;rw [ZF] at hk;obtain ⟨pvs,vs,hK,hr,hl,hv⟩:=ZaH hT hS hF hk;refine ⟨pv::pvs,u0::vs,hK,?_,by simp [hl],fun i x u hx hu=>?_⟩
  ·rw [List.mapM_cons];have:=ZfG aap ah;simp only [ZxG];rw [Sem.run_bind,this];simp only [Sem.run_bind,Sem.run_pure,Result.andThen,hr]
  cases i with
  | zero=>simp only [Sq,Option.some.injEq] at hx hu;subst hx;subst hu;exact kl
  | succ i=>exact hv i x u (by simpa using hx) (by simpa using hu)
theorem X5 (hT:TabOK C.T G.P) (hS:SRel G e σ w) (hF:FRel G e σ w f tm) {fn:Func} {K:List PV->Prop} (h:pres C.T f σ.bx fn.results.toList K) :
  ∃pvs v,K pvs/\(results fn tm).run G.P w=.ok v w/\VRel G e σ w (XT pvs) v:=by
 obtain ⟨pvs,vs,hK,hr,hl,hv⟩:=ZaH hT hS hF h;have i6:(results fn tm).run G.P w=.ok (if h:vs.toArray.size=1 then vs.toArray[0] else .tuple vs.toArray) w:=by
  have aaq:results fn tm=(do let vs <- fn.results.mapM (ZxG tm);pure (if h:vs.size=1 then vs[0] else .tuple vs)):=by
   unfold results
   congr 1
  have h1:fn.results.mapM (ZxG tm)=List.toArray <$> fn.results.toList.mapM (ZxG tm):=by
   conv=>lhs;rw [show fn.results=fn.results.toList.toArray from sM]
   exact List.mapM_toArray
  rw [aaq,h1,Sem.run_bind,Sem.run_map,hr];rfl
 refine ⟨pvs,_,hK,i6,?_⟩
 match pvs,vs,hl,hv with
 | [],[],_,hv=>exact .tuple [] #[] rfl (fun i x u hx=>by simp at hx)
 | [x],[u],_,hv=>exact hv 0 x u rfl rfl
 | x::y::l,u::v::m,hl,hv =>
  have:¬((u::v::m).toArray.size=1):=sM;rw [dif_neg this];exact .tuple _ _ (by simpa using hl) (fun i a b ha hb=>hv i a b ha (by simpa using hb))
theorem Wn {e0:Env} {σ0:St} {w0:World} {keep:Nat} {own:Bool} {pv:PV} {v:Value} {K:PV->St->Prop} (hS:SRel G e σ w) (hL:Later e0 σ0 w0 e σ w) (hk:σ0.bx.length<=keep) (hv:VRel G e σ w pv v)
  {ag:Bool} (h:UX ag keep own pv σ K):∃pv' σ' e',K pv' σ'/\VRel G e' σ' w pv' v/\SRel G e' σ' w/\Later e0 σ0 w0 e' σ' w:=by
 unfold UX at h
 split at h
 ·rename_i hb
  cases own with
  | true =>
   simp only at h;obtain ⟨vs',σ',e',hK,ip,hd,aa,bz⟩:=ZcE hS h
   match vs',aa,hK with
   | [y],_,hK=>exact ⟨y,σ',e',hK,bz 0 pv y v rfl rfl hv,ip,hL.drop hd hk⟩
  | false =>
  simp only at h;obtain ⟨bs,tk',as',hK,hx,hI,cq,hn,kj⟩:=Vx (as:=[]) (ZDn σ.tk [] (fun t ht=>by cases ht)) h;exact ⟨clean pv,_,e.re as',hK,(NV.cl pv hb).rel hn hI cq hv,ZfC hS hn hI cq kj,hL.drop (ZcD hn hI cq) hk⟩
 exact h.elim
theorem JW {vs:Array Value}:∀(args:List PV) (i:Nat),(∀(k:Nat) (x:PV),args[k]?=some x->VRel G e σ w x (vs.getD (i+k) Go.undef))->FRel G e σ w (Zcq i args) vs
 | [],i,_=>fun j=>.undef _
 | a::args,i,h=>by
  intro j
  simp only [Zcq]
  by_cases ir:i=j
  ·subst ir;rw [Ys];exact h 0 a sM
  rw [Xg _ _ ir];exact JW args (i+1) (fun k x hx=>by have:=h (k+1) x (by simpa using hx);rwa [show i+(k+1)=i+1+k by omega] at this) j
theorem VRel.world {w':World} (hc:∀b off u,w.cell? ⟨b,off,none⟩=some u->w'.cell? ⟨b,off,none⟩=some u) (hb:∀(b:Nat) (cs:Array Value) (ty:TypeId) (fz:Nat×Nat),w.heap[b]?=some (Obj.cells cs ty fz)->w'.heap[b]?=some (Obj.cells cs ty fz)) {x:PV} {v:Value} (h:VRel G e σ w x v):VRel G e σ w' x v:=by
 have hd:∀{x:D} {v:Value},DRel (okc e σ) w x v->DRel (okc e σ) w' x v:=fun hd=>hd.mono fun b off u hu ho=>⟨ho,hc b off u hu⟩
 induction h with
 | d x v h=>exact .d _ _ (hd h)
 | undef v=>exact .undef _
 | ptr b off h=>exact .ptr b off h
 | asl b off n h=>exact .asl b off n h
 | elem r off b o u vh ho hu=>exact .elem r off b o u (fun j hj=>hc _ _ _ (vh j hj)) ho (fun j x hx=>hd (hu j x hx))
 | sl t el rows v hn nc ht =>
  refine .sl t el rows v hn (hd nc) fun h=>?_
  rcases ht h with h1 | ⟨sz,g1,g2,g3,b,off,cap,cs,ty,fz,g4,g5,g6,g7,g8⟩
  ·exact .inl h1
  exact .inr ⟨sz,g1,g2,g3,b,off,cap,cs,ty,fz,g4,g5,g6,hb _ _ _ _ g7,g8⟩
 | nils el=>exact .nils el
 | func f a c va vc ha vh _ _ ih1 ih2=>exact .func f a c va vc ha vh ih1 ih2
 | iface t x v _ ih=>exact .iface t x v ih
 | agg cs vs hs _ h1 ih=>exact .agg cs vs hs ih h1
 | tuple cs vs hs _ ih=>exact .tuple cs vs hs ih
 | raw v=>exact .raw v
 | mp b h=>exact .mp b h
 | nilm=>exact .nilm
theorem ZrQ {r:Nat} (hS:SRel G e σ w) (hr:w.heap[r]?=some (.deferred (some []))) (hb:∀i,i<σ.bx.length->e.β i≠r) (hg:G.nG<=r) :
  SRel G e σ (w.putObj r (.deferred none))/\(∀x v,VRel G e σ w x v->VRel G e σ (w.putObj r (.deferred none)) x v)/\∀(e0:Env) (σ0:St) (w0:World),Later e0 σ0 w0 e σ w->w0.heap.size<=r->Later e0 σ0 w0 e σ (w.putObj r (.deferred none)):=by
 have km:∀k,k≠r->(w.putObj r (.deferred none)).heap[k]?=w.heap[k]?:=fun k hk=>World.putObj_heap_other hk
 have be:∀b off u,w.cell? ⟨b,off,none⟩=some u->b≠r:=fun b off u hu he=>by
  subst he;simp [World.cell?,hr] at hu
 have hc:∀b off u,w.cell? ⟨b,off,none⟩=some u->(w.putObj r (.deferred none)).cell? ⟨b,off,none⟩=some u:=fun b off u hu=>by
  have:=be b off u hu;simpa [World.cell?,km b this] using hu
 have oc:∀(b:Nat) (cs:Array Value) (ty:TypeId) (fz:Nat×Nat),w.heap[b]?=some (Obj.cells cs ty fz)->(w.putObj r (.deferred none)).heap[b]?=some (Obj.cells cs ty fz):=fun b cs ty fz h=>by
  have:b≠r:=fun he=>by subst he;rw [hr] at h;cases h
  rw [km b this];exact h
 have hV:∀x v,VRel G e σ w x v->VRel G e σ (w.putObj r (.deferred none)) x v:=fun x v h=>h.world hc oc
 refine ⟨?_,hV,fun e0 σ0 w0 hL kl=>?_⟩
 ·exact {
   inj:=hS.inj
   box:=fun i x hx=>by
    have hi:=(Th.1 hx).1;have hB:=hS.box i x hx;have bu:=km (e.β i) (hb i hi)
    cases x with
    | cells t cs =>
     obtain ⟨vs,g1,g2,g3⟩:=hB;exact ⟨vs,bu.trans g1,g2,fun k y u hy hu=>⟨hV _ _ (g3 k y u hy hu).1,(g3 k y u hy hu).2⟩⟩
    | iter s p=>exact bu.trans hB
    | loop st pd r=>exact bu.trans hB
    | dmap m=>exact hB.dmapTo bu fun d v hv=>by have q:=hV _ _ (VRel.d (G:=G) d v hv);cases q;assumption
    | map cs bn ck=>exact hB.mapTo bu rfl fun i x y hx hy=>by rw [hx] at hy;cases hy;exact ⟨fun v hv=>hV _ _ hv,fun d hd=>hd⟩
   low:=hS.low
   tkn:=hS.tkn
   own:=fun t ht p hp=>by
    obtain ⟨q1,q2,cs,ty,fz,q3⟩:=hS.own t ht p hp;exact ⟨q1,q2,cs,ty,fz,oc _ _ _ _ q3⟩
   dis:=hS.dis
   xlt:=fun b off hx=>by rw [World.putObj_size];exact hS.xlt b off hx
   xown:=hS.xown
   glob:=fun b xy=>(km b oM).trans (hS.glob b xy)
   big:=by rw [World.putObj_size];exact hS.big }
 exact {
  len:=hL.len
  beta:=hL.beta
  X:=hL.X
  pres:=fun b off u hu ho=>let ⟨h1,h2⟩:=hL.pres b off u hu ho;⟨h1,hc b off u h2⟩
  blocks:=fun b ai hn ht=>(km b oM).trans (hL.blocks b ai hn ht)
  size:=by rw [World.putObj_size];exact hL.size
  os:=hL.os
  tape:=hL.tape
  output:=hL.output
  fresh:=hL.fresh
  ftok:=hL.ftok }
theorem V9 {fn:Func} {R:Ending->World->Prop} {u:FrameMode} {e0:Env} {σ0:St} {w0:World} (hu:u≠.run):∀(rs:List Nat) {w:World},rs.Nodup->(∀r,r∈rs->w0.heap.size<=r/\w.heap[r]?=some (.deferred (some []))/\∀i,i<σ.bx.length->e.β i≠r) ->
  G.nG<=w0.heap.size->SRel G e σ w->FRel G e σ w f tm->Later e0 σ0 w0 e σ w->(∀pv v,VRel G e σ w pv v->∀w',SRel G e σ w'->FRel G e σ w' f tm->Later e0 σ0 w0 e σ w'->VRel G e σ w' pv v->True) ->
  (∀w',(∀x v,VRel G e σ w x v->VRel G e σ w' x v)->SRel G e σ w'->FRel G e σ w' f tm->Later e0 σ0 w0 e σ w'->LeavesIn (fw none) n G.P fn tm R [] u w')->LeavesInM (fw none) n G.P fn tm R (rs.map JP) u w
 | [],w,_,_,_,hS,hF,hL,_,eb=>by
  simp only [TL,LeavesInM];exact eb w (fun _ _ h=>h) hS hF hL
 | r::rs,w,gx,mt,hG,hS,hF,hL,_,eb=>by
  obtain ⟨h1,h2,h3⟩:=mt r sM;obtain ⟨ip,hV,ig⟩:=ZrQ hS h2 h3 (T1 hG h1);simp only [TC,LeavesInM];refine ⟨hu,.inl ⟨r,_,rfl,run_takeDeferred h2,?_⟩⟩;refine V9 hu rs (List.nodup_cons.1 gx).2 (fun q hq=>?_) hG ip (fun i=>hV _ _ (hF i)) (ig _ _ _ hL h1) (fun _ _ _ _ _ _ _ _=>trivial) (fun w' hV'=>eb w' fun x v h=>hV' x v (hV x v h));obtain ⟨g1,g2,g3⟩:=mt q (Tu _ hq);have ao:q≠r:=fun e=>(List.nodup_cons.1 gx).1 (e ▸ hq)
  exact ⟨g1,(World.putObj_heap_other ao).trans g2,g3⟩
theorem ZcM (ax:G.P.follows .mixedOrders=true) {g:FuncId} {fn:Func} {c:Code} (hC:CxOK G C none e σ w) (hM:CxMono C.calm) (hf:G.P.funcs[g]?=some fn) (hb:fn.body=some c) (az:Zz fn.ntmps c=true)
  {args:List PV} {Q:PQ} {K:PEnd->St->Prop} (aa:args.length<=fn.ntmps) (h:W C c Q (Zcq 0 args) σ)
  (hQ:∀(pe:PExit) (f:Frame) (σ':St),Q pe f σ'->match pe with
   | .normal | .ret=>pres C.T f σ'.bx fn.results.toList fun vs=>∀(e':Env) (w':World) (v:Value),SRel G e' σ' w'->VRel G e' σ' w' (XT vs) v->Later e σ w e' σ' w'->Y2 G e σ w K (.returned v) w'
   | .panic p=>∀(e':Env) (w':World) (v:Value),SRel G e' σ' w'->VRel G e' σ' w' p v->Later e σ w e' σ' w'->Y2 G e σ w K (.panicked [{ v:=v,recovered:=false }]) w'
   | _=>False)
  {vs:Array Value} (hS:SRel G e σ w) (am:ArgsRel G e σ w args vs):CallsIn (fw none) n G.P g vs w (Y2 G e σ w K):=by
 have hsz:vs.size=args.length:=am.1;have hF:FRel G e σ w (Zcq 0 args) (vs++Array.replicate (fn.ntmps - vs.size) undef):=JW args 0 fun k x hx=>by
  exact m33
 have hw:=ZcL (n:=n) (ro:=none) (ds:=(w.heap.size,[],false)) ax c hC hM (fun h=>by cases h) az [] #[] (Y8 c) _ (a:={ tmps:=vs++Array.replicate (fn.ntmps - vs.size) undef,defers:=[] }) hS hF (Later.refl e σ w) sO (Marks.nil e σ (Tq _)) (fun i hi=>by cases hi) h;refine callsIn_of_wp_marks hf hb trivial (wpIn_mono hw fun x a' w' hp=>?_);obtain ⟨pe,f',e',σ',hq,hx,h1,h2,h3,h4,⟨_,rs,h5,_,h5n,h5r⟩,h6⟩:=hp;have h5:a'.defers=rs.map JP:=by rw [h5];exact TU _
 have li:=hQ pe f' σ' hq;have mt:∀r,r∈rs->w.heap.size<=r/\w'.heap[r]?=some (.deferred (some []))/\∀i,i<σ'.bx.length->e'.β i≠r:=fun r hr=>let ⟨g1,g2,g3,_⟩:=h5r r hr;⟨g1,g2,g3⟩
 have ends:∀(li:pres C.T f' σ'.bx fn.results.toList fun vs=>∀(e':Env) (w':World) (v:Value),SRel G e' σ' w'->VRel G e' σ' w' (XT vs) v->Later e σ w e' σ' w'->Y2 G e σ w K (.returned v) w'),LeavesInM (fw none) n G.P fn a'.tmps (Y2 G e σ w K) a'.defers .returning w':=fun li=>by
  rw [h5];refine V9 sM rs h5n mt hS.big h1 h2 h3 (fun _ _ _ _ _ _ _ _=>trivial) fun w2 _ k1 k2 k3=>?_
  obtain ⟨pvs,v,hl,hr,hv⟩:=X5 hC.tab k1 k2 li;exact ⟨v,hr,hl e' w2 v k1 hv k3⟩
 cases pe with
 | normal=>obtain rfl:x=.normal:=hx;exact ends li
 | ret=>obtain rfl:x=.ret:=hx;exact ends li
 | panic p =>
  obtain ⟨v,rfl,hv⟩:=hx;show LeavesInM (fw none) n G.P fn a'.tmps (Y2 G e σ w K) a'.defers (.panicking _) w';rw [h5];refine V9 sM rs h5n mt hS.big h1 h2 h3 (fun _ _ _ _ _ _ _ _=>trivial) fun w2 hV k1 k2 k3=>?_
  exact li e' w2 v k1 (hV _ _ hv) k3
 | exit id=>exact li.elim
 | goto l=>exact li.elim
theorem Zbt (ax:G.P.follows .mixedOrders=true) {g:FuncId} {fn:Func} {c:Code} (hC:CxOK G C none e σ w) (hM:CxMono C.calm) (hf:G.P.funcs[g]?=some fn) (hb:fn.body=some c) (az:Zz fn.ntmps c=true)
  {ag:Bool} {keep:Nat} {own:Bool} {args:List PV} {R:PEnd->St->Prop} (hk:σ.bx.length<=keep) (aa:args.length<=fn.ntmps) (h:WFG ag C fn keep own args σ R) {vs:Array Value} (hS:SRel G e σ w) (am:ArgsRel G e σ w args vs) :
  CallsIn (fw none) n G.P g vs w (Y2 G e σ w R):=by
 have qi:Ye fn=c:=by simp [Ye,hb]
 unfold WFG at h
 rw [qi] at h;have presM:∀{T:Tab} {f:Frame} {bx:List Box} {l:List ResultVar} {K K':List PV->Prop},(∀vs,K vs->K' vs)->pres T f bx l K->pres T f bx l K':=by
  intro T f bx l
  induction l with
  | nil=>exact fun hK h=>hK _ h
  | cons r l ih =>
  intro K K' hK h
  exact m76
 refine ZcM ax hC hM hf hb az aa h (fun pe f' σ' hq=>?_) hS am;have fin:∀{pv:PV} {p:PV->PEnd} {en:Value->Ending},(∀(pv:PV) (e:Env) (σ:St) (w:World) v,VRel G e σ w pv v->Znu G e σ w (p pv) (en v))->(UX ag keep own pv σ' fun v σ''=>R (p v) σ'')->∀(e':Env) (w':World) (v:Value),SRel G e' σ' w'->VRel G e' σ' w' pv v->Later e σ w e' σ' w'->Y2 G e σ w R (en v) w':=fun {pv p en} hpe hl e' w' v ip hv hL=>by
  obtain ⟨pv',σ'',e'',hK,hv',aar,aas⟩:=Wn ip hL hk hv hl;exact ⟨p pv',σ'',e'',hK,hpe _ _ _ _ _ hv',aar,aas⟩
 cases pe with
 | normal=>exact presM (fun vs hl=>fin (p:=.ret) (en:=.returned) (fun _ _ _ _ v h=>⟨v,rfl,h⟩) hl) hq
 | ret=>exact presM (fun vs hl=>fin (p:=.ret) (en:=.returned) (fun _ _ _ _ v h=>⟨v,rfl,h⟩) hl) hq
 | panic p=>exact fin (p:=.panic) (en:=fun v=>.panicked [{ v:=v,recovered:=false }]) (fun _ _ _ _ v h=>⟨v,rfl,h⟩) hq
 | exit id=>exact hq.elim
 | goto l=>exact hq.elim
end
end Go.PM
end

section
namespace Go.PM
mutual
def ZaI:PV->List Nat->List Nat
 | .ptr b _,acc=>match ZdU b acc with | true=>acc | false=>acc++[b]
 | .asl b _ _,acc=>match ZdU b acc with | true=>acc | false=>acc++[b]
 | .mp b,acc=>match ZdU b acc with | true=>acc | false=>acc++[b]
 | .func _ a c,acc=>XU c (XU a acc)
 | .iface _ v,acc=>ZaI v acc
 | .agg cs,acc=>XU cs acc
 | .tuple vs,acc=>XU vs acc
 | _,acc=>acc
def XU:List PV->List Nat->List Nat
 | [],acc=>acc
 | v::l,acc=>XU l (ZaI v acc)
end
def U4 (bx:List Box):Nat->Nat->List Nat->List Nat
 | 0,_,acc=>acc
 | n+1,i,acc=>match acc[i]? with
  | none=>acc
  | some b=>match bx[b]? with
   | some (.cells _ cs)=>U4 bx n (i+1) (XU cs acc)
   | some (.map cs _ _)=>U4 bx n (i+1) (XU cs acc)
   | _=>U4 bx n (i+1) acc
def ZlY:List PV->List Nat->(List Nat->Prop)->Prop
 | [],acc,K=>K acc
 | v::l,acc,K=>Zck (ZaI v acc) fun acc=>ZlY l acc K
def ZeF (bx:List Box):Nat->Nat->List Nat->(List Nat->Prop)->Prop
 | 0,_,acc,K=>K acc
 | n+1,i,acc,K=>match acc[i]? with
  | none=>K acc
  | some b=>match bx[b]? with
   | some (.cells _ cs)=>ZlY cs acc fun acc=>ZeF bx n (i+1) acc K
   | some (.map cs _ _)=>ZlY cs acc fun acc=>ZeF bx n (i+1) acc K
   | _=>ZeF bx n (i+1) acc K
theorem JX {K:List Nat->Prop}:∀(l:List PV) (acc:List Nat),ZlY l acc K=K (XU l acc)
 | [],_=>rfl
 | v::l,acc=>by simp only [ZlY,XU,Wk,JX l]
theorem JY {bx:List Box} {K:List Nat->Prop}:∀(n i:Nat) (acc:List Nat),ZeF bx n i acc K=K (U4 bx n i acc)
 | 0,_,_=>rfl
 | n+1,i,acc=>by
  unfold ZeF U4
  split
  ·rfl
  split <;> simp only [JX,JY n]
def ZcN (b:Nat):List Nat->Nat->Option Nat
 | [],_=>none
 | x::l,i=>match Nat.beq x b with | true=>some i | false=>ZcN b l (i+1)
def Zg6:List Nat->Bool
 | []=>true
 | x::l=>match ZdU x l with | true=>false | false=>Zg6 l
mutual
def ZeG (bs:List Nat):PV->PV
 | .ptr b o=>match ZcN b bs 0 with | some i=>.ptr i o | none=>.undef
 | .asl b o n=>match ZcN b bs 0 with | some i=>.asl i o n | none=>.undef
 | .func f a c=>.func f (JJ bs a) (JJ bs c)
 | .iface t v=>.iface t (ZeG bs v)
 | .agg cs=>.agg (JJ bs cs)
 | .tuple vs=>.tuple (JJ bs vs)
 | .d x=>.d x
 | .undef=>.undef
 | .elem r o=>.elem r o
 | .sl t e rows=>.sl t e rows
 | .nils e=>.nils e
 | .raw v=>.raw v
 | .mp b=>match ZcN b bs 0 with | some i=>.mp i | none=>.undef
 | .nilm=>.nilm
def JJ (bs:List Nat):List PV->List PV
 | []=>[]
 | v::l=>ZeG bs v::JJ bs l
end
def Zm8 (bs:List Nat) (bx:List Box):List Nat->(List Box->Prop)->Prop
 | [],K=>K []
 | b::l,K=>match bx[b]? with
  | some (.cells t cs)=>Zm8 bs bx l fun r=>K (.cells t (JJ bs cs)::r)
  | some (.iter s p)=>Zm8 bs bx l fun r=>K (.iter s p::r)
  | some (.map cs bn ck)=>Zm8 bs bx l fun r=>K (.map (JJ bs cs) bn ck::r)
  | some (.dmap m)=>Zm8 bs bx l fun r=>K (.dmap m::r)
  | some (.loop _ _ _)=>False
  | none=>False
mutual
def X6 (bs:List Nat) (m L nx:Nat):PV->PV
 | .ptr i o=>match bs[i]? with | some b=>.ptr b o | none=>.ptr (L+(i - m)) o
 | .asl i o n=>match bs[i]? with | some b=>.asl b o n | none=>.asl (L+(i - m)) o n
 | .sl t e rows=>.sl (nx+t) e rows
 | .func f a c=>.func f (Wo bs m L nx a) (Wo bs m L nx c)
 | .iface t v=>.iface t (X6 bs m L nx v)
 | .agg cs=>.agg (Wo bs m L nx cs)
 | .tuple vs=>.tuple (Wo bs m L nx vs)
 | .d x=>.d x
 | .undef=>.undef
 | .elem r o=>.elem r o
 | .nils e=>.nils e
 | .raw v=>.raw v
 | .mp i=>match bs[i]? with | some b=>.mp b | none=>.mp (L+(i - m))
 | .nilm=>.nilm
def Wo (bs:List Nat) (m L nx:Nat):List PV->List PV
 | []=>[]
 | v::l=>X6 bs m L nx v::Wo bs m L nx l
end
def Jo (bs:List Nat) (m L nx:Nat):Box->Box
 | .cells t cs=>.cells t (Wo bs m L nx cs)
 | .iter s p=>.iter s p
 | .loop st pd r=>.loop st pd r
 | .map cs bn ck=>.map (Wo bs m L nx cs) bn ck
 | .dmap c=>.dmap c
def ZdY (bb:Box->Box):List Nat->List Box->List Box->(List Box->Prop)->Prop
 | [],xs,acc,K=>K (acc++xs.map bb)
 | b::l,x::xs,acc,K=>ZdY bb l xs (acc.set b (bb x)) K
 | _::_,[],_,_=>False
def ZnR (bs:List Nat) (m L nx:Nat):PEnd->PEnd
 | .ret v=>.ret (X6 bs m L nx v)
 | .panic v=>.panic (X6 bs m L nx v)
def Vz (md:Nat) (sp:Zo) (args:List PV) (σ:St) (K:PEnd->St->Prop):Prop :=
 ZlY args [] fun a=>ZeF σ.bx (σ.bx.length+1) 0 a fun bs=>Zck bs fun bs=>match Zg6 bs with
 | true=>Zm8 bs σ.bx bs fun cb=>Znd md bs.length (JJ bs args) σ.tk 0 fun args' tk k=>ZbR bs.length bs.length cb tk k fun cb' rest k =>
   sp args' ⟨cb',toks k,k⟩ fun pe σ3=>ZdY (Jo bs bs.length σ.bx.length σ.nx) bs σ3.bx σ.bx fun bx =>
    K (ZnR bs bs.length σ.bx.length σ.nx pe) ⟨bx,rest++σ3.tk.map (σ.nx+·),σ.nx+σ3.nx⟩
 | false=>False
abbrev ZiN (sp:Zo) (args:List PV) (σ:St) (K:PEnd->St->Prop):Prop:=Vz 0 sp args σ K
theorem ZcO:∀{l:List Nat},Zg6 l=true->∀(i j b:Nat),l[i]?=some b->l[j]?=some b->i=j
 | [],_,i,j,b,h,_=>by simp at h
 | x::l,h,i,j,b,hi,hj=>by
  simp only [Zg6] at h;split at h
  ·cases h
  rename_i hm
  have hx:∀k:Nat,l[k]?≠some x:=fun k hk=>by
   have:=(YA x l).2 (Sb hk);rw [this] at hm;cases hm
  cases i with
  | zero =>
   cases j with
   | zero=>rfl
   | succ j=>simp at hi hj;subst hi;exact absurd hj (hx j)
  | succ i =>
  cases j with
  | zero=>simp at hi hj;subst hj;exact absurd hi (hx i)
  | succ j=>simp at hi hj;rw [ZcO h i j b hi hj]
theorem ZeH {b:Nat}:∀{l:List Nat} {i j:Nat},ZcN b l i=some j->i<=j/\l[j - i]?=some b
 | [],i,j,h=>by simp [ZcN] at h
 | x::l,i,j,h=>by
  simp only [ZcN] at h;split at h
  ·rename_i hb;cases h;simp [Ti hb]
  obtain ⟨h1,h2⟩:=ZeH h;refine ⟨oM,?_⟩;rw [show j - i=(j - (i+1))+1 by omega];simpa using h2
theorem WM {bs:List Nat}:∀{l:List PV} (i:Nat) (y:PV),(JJ bs l)[i]?=some y->∃x,l[i]?=some x/\y=ZeG bs x
 | [],i,y,h=>by simp [JJ] at h
 | x::l,i,y,h=>by
  cases i with
  | zero=>simp [JJ] at h;exact ⟨x,sM,h.symm⟩
  | succ i=>simp only [JJ,TQ] at h;obtain ⟨z,h1,h2⟩:=WM i y h;exact ⟨z,by simpa using h1,h2⟩
theorem YD {bs:List Nat}:∀{l:List PV},(JJ bs l).length=l.length
 | []=>rfl
 | x::l=>by simp [JJ,YD]
theorem Wp {bs:List Nat} {m L nx:Nat}:∀{l:List PV} (i:Nat) (y:PV),(Wo bs m L nx l)[i]?=some y->∃x,l[i]?=some x/\y=X6 bs m L nx x
 | [],i,y,h=>by simp [Wo] at h
 | x::l,i,y,h=>by
  cases i with
  | zero=>simp [Wo] at h;exact ⟨x,sM,h.symm⟩
  | succ i=>simp only [Wo,TQ] at h;obtain ⟨z,h1,h2⟩:=Wp i y h;exact ⟨z,by simpa using h1,h2⟩
theorem YE {bs:List Nat} {m L nx:Nat}:∀{l:List PV},(Wo bs m L nx l).length=l.length
 | []=>rfl
 | x::l=>by simp [Wo,YE]
def ZtF (bs:List Nat):Box->Box
 | .cells t cs=>.cells t (JJ bs cs)
 | .iter s p=>.iter s p
 | .loop st pd r=>.loop st pd r
 | .map cs bn ck=>.map (JJ bs cs) bn ck
 | .dmap m=>.dmap m
theorem ZnS {bs:List Nat} {bx:List Box}:∀{l:List Nat} {K:List Box->Prop},Zm8 bs bx l K->∃cb,K cb/\cb.length=l.length/\∀(j b:Nat),l[j]?=some b->∃x,bx[b]?=some x/\cb[j]?=some (ZtF bs x)
 | [],K,h=>⟨[],h,rfl,fun j b hj=>by simp at hj⟩
 | b::l,K,h=>by
  simp only [Zm8] at h;split at h
  all_goals first
   | exact h.elim
   | (rename_i hb
      obtain ⟨cb,h1,h2,h3⟩:=ZnS h;refine ⟨_,h1,by simp [h2],fun j b' hj=>?_⟩
      cases j with
      | zero=>simp at hj;subst hj;exact ⟨_,hb,rfl⟩
      | succ j=>exact h3 j b' (by simpa using hj))
theorem Zka {bb:Box->Box}:∀{bs:List Nat} {xs acc:List Box} {K:List Box->Prop},(∀(i j b:Nat),bs[i]?=some b->bs[j]?=some b->i=j)->(∀b,b∈bs->b<acc.length)->ZdY bb bs xs acc K ->
  ∃r,K r/\bs.length<=xs.length/\r.length=acc.length+(xs.length - bs.length)/\(∀(j b:Nat) (x:Box),bs[j]?=some b->xs[j]?=some x->r[b]?=some (bb x))/\(∀i,i<acc.length->i∉bs->r[i]?=acc[i]?) /\
   ∀i,acc.length<=i->r[i]?=xs[bs.length+(i - acc.length)]?.map bb
 | [],xs,acc,K,hn,hl,h=>⟨_,h,sM,sM,fun j b x hj=>by simp at hj,fun i hi _=>by rw [TG hi],fun i hi=>by rw [TS hi,To];simp⟩
 | b::bs,x::xs,acc,K,hn,hl,h=>by
  simp only [ZdY] at h;have ai:b<acc.length:=hl b sM;obtain ⟨r,h1,h2,h3,h4,h5,h6⟩:=Zka (bs:=bs) (fun i j c hi hj=>by have:=hn (i+1) (j+1) c (by simpa using hi) (by simpa using hj);omega) (fun c hc=>by rw [Sv];exact hl c (Tu _ hc)) h;have pu:b∉bs:=fun hm=>by
   obtain ⟨k,hk,xq⟩:=Se hm;have:=hn 0 (k+1) b sM (by simp [Te hk,xq]);omega
  refine ⟨r,h1,sO,by rw [h3,Sv];simp,fun j c y hj hy=>?_,fun i hi vw=>?_,fun i hi=>?_⟩
  ·cases j with
   | zero =>
    simp only [Sq,Option.some.injEq] at hj hy;subst hj;subst hy;rw [h5 b (by rw [Sv];exact ai) pu,List.getElem?_set_self ai]
   | succ j=>exact h4 j c y (by simpa using hj) (by simpa using hy)
  ·have hib:b≠i:=fun e=>vw (e ▸ by simp)
   rw [h5 i (by rw [Sv];exact hi) (fun hm=>vw (Tu _ hm)),List.getElem?_set_ne hib]
  rw [h6 i (by rw [Sv];exact hi),Sv,Tc,show bs.length+1+(i - acc.length)=bs.length+(i - acc.length)+1 by omega,TQ]
 | b::bs,[],acc,K,hn,hl,h=>h.elim
section
variable {G:GE} {e:Env} {σ:St} {w:World}
def ZfH (e:Env) (σ:St) (bs rest:List Nat) (b off:Nat):Prop :=
 e.X b off\/(∃i,i<σ.bx.length/\i∉bs/\e.β i=b)\/∃t,t∈rest/\∃p,e.M t=some p/\p.1=b/\p.2<=off
def Env.handed (e:Env) (σ:St) (bs rest:List Nat):Env:=⟨fun j=>e.β (bs.getD j 0),e.M,ZfH e σ bs rest⟩
structure Hand (σ:St) (bs rest pass:List Nat) (cb:List Box):Prop where
 nodup:∀(i j b:Nat),bs[i]?=some b->bs[j]?=some b->i=j
 len:cb.length=bs.length
 get:∀(j b:Nat),bs[j]?=some b->∃x,σ.bx[b]?=some x/\cb[j]?=some (ZtF bs x)
 restIn:∀t,t∈rest->t∈σ.tk
 passIn:∀t,t∈pass->t∈σ.tk/\t∉rest
variable {bs rest pass:List Nat} {cb:List Box}
theorem Hand.lt (h:Hand σ bs rest pass cb) {b:Nat} (hb:b∈bs):b<σ.bx.length:=by
 obtain ⟨k,hk,he⟩:=Se hb;obtain ⟨x,hx,_⟩:=h.get k b (by rw [Te hk,he]);exact (Th.1 hx).1
theorem Hand.at (h:Hand σ bs rest pass cb) {j:Nat} (hj:j<bs.length):∃b,bs[j]?=some b/\b∈bs/\(e.handed σ bs rest).β j=e.β b:=by
 have:=Te hj;exact ⟨bs[j],this,TB hj,by simp [Env.handed,this]⟩
theorem ZnT (hS:SRel G e σ w) (h:Hand σ bs rest pass cb) {b off:Nat} (ho:okc e σ b off):okc (e.handed σ bs rest) ⟨cb,pass,σ.nx⟩ b off:=by
 refine ⟨fun hX=>?_,fun j hj=>?_,fun t ht p hp rq=>ho.2.2 t (h.passIn t ht).1 p hp rq⟩
 ·rcases hX with hX | ⟨i,h1,_,h2⟩ | ⟨t,h1,p,h2,h3,h4⟩
  ·exact ho.1 hX
  ·exact ho.2.1 i h1 h2
  have:=ho.2.2 t (h.restIn t h1) p h2 h3;omega
 obtain ⟨b',h1,h2,h3⟩:=h.at (e:=e) (show j<bs.length by rw [<- h.len];exact hj);rw [h3];exact ho.2.1 b' (h.lt h2)
theorem VRel.ren (hS:SRel G e σ w) (h:Hand σ bs rest pass cb) {x:PV} {v:Value} (hv:VRel G e σ w x v):VRel G (e.handed σ bs rest) ⟨cb,pass,σ.nx⟩ w (ZeG bs x) v:=by
 have hd:∀{x:D} {v:Value},DRel (okc e σ) w x v->DRel (okc (e.handed σ bs rest) ⟨cb,pass,σ.nx⟩) w x v:=fun hd=>hd.mono fun b off u hu ho=>⟨ZnT hS h ho,hu⟩
 have at':∀b i,ZcN b bs 0=some i->(e.handed σ bs rest).β i=e.β b/\i<cb.length:=fun b i hi=>by
  obtain ⟨_,h2⟩:=ZeH hi;simp only [Nat.sub_zero] at h2;exact ⟨by simp [Env.handed,h2],by rw [h.len];exact (Th.1 h2).1⟩
 induction hv with
 | d x v hx=>exact .d _ _ (hd hx)
 | undef v=>exact .undef _
 | ptr b off hb =>
  simp only [ZeG]
  cases hi:ZcN b bs 0 with
  | none=>exact .undef _
  | some i =>
  obtain ⟨h1,h2⟩:=at' b i hi;rw [<- h1];exact .ptr i off h2
 | asl b off n hb =>
  simp only [ZeG]
  cases hi:ZcN b bs 0 with
  | none=>exact .undef _
  | some i =>
  obtain ⟨h1,h2⟩:=at' b i hi;rw [<- h1];exact .asl i off n h2
 | mp b hb =>
  simp only [ZeG]
  cases hi:ZcN b bs 0 with
  | none=>exact .undef _
  | some i =>
  obtain ⟨h1,h2⟩:=at' b i hi;rw [<- h1];exact .mp i h2
 | nilm=>exact .nilm
 | elem r off b o u hc ho hu=>exact .elem r off b o u hc (fun j hj=>ZnT hS h (ho j hj)) (fun j x hx=>hd (hu j x hx))
 | sl t el rows v hn nc ht=>exact .sl t el rows v hn (hd nc) fun hp=>ht (h.passIn t hp).1
 | nils el=>exact .nils el
 | func f a c va vc ha hc _ _ ih1 ih2 =>
  refine .func f _ _ va vc (by rw [YD];exact ha) (by rw [YD];exact hc) (fun i y u hy hu=>?_) (fun i y u hy hu=>?_)
  ·obtain ⟨x,hx,rfl⟩:=WM i y hy;exact ih1 i x u hx hu
  obtain ⟨x,hx,rfl⟩:=WM i y hy;exact ih2 i x u hx hu
 | iface t x v _ ih=>exact .iface t _ v ih
 | agg cs vs hs _ h1 ih=>exact .agg _ vs (by rw [YD];exact hs) (fun i y u hy hu=>by obtain ⟨x,hx,rfl⟩:=WM i y hy;exact ih i x u hx hu) h1
 | tuple cs vs hs _ ih=>exact .tuple _ vs (by rw [YD];exact hs) (fun i y u hy hu=>by obtain ⟨x,hx,rfl⟩:=WM i y hy;exact ih i x u hx hu)
 | raw v=>exact .raw _
theorem SRel.ren (hS:SRel G e σ w) (h:Hand σ bs rest pass cb):SRel G (e.handed σ bs rest) ⟨cb,pass,σ.nx⟩ w where
 inj:=fun i j hi hj he=>by
  obtain ⟨b,h1,h2,h3⟩:=h.at (e:=e) (show i<bs.length by rw [<- h.len];exact hi);obtain ⟨b',mq,dh,ei⟩:=h.at (e:=e) (show j<bs.length by rw [<- h.len];exact hj);rw [h3,ei] at he;have:=hS.inj b b' (h.lt h2) (h.lt dh) he;subst this;exact h.nodup i j b h1 mq
 box:=fun j y hy=>by
  have hj:=(Th.1 hy).1;obtain ⟨b,h1,h2,h3⟩:=h.at (e:=e) (show j<bs.length by rw [<- h.len];exact hj);obtain ⟨x,hx,xm⟩:=h.get j b h1;simp only at hy;rw [xm] at hy
  cases hy
  have hB:=hS.box b x hx;rw [h3]
  cases x with
  | cells t cs =>
   obtain ⟨vs,g1,g2,g3⟩:=hB;refine ⟨vs,g1,by rw [YD];exact g2,fun i y u hy hu=>?_⟩;obtain ⟨z,hz,rfl⟩:=WM i y hy;exact ⟨(g3 i z u hz hu).1.ren hS h,(g3 i z u hz hu).2⟩
  | iter s p=>exact hB
  | loop st pd r=>exact hB
  | dmap m=>exact hB.dmapTo rfl fun d v hv=>by have q:VRel G _ _ _ (.d d) v:=(VRel.d (G:=G) d v hv).ren hS h;cases q;assumption
  | map cs bn ck=>exact hB.mapTo rfl YD fun i x y hx hy=>by obtain ⟨z,hz,rfl⟩:=WM i y hy;rw [hx] at hz;cases hz;exact ⟨fun v hv=>hv.ren hS h,fun d hd=>by subst hd;rfl⟩
 low:=fun j hj=>by
  obtain ⟨b,h1,h2,h3⟩:=h.at (e:=e) (show j<bs.length by rw [<- h.len];exact hj);rw [h3];exact hS.low b (h.lt h2)
 tkn:=fun t ht=>hS.tkn t (h.passIn t ht).1
 own:=fun t ht p hp=>by
  obtain ⟨h1,h2,h3⟩:=hS.own t (h.passIn t ht).1 p hp;refine ⟨h1,fun j hj=>?_,h3⟩;obtain ⟨b,g1,g2,g3⟩:=h.at (e:=e) (show j<bs.length by rw [<- h.len];exact hj);rw [g3];exact h2 b (h.lt g2)
 dis:=fun t t' ht ma=>hS.dis t t' (h.passIn t ht).1 (h.passIn t' ma).1
 xlt:=fun b off hX=>by
  rcases hX with hX | ⟨i,h1,_,h2⟩ | ⟨t,h1,p,h2,h3,h4⟩
  ·exact hS.xlt b off hX
  ·rw [<- h2];exact hS.lt h1
  obtain ⟨_,_,cs,ty,fz,hh⟩:=hS.own t (h.restIn t h1) p h2;rw [<- h3];exact (Tn.1 hh).1
 xown:=fun t ht p hp off iv hX=>by
  rcases hX with hX | ⟨i,h1,_,h2⟩ | ⟨t',h1,p',h2,h3,h4⟩
  ·exact hS.xown t (h.passIn t ht).1 p hp off iv hX
  ·exact (hS.own t (h.passIn t ht).1 p hp).2.1 i h1 h2
  exact hS.dis t' t (h.restIn t' h1) (h.passIn t ht).1 (fun e=>(h.passIn t ht).2 (e ▸ h1)) p' p h2 hp h3
 glob:=hS.glob
 big:=hS.big
def Env.back (e:Env) (L m nx:Nat) (e3:Env):Env:=⟨fun i=>if i<L then e.β i else e3.β (m+(i - L)),fun t=>if t<nx then e.M t else e3.M (t - nx),e.X⟩
structure Handed (e:Env) (σ:St) (w:World) (bs rest:List Nat) (e2:Env) (σ2:St):Prop where
 nodup:∀(i j b:Nat),bs[i]?=some b->bs[j]?=some b->i=j
 lt:∀b,b∈bs->b<σ.bx.length
 len:σ2.bx.length=bs.length
 beta:∀(j b:Nat),bs[j]?=some b->e2.β j=e.β b
 X:e2.X=ZfH e σ bs rest
 okc:∀b off,okc e σ b off->okc e2 σ2 b off
 tok:∀t,t∈σ2.tk->∀p,e2.M t=some p->∃t0,t0∈σ.tk/\t0∉rest/\e.M t0=some p
 restIn:∀t,t∈rest->t∈σ.tk
variable {e2 e3:Env} {σ2 σ3:St} {w':World} {bx:List Box}
structure Backed (σ:St) (bs:List Nat) (σ3:St) (bx:List Box):Prop where
 le:bs.length<=σ3.bx.length
 len:bx.length=σ.bx.length+(σ3.bx.length - bs.length)
 some:∀(j b:Nat) (x:Box),bs[j]?=some b->σ3.bx[j]?=some x->bx[b]?=some (Jo bs bs.length σ.bx.length σ.nx x)
 old:∀i,i<σ.bx.length->i∉bs->bx[i]?=σ.bx[i]?
 new:∀i,σ.bx.length<=i->bx[i]?=σ3.bx[bs.length+(i - σ.bx.length)]?.map (Jo bs bs.length σ.bx.length σ.nx)
abbrev U5 (σ:St) (rest:List Nat) (σ3:St) (bx:List Box):St:=⟨bx,rest++σ3.tk.map (σ.nx+·),σ.nx+σ3.nx⟩
theorem Yv {t:Nat} (hS:SRel G e σ w) (h:Handed e σ w bs rest e2 σ2) (ht:t∈(U5 σ rest σ3 bx).tk):(t∈rest/\t<σ.nx)\/∃t',t'∈σ3.tk/\t=σ.nx+t':=by
 rcases TN.1 ht with h1 | h1
 ·exact .inl ⟨h1,hS.tkn t (h.restIn t h1)⟩
 obtain ⟨t',h2,h3⟩:=SB.1 h1;exact .inr ⟨t',h2,h3.symm⟩
theorem YM {L m nx t:Nat} (h:t<nx):(e.back L m nx e3).M t=e.M t:=by simp [Env.back,h]
theorem back_M_new {L m nx t:Nat}:(e.back L m nx e3).M (nx+t)=e3.M t:=by
 have:¬nx+t<nx:=oM;simp [Env.back,this]
theorem Yg {L m nx i:Nat} (h:i<L):(e.back L m nx e3).β i=e.β i:=by simp [Env.back,h]
theorem Ve {L m nx i:Nat} (h:L<=i):(e.back L m nx e3).β i=e3.β (m+(i - L)):=by
 have:¬i<L:=oM;simp [Env.back,this]
theorem ZiO (h:Handed e σ w bs rest e2 σ2) (hL:Later e2 σ2 w e3 σ3 w') {i:Nat} (hi:i<σ.bx.length):(∃j,j<σ2.bx.length/\bs[j]?=some i/\e3.β j=e.β i)\/(i∉bs/\∀off,e3.X (e.β i) off):=by
 by_cases hm:i∈bs
 ·obtain ⟨j,hj,he⟩:=Se hm;have hb:bs[j]?=some i:=by rw [Te hj,he]
  have gw:j<σ2.bx.length:=by rw [h.len];exact hj
  exact .inl ⟨j,gw,hb,(hL.beta j gw).trans (h.beta j i hb)⟩
 exact .inr ⟨hm,fun off=>by rw [hL.X,h.X];exact .inr (.inl ⟨i,hi,hm,rfl⟩)⟩
theorem ZfI (hS:SRel G e σ w) (h:Handed e σ w bs rest e2 σ2) (hL:Later e2 σ2 w e3 σ3 w') (hb:Backed σ bs σ3 bx) {b off:Nat} (ho:okc e3 σ3 b off) :
  okc (e.back σ.bx.length bs.length σ.nx e3) (U5 σ rest σ3 bx) b off:=by
 have hX:¬ZfH e σ bs rest b off:=by rw [<- h.X,<- hL.X];exact ho.1
 refine ⟨fun hx=>hX (.inl hx),fun i hi=>?_,fun t ht p hp rq=>?_⟩
 ·by_cases ai:i<σ.bx.length
  ·rw [Yg ai];rcases ZiO h hL ai with ⟨j,hj,_,he⟩ | ⟨_,hx⟩
   ·rw [<- he];exact ho.2.1 j (TD hj hL.len)
   intro e;rw [<- e] at ho;exact ho.1 (hx off)
  rw [Ve oM];have aa:=hb.len;have aq:=hb.le;simp only at hi;exact ho.2.1 _ oM
 rcases Yv hS h ht with ⟨h1,h2⟩ | ⟨t',h1,rfl⟩
 ·rw [YM h2] at hp;have:¬p.2<=off:=fun aq=>hX (.inr (.inr ⟨t,h1,p,hp,rq,aq⟩))
  omega
 rw [back_M_new] at hp;exact ho.2.2 t' h1 p hp rq
theorem VRel.back (hS:SRel G e σ w) (h:Handed e σ w bs rest e2 σ2) (hL:Later e2 σ2 w e3 σ3 w') (hb:Backed σ bs σ3 bx) {x:PV} {v:Value} (hv:VRel G e3 σ3 w' x v) :
  VRel G (e.back σ.bx.length bs.length σ.nx e3) (U5 σ rest σ3 bx) w' (X6 bs bs.length σ.bx.length σ.nx x) v:=by
 have hd:∀{x:D} {v:Value},DRel (okc e3 σ3) w' x v->DRel (okc (e.back σ.bx.length bs.length σ.nx e3) (U5 σ rest σ3 bx)) w' x v:=fun hd=>hd.mono fun b off u hu ho=>⟨ZfI hS h hL hb ho,hu⟩
 have bk:∀i,i<σ3.bx.length->e3.β i=(e.back σ.bx.length bs.length σ.nx e3).β (match bs[i]? with | some b=>b | none=>σ.bx.length+(i - bs.length))/\(match bs[i]? with | some b=>b | none=>σ.bx.length+(i - bs.length))<bx.length:=fun i hi=>by
  have aa:=hb.len;have aq:=hb.le
  cases od:bs[i]? with
  | some b =>
   have hj:=(Th.1 od).1;have ai:=h.lt b (Sb od);refine ⟨?_,by show b<bx.length;omega⟩;rw [Yg ai];exact (hL.beta i (by rw [h.len];exact hj)).trans (h.beta i b od)
  | none =>
  have kg:bs.length<=i:=by simpa using od
  show e3.β i=(e.back σ.bx.length bs.length σ.nx e3).β (σ.bx.length+(i - bs.length))/\σ.bx.length+(i - bs.length)<bx.length;refine ⟨?_,oM⟩;rw [Ve oM];congr 1;omega
 induction hv with
 | d x v hx=>exact .d _ _ (hd hx)
 | undef v=>exact .undef _
 | ptr i off hi =>
  obtain ⟨h1,h2⟩:=bk i hi;simp only [X6]
  cases od:bs[i]? <;> rw [od] at h1 h2 <;> (rw [h1];exact .ptr _ off h2)
 | asl i off n hi =>
  obtain ⟨h1,h2⟩:=bk i hi;simp only [X6]
  cases od:bs[i]? <;> rw [od] at h1 h2 <;> (rw [h1];exact .asl _ off n h2)
 | mp i hi =>
  obtain ⟨h1,h2⟩:=bk i hi;simp only [X6]
  cases od:bs[i]? <;> rw [od] at h1 h2 <;> (rw [h1];exact .mp _ h2)
 | nilm=>exact .nilm
 | elem r off b o u hc ho hu=>exact .elem r off b o u hc (fun j hj=>ZfI hS h hL hb (ho j hj)) (fun j x hx=>hd (hu j x hx))
 | sl t el rows v hn nc ht =>
  refine .sl _ el rows v (by show σ.nx+t<σ.nx+σ3.nx;omega) (hd nc) fun hp=>?_
  rcases Yv hS h hp with ⟨_,h2⟩ | ⟨t',h1,h2⟩
  ·omega
  obtain rfl:t=t':=by omega
  rcases ht h1 with ⟨g1,g2,g3⟩ | ⟨sz,g1,g2,g3,b,off,cap,cs,ty,fz,g4,g5,g6,g7,g8,g9,g10⟩
  ·exact .inl ⟨g1,g2,back_M_new.trans g3⟩
  exact .inr ⟨sz,g1,g2,g3,b,off,cap,cs,ty,fz,g4,g5,g6,g7,g8,g9,back_M_new.trans g10⟩
 | nils el=>exact .nils el
 | func f a c va vc ha hc _ _ ih1 ih2 =>
  refine .func f _ _ va vc (by rw [YE];exact ha) (by rw [YE];exact hc) (fun i y u hy hu=>?_) (fun i y u hy hu=>?_)
  ·obtain ⟨x,hx,rfl⟩:=Wp i y hy;exact ih1 i x u hx hu
  obtain ⟨x,hx,rfl⟩:=Wp i y hy;exact ih2 i x u hx hu
 | iface t x v _ ih=>exact .iface t _ v ih
 | agg cs vs hs _ h1 ih=>exact .agg _ vs (by rw [YE];exact hs) (fun i y u hy hu=>by obtain ⟨x,hx,rfl⟩:=Wp i y hy;exact ih i x u hx hu) h1
 | tuple cs vs hs _ ih=>exact .tuple _ vs (by rw [YE];exact hs) (fun i y u hy hu=>by obtain ⟨x,hx,rfl⟩:=Wp i y hy;exact ih i x u hx hu)
 | raw v=>exact .raw _
theorem Zbu (hS:SRel G e σ w) (h:Handed e σ w bs rest e2 σ2) (gq:SRel G e3 σ3 w') (hL:Later e2 σ2 w e3 σ3 w') (hb:Backed σ bs σ3 bx):Stepped e σ w (e.back σ.bx.length bs.length σ.nx e3) (U5 σ rest σ3 bx) w' where
 len:=by show σ.bx.length<=bx.length;rw [hb.len];omega
 beta:=fun i hi=>Yg hi
 X:=rfl
 pres:=fun b off u hu ho=>by
  obtain ⟨h1,h2⟩:=hL.pres b off u hu (h.okc b off ho);exact ⟨ZfI hS h hL hb h1,h2⟩
 blocks:=fun b ai hn ht=>hL.blocks b ai (fun j hj=>by
   have lx:j<bs.length:=by rw [<- h.len];exact hj
   have so:=Te lx;rw [h.beta j _ so];exact hn _ (h.lt _ (TB lx))) (fun t yq p hp=>by
   obtain ⟨t0,h1,_,h2⟩:=h.tok t yq p hp;exact ht t0 h1 p h2)
 size:=hL.size
 os:=hL.os
 tape:=hL.tape
 output:=hL.output
 fresh:=fun i h1 h2=>by
  rw [Ve h1];have aa:=hb.len;have aq:=hb.le;have:i<bx.length:=h2;exact hL.fresh _ (by rw [h.len];omega) oM
 ftok:=fun t ht p hp=>by
  rcases Yv hS h ht with ⟨h1,h2⟩ | ⟨t',h1,rfl⟩
  ·rw [YM h2] at hp;exact .inr ⟨t,h.restIn t h1,p,hp,rfl⟩
  rw [back_M_new] at hp;rcases hL.ftok t' h1 p hp with h2 | ⟨t0,h3,p0,h4,h5⟩
  ·exact .inl h2
  obtain ⟨t1,g1,_,g2⟩:=h.tok t0 h3 p0 h4;exact .inr ⟨t1,g1,p0,g2,h5⟩
 nx:=Nat.le_add_right _ _
 toks:=fun t ai ht=>by
  rcases Yv hS h ht with ⟨h1,_⟩ | ⟨t',h1,rfl⟩
  ·exact ⟨h.restIn t h1,YM ai⟩
  omega
 own:=fun t ai ht p hp aat=>by
  rcases Yv hS h ht with ⟨h1,_⟩ | ⟨t',h1,rfl⟩
  ·obtain ⟨_,pu,_⟩:=hS.own t (h.restIn t h1) p hp;refine hL.blocks p.1 aat (fun j hj=>?_) (fun t2 l9 p2 uf=>?_)
   ·have lx:j<bs.length:=by rw [<- h.len];exact hj
    have so:=Te lx;rw [h.beta j _ so];exact pu _ (h.lt _ (TB lx))
   obtain ⟨t0,g1,g2,g3⟩:=h.tok t2 l9 p2 uf;exact hS.dis t0 t g1 (h.restIn t h1) (fun e=>g2 (e ▸ h1)) p2 p g3 hp
  omega
theorem SRel.back (hS:SRel G e σ w) (h:Handed e σ w bs rest e2 σ2) (gq:SRel G e3 σ3 w') (hL:Later e2 σ2 w e3 σ3 w') (hb:Backed σ bs σ3 bx):SRel G (e.back σ.bx.length bs.length σ.nx e3) (U5 σ rest σ3 bx) w':=by
 have hst:=Zbu hS h gq hL hb;have aa:=hb.len;have aq:=hb.le;have fq:(U5 σ rest σ3 bx).bx.length=bx.length:=rfl;have ic:∀i,σ.bx.length<=i->i<bx.length->(e.back σ.bx.length bs.length σ.nx e3).β i=e3.β (bs.length+(i - σ.bx.length))/\bs.length+(i - σ.bx.length)<σ3.bx.length/\w.heap.size<=e3.β (bs.length+(i - σ.bx.length)):=fun i h1 h2=>by
  have:=hst.fresh i h1 h2;rw [Ve h1] at this;exact ⟨Ve h1,oM,this⟩
 have an:∀t,t∈rest->∀p,e.M t=some p->p.1<w.heap.size:=fun t ht p hp=>by
  obtain ⟨_,_,cs,ty,fz,hh⟩:=hS.own t (h.restIn t ht) p hp;exact (Tn.1 hh).1
 constructor
 ·intro i j hi hj he
  by_cases h1:i<σ.bx.length <;> by_cases h2:j<σ.bx.length
  ·rw [Yg h1,Yg h2] at he;exact hS.inj i j h1 h2 he
  ·obtain ⟨g1,g2,g3⟩:=ic j oM hj;rw [Yg h1,g1] at he;have:=hS.lt h1;omega
  ·obtain ⟨g1,g2,g3⟩:=ic i oM hi;rw [Yg h2,g1] at he;have:=hS.lt h2;omega
  obtain ⟨g1,g2,g3⟩:=ic i oM hi;obtain ⟨k1,k2,k3⟩:=ic j oM hj;rw [g1,k1] at he;have:=gq.inj _ _ g2 k2 he;omega
 ·intro i x hx
  have hi:=(Th.1 hx).1;simp only at hx hi;have hBk:∀(y:Box) (b:Nat),BRel G e3 σ3 w' y b->BRel G (e.back σ.bx.length bs.length σ.nx e3) (U5 σ rest σ3 bx) w' (Jo bs bs.length σ.bx.length σ.nx y) b:=fun y b hB=>by
   cases y with
   | cells t cs =>
    obtain ⟨vs,g1,g2,g3⟩:=hB;refine ⟨vs,g1,by rw [YE];exact g2,fun k z u hz hu=>?_⟩;obtain ⟨z',uq,rfl⟩:=Wp k z hz;exact ⟨(g3 k z' u uq hu).1.back hS h hL hb,(g3 k z' u uq hu).2⟩
   | iter s p=>exact hB
   | loop st pd r=>exact hB
   | dmap m=>exact hB.dmapTo rfl fun d v hv=>by have q:VRel G _ _ _ (.d d) v:=(VRel.d (G:=G) d v hv).back hS h hL hb;cases q;assumption
   | map cs bn ck=>exact hB.mapTo rfl YE fun i x y hx hy=>by obtain ⟨z,hz,rfl⟩:=Wp i y hy;rw [hx] at hz;cases hz;exact ⟨fun v hv=>hv.back hS h hL hb,fun d hd=>by subst hd;rfl⟩
  by_cases h1:i<σ.bx.length
  ·rw [Yg h1];rcases ZiO h hL h1 with ⟨j,hj,so,he⟩ | ⟨vw,hX⟩
   ·have qj:j<σ3.bx.length:=TD hj hL.len;have:=hb.some j i _ so (Te qj);rw [this] at hx
    cases hx
    rw [<- he];exact hBk _ _ (gq.box j _ (Te qj))
   rw [hb.old i h1 vw] at hx;refine (hS.box i x hx).step hst (hL.blocks _ (hS.lt h1) (fun j hj=>?_) (fun t ht p hp=>?_))
   ·have lx:j<bs.length:=by rw [<- h.len];exact hj
    have so:=Te lx;rw [h.beta j _ so];intro he
    have:=hS.inj _ _ (h.lt _ (TB lx)) h1 he;exact vw (this ▸ TB lx)
   obtain ⟨t0,g1,_,g2⟩:=h.tok t ht p hp;exact fun he=>(hS.own t0 g1 p g2).2.1 i h1 he.symm
  obtain ⟨g1,g2,g3⟩:=ic i oM hi;rw [hb.new i oM,Te g2] at hx
  cases hx
  rw [g1];exact hBk _ _ (gq.box _ _ (Te g2))
 ·intro i hi
  by_cases h1:i<σ.bx.length
  ·rw [Yg h1];exact hS.low i h1
  obtain ⟨g1,g2,g3⟩:=ic i oM hi;rw [g1];exact gq.low _ g2
 ·intro t ht
  rcases Yv hS h ht with ⟨_,h2⟩ | ⟨t',h1,rfl⟩
  ·show t<σ.nx+σ3.nx;omega
  have:=gq.tkn t' h1;show σ.nx+t'<σ.nx+σ3.nx;omega
 ·intro t ht p hp
  rcases Yv hS h ht with ⟨h1,h2⟩ | ⟨t',h1,rfl⟩
  ·rw [YM h2] at hp;obtain ⟨g1,g2,cs,ty,fz,g3⟩:=hS.own t (h.restIn t h1) p hp;refine ⟨g1,fun i hi=>?_,cs,ty,fz,(hst.own t h2 ht p hp (an t h1 p hp)).trans g3⟩
   by_cases h3:i<σ.bx.length
   ·rw [Yg h3];exact g2 i h3
   obtain ⟨k1,k2,k3⟩:=ic i oM hi;rw [k1];have:=an t h1 p hp;omega
  rw [back_M_new] at hp;obtain ⟨g1,g2,g3⟩:=gq.own t' h1 p hp;refine ⟨g1,fun i hi=>?_,g3⟩
  by_cases h3:i<σ.bx.length
  ·rw [Yg h3];rcases ZiO h hL h3 with ⟨j,hj,_,he⟩ | ⟨_,hX⟩
   ·rw [<- he];exact g2 j (TD hj hL.len)
   intro he
   exact gq.xown t' h1 p hp p.2 (Tq _) (he ▸ hX p.2)
  obtain ⟨k1,k2,k3⟩:=ic i oM hi;rw [k1];exact g2 _ k2
 ·intro t t' ht ma ao p p' hp gf
  have mixed:∀t t',t∈rest->t<σ.nx->t'∈σ3.tk->∀p p',e.M t=some p->e3.M t'=some p'->p.1≠p'.1:=fun t t' h1 h2 h3 p p' hp gf he=>by
   refine gq.xown t' h3 p' gf (max p.2 p'.2) (Nat.le_max_right _ _) ?_;rw [hL.X,h.X];exact .inr (.inr ⟨t,h1,p,hp,he,Nat.le_max_left _ _⟩)
  rcases Yv hS h ht with ⟨h1,h2⟩ | ⟨s,h1,rfl⟩ <;> rcases Yv hS h ma with ⟨k1,k2⟩ | ⟨s',k1,rfl⟩
  ·rw [YM h2] at hp;rw [YM k2] at gf;exact hS.dis t t' (h.restIn t h1) (h.restIn t' k1) ao p p' hp gf
  ·rw [YM h2] at hp;rw [back_M_new] at gf;exact mixed t s' h1 h2 k1 p p' hp gf
  ·rw [back_M_new] at hp;rw [YM k2] at gf;exact fun he=>mixed t' s k1 k2 h1 p' p gf hp he.symm
  rw [back_M_new] at hp gf;exact gq.dis s s' h1 k1 (fun e=>ao (by rw [e])) p p' hp gf
 ·intro b off hX
  exact TD (hS.xlt b off hX) hL.size
 ·intro t ht p hp off iv hX
  rcases Yv hS h ht with ⟨h1,h2⟩ | ⟨t',h1,rfl⟩
  ·rw [YM h2] at hp;exact hS.xown t (h.restIn t h1) p hp off iv hX
  rw [back_M_new] at hp;refine gq.xown t' h1 p hp off iv ?_;rw [hL.X,h.X];exact .inl hX
 ·exact gq.glob
 exact gq.big
theorem XB {md:Nat} {g:FuncId} {sp:Zo} (hP:PCalls G g sp) {args:List PV} {K:PEnd->St->Prop} (hv:Vz md sp args σ K) :
  W8 G.P g/\∀(ro:Option Nat) (n:Nat) (e:Env) (w:World) (vs:Array Value),SRel G e σ w->ArgsRel G e σ w args vs->CallsIn (fw ro) n G.P g vs w (ZxU G e σ w K):=by
 unfold Vz at hv
 simp only [JX,JY,Wk] at hv;generalize U4 σ.bx (σ.bx.length+1) 0 (XU args [])=bs at hv;split at hv
 ·rename_i gx
  obtain ⟨cb,hv,mb,hcg⟩:=ZnS hv;obtain ⟨args',tk1,as1,hv,dk,kq,xx,hav⟩:=ZrJ (as:=[]) (ZDn σ.tk σ.tk fun _ h=>h) hv;obtain ⟨cb',rest,as2,hv,ce,fx,cq,ad1,kj⟩:=Vx kq hv;have kr:=ZcO gx;have qk:∀b,b∈bs->b<σ.bx.length:=fun b hb=>by
   obtain ⟨k,hk,he⟩:=Se hb;obtain ⟨x,hx,_⟩:=hcg k b (by rw [Te hk,he]);exact (Th.1 hx).1
  have backOf:∀(pe:PEnd) (σ3:St),(ZdY (Jo bs bs.length σ.bx.length σ.nx) bs σ3.bx σ.bx fun bx=>K (ZnR bs bs.length σ.bx.length σ.nx pe) (U5 σ rest σ3 bx))->∃bx,Backed σ bs σ3 bx/\K (ZnR bs bs.length σ.bx.length σ.nx pe) (U5 σ rest σ3 bx):=fun pe σ3 hb=>by
   obtain ⟨bx,h1,h2,h3,h4,h5,h6⟩:=Zka kr qk hb;exact ⟨bx,⟨h2,h3,h4,h5,h6⟩,h1⟩
  refine ⟨hP.enters,fun ro n e w vs hS am=>?_⟩;have ql:∀t,t∈as2.filterMap id↔some t∈as2:=fun t=>by simp
  have nk:∀t,t∈as2.filterMap id->t∈σ.tk/\t∉rest:=fun t ht=>by
   obtain ⟨i,hi,he⟩:=Se ((ql t).1 ht);exact fx.mem i t (by rw [Te hi,he])
  have hH:Hand σ bs rest (as2.filterMap id) cb:=⟨kr,mb,hcg,fx.sub,nk⟩
  have gg:=hS.ren hH;have hIP:NInv (as2.filterMap id) [] as2:=⟨(fun t ht=>by cases ht),(fun i t hi=>⟨(ql t).2 (Sb hi),sM⟩),fx.inj⟩
  have eo:bs.length<=(St.mk cb (as2.filterMap id) σ.nx).bx.length:=Nat.le_of_eq mb.symm;have jl:=ZfC gg eo hIP cq kj;have hD:=ZcD (e:=e.handed σ bs rest) eo hIP cq;have hA2:ArgsRel G ((e.handed σ bs rest).re as2) ⟨cb',toks as2.length,as2.length⟩ w args' vs:=by
   refine ⟨by rw [am.1,xx,YD],fun i x u hx hu=>?_⟩;have hi:=(Th.1 hx).1;rw [xx] at hi;have hy:=Te hi;obtain ⟨z,hz,hze⟩:=WM i _ hy;have h1:=(am.2 i z u hz hu).ren hS hH;rw [<- hze] at h1;exact ((hav i _ x hy hx).ext ce).rel eo hIP cq h1
  have xz:Handed e σ w bs rest ((e.handed σ bs rest).re as2) ⟨cb',toks as2.length,as2.length⟩:={
   nodup:=kr
   lt:=qk
   len:=cq
   beta:=fun j b hj=>by simp [Env.re,Env.handed,hj]
   X:=rfl
   okc:=fun b off ho=>hD.okc b off (ZnT hS hH ho)
   tok:=fun t ht p hp=>by
    obtain ⟨t0,h1,h2⟩:=hD.tok t ht p hp;exact ⟨t0,(nk t0 h1).1,(nk t0 h1).2,h2⟩
   restIn:=fx.sub }
  have jt:=hP.calls _ _ _ hv n _ w vs jl hA2;have vp:∀R,CallsIn (fw none) n G.P g vs w R->CallsIn (fw ro) n G.P g vs w R:=fun R h=>by
   cases ro with
   | none=>exact h
   | some l=>exact h.inRound l
  refine (vp _ jt).mono fun en w' hA=>?_
  obtain ⟨pe,σ3,e3,hk,hE,gq,hL⟩:=hA;obtain ⟨bx,hB,hK⟩:=backOf pe σ3 hk;refine ⟨_,_,e.back σ.bx.length bs.length σ.nx e3,hK,?_,hS.back xz gq hL hB,Zbu hS xz gq hL hB⟩
  cases pe with
  | ret x=>obtain ⟨v,rfl,hr⟩:=hE;exact ⟨v,rfl,hr.back hS xz hL hB⟩
  | panic x=>obtain ⟨v,rfl,hr⟩:=hE;exact ⟨v,rfl,hr.back hS xz hL hB⟩
 exact hv.elim
def ZK (sp:Zo):Prop:=∀args σ (K K':PEnd->St->Prop),(∀e σ,K e σ->K' e σ)->sp args σ K->sp args σ K'
theorem Zg7 {bs:List Nat} {bx:List Box}:∀{l:List Nat} {K K':List Box->Prop},(∀r,K r->K' r)->Zm8 bs bx l K->Zm8 bs bx l K'
 | [],K,K',hK,h=>hK _ h
 | b::l,K,K',hK,h=>by
  simp only [Zm8] at h |-;split at h
  all_goals first
   | exact Zg7 (fun r hr=>hK _ hr) h
   | exact h.elim
theorem ZnU {n:Nat} {tk:List Nat} {k:Nat} {v:PV} {K K':PV->List Nat->Nat->Prop} (hK:∀v t k,K v t k->K' v t k) (h:ZrB n tk k v K):ZrB n tk k v K':=by
 have gen:∀v,(match bnd n v with | true=>Jd (clean v) fun v=>K v tk k | false=>K .undef tk k:Prop)->(match bnd n v with | true=>Jd (clean v) fun v=>K' v tk k | false=>K' .undef tk k:Prop):=fun v h=>by
  split at h
  ·rw [ZF] at h |-;exact hK _ _ _ h
  exact hK _ _ _ h
 cases v with
 | sl t el rows =>
  simp only [ZrB] at h |-;split at h <;> exact hK _ _ _ h
 | nils el=>exact hK _ _ _ h
 | d x=>exact gen (.d x) h
 | undef=>exact gen .undef h
 | ptr b o=>exact gen (.ptr b o) h
 | asl b o n=>exact gen (.asl b o n) h
 | elem r o=>exact gen (.elem r o) h
 | func f a c=>exact gen (.func f a c) h
 | iface t v=>exact gen (.iface t v) h
 | agg cs=>exact gen (.agg cs) h
 | tuple cs=>exact gen (.tuple cs) h
 | raw v=>exact gen (.raw v) h
 | mp b=>exact gen (.mp b) h
 | nilm=>exact gen .nilm h
theorem Ua {n:Nat}:∀{vs:List PV} {tk:List Nat} {k:Nat} {K K':List PV->List Nat->Nat->Prop},(∀v t k,K v t k->K' v t k)->ZrC n vs tk k K->ZrC n vs tk k K'
 | [],_,_,_,_,hK,h=>hK _ _ _ h
 | v::vs,_,_,_,_,hK,h=>ZnU (fun v t k h=>Ua (fun vs t k h=>hK _ _ _ h) h) h
theorem ZeI {n:Nat} {tk:List Nat} {k:Nat} {v:PV} {K K':PV->List Nat->Nat->Prop} (hK:∀v t k,K v t k->K' v t k) (h:Zco n tk k v K):Zco n tk k v K':=by
 have gen:∀v,(match bnd n v with | true=>Jd (cleanN v) fun v=>K v tk k | false=>K .undef tk k:Prop)->(match bnd n v with | true=>Jd (cleanN v) fun v=>K' v tk k | false=>K' .undef tk k:Prop):=fun v h=>by
  split at h
  ·rw [ZF] at h |-;exact hK _ _ _ h
  exact hK _ _ _ h
 cases v with
 | sl t el rows =>
  simp only [Zco] at h |-;split at h <;> exact hK _ _ _ h
 | nils el=>exact hK _ _ _ h
 | d x=>exact gen (.d x) h
 | undef=>exact gen .undef h
 | ptr b o=>exact gen (.ptr b o) h
 | asl b o n=>exact gen (.asl b o n) h
 | elem r o=>exact gen (.elem r o) h
 | func f a c=>exact gen (.func f a c) h
 | iface t v=>exact gen (.iface t v) h
 | agg cs=>exact gen (.agg cs) h
 | tuple cs=>exact gen (.tuple cs) h
 | raw v=>exact gen (.raw v) h
 | mp b=>exact gen (.mp b) h
 | nilm=>exact gen .nilm h
theorem ZeJ {n:Nat}:∀{vs:List PV} {tk:List Nat} {k:Nat} {K K':List PV->List Nat->Nat->Prop},(∀v t k,K v t k->K' v t k)->Zit n vs tk k K->Zit n vs tk k K'
 | [],_,_,_,_,hK,h=>hK _ _ _ h
 | v::vs,_,_,_,_,hK,h=>ZeI (fun v t k h=>ZeJ (fun vs t k h=>hK _ _ _ h) h) h
theorem XM {n:Nat}:∀{m:Nat} {bs:List Box} {tk:List Nat} {k:Nat} {K K':List Box->List Nat->Nat->Prop},(∀v t k,K v t k->K' v t k)->ZbR n m bs tk k K->ZbR n m bs tk k K'
 | 0,_,_,_,_,_,hK,h=>by simp only [ZbR] at h |-;exact hK _ _ _ h
 | _+1,[],_,_,_,_,_,h=>h.elim
 | _+1,.cells t cs::bs,_,_,_,_,hK,h=>by
  simp only [ZbR] at h |-;exact Ua (fun v t k h=>XM (fun _ _ _ h=>hK _ _ _ h) h) h
 | _+1,.iter s p::bs,_,_,K,K',hK,h=>by
  simp only [ZbR] at h |-;exact XM (K:=fun l tk k=>K (.iter s p::l) tk k) (K':=fun l tk k=>K' (.iter s p::l) tk k) (fun _ _ _ h=>hK _ _ _ h) h
 | _+1,.loop st pd r::bs,_,_,K,K',hK,h=>by
  simp only [ZbR] at h |-;exact XM (K:=fun l tk k=>K (.loop st pd r::l) tk k) (K':=fun l tk k=>K' (.loop st pd r::l) tk k) (fun _ _ _ h=>hK _ _ _ h) h
 | _+1,.dmap m::bs,_,_,K,K',hK,h=>by
  simp only [ZbR] at h |-;exact XM (K:=fun l tk k=>K (.dmap m::l) tk k) (K':=fun l tk k=>K' (.dmap m::l) tk k) (fun _ _ _ h=>hK _ _ _ h) h
 | _+1,.map cs bn ck::bs,_,_,_,_,hK,h=>by
  simp only [ZbR] at h |-;exact Ua (fun v t k h=>XM (fun _ _ _ h=>hK _ _ _ h) h) h
theorem ZeK {bb:Box->Box}:∀{bs:List Nat} {xs acc:List Box} {K K':List Box->Prop},(∀r,K r->K' r)->ZdY bb bs xs acc K->ZdY bb bs xs acc K'
 | [],_,_,_,_,hK,h=>by simp only [ZdY] at h |-;exact hK _ h
 | _::_,[],_,_,_,_,h=>h.elim
 | b::bs,x::xs,_,_,_,hK,h=>by simp only [ZdY] at h |-;exact ZeK hK h
theorem Zg8 {sp:Zo} (vz:ZK sp):ZK (ZiN sp):=fun args σ K K' hK h=>by
 unfold ZiN Vz Znd at h |-
 simp only [JX,JY,Wk] at h |-;split at h
 ·exact Zg7 (fun cb h=>Ua (fun a t k h=>XM (fun cb' r k h=>vz _ _ _ _ (fun pe σ3 h=>ZeK (fun bx h=>hK _ _ h) h) h) h) h) h
 exact h.elim
end
end Go.PM
end

section
namespace Go.PM
def Cx.up (C:Cx):Cx:={ C with call:=fun g args σ K=>∃K',C.call g args σ K'/\∀e σ,K' e σ->K e σ }
theorem ZlZ {n:Nat} {tk:List Nat} {k:Nat} {v:PV} {K K':PV->List Nat->Nat->Prop} (hK:∀v t k,K v t k->K' v t k) (h:ZgN n tk k v K):ZgN n tk k v K':=by
 cases v with
 | agg cs=>exact ZeJ (fun v t k h=>hK _ _ _ h) h
 | _=>simp only [ZgN] at h |-;exact ZeI hK h
theorem ZeL {n:Nat}:∀{vs:List PV} {tk:List Nat} {k:Nat} {K K':List PV->List Nat->Nat->Prop},(∀v t k,K v t k->K' v t k)->Ziu n vs tk k K->Ziu n vs tk k K'
 | [],_,_,_,_,hK,h=>hK _ _ _ h
 | v::vs,_,_,_,_,hK,h=>ZlZ (fun v t k h=>ZeL (fun vs t k h=>hK _ _ _ h) h) h
theorem Zl0 {n:Nat} {vs:List PV} {σ:St} {K K':List PV->St->Prop} (hK:∀v s,K v s->K' v s) (h:ZlF n vs σ K):ZlF n vs σ K' :=
 Ua (fun _ _ _ h=>XM (fun _ _ _ h=>hK _ _ h) h) h
theorem ZcP {ag:Bool} {n:Nat} {vs:List PV} {σ:St} {K K':List PV->St->Prop} (hK:∀v s,K v s->K' v s) (h:VT ag n vs σ K):VT ag n vs σ K':=by
 cases ag with
 | true=>exact ZeL (fun _ _ _ h=>XM (fun _ _ _ h=>hK _ _ h) h) h
 | false=>exact Zl0 hK h
section
variable {C:Cx} {all:List Oper} {ms:List Nat} {Q Q':PQ}
abbrev ZdZ (C:Cx):Prop:=∀v args σ (K:PEnd->St->Prop),¬C.raw v args σ K
theorem ZrR (hr:ZdZ C) (hQ:∀e f σ,Q e f σ->Q' e f σ) {o:Oper} {f:Frame} {σ:St} {K K':Frame->St->Prop} (hK:∀f σ,K f σ->K' f σ) (h:XS C o f σ Q K):XS C.up o f σ Q' K':=by
 unfold XS at h |-
 simp only [ZC,ZF] at h |-;split at h
 ·exact JQ (fun v hv=>by rw [ZT] at hv |-;exact hK _ _ hv) h
 split at h
 ·unfold Zcl at h |-
  split at h
  ·refine ⟨_,h,fun e σ he=>?_⟩
   cases e with
   | ret v=>simp only at he |-;rw [ZT] at he |-;exact hK _ _ he
   | panic v=>exact hQ _ _ _ he
  ·exact (hr _ _ _ _ h).elim
  exact h
 ·split at h
  ·exact hQ _ _ _ h
  exact h.elim
 exact Zb2 (fun v σ hv=>by rw [ZT] at hv |-;exact hK _ _ hv) h
theorem Zb5 (hr:ZdZ C) (hQ:∀e f σ,Q e f σ->Q' e f σ) {o:Oper} {f:Frame} {σ:St} {K K':Frame->St->Prop} (hK:∀f σ,K f σ->K' f σ) (h:Wf C all Q o f σ K):Wf C.up all Q' o f σ K':=by
 rw [Y3] at h |-;split at h
 ·exact ZrR hr hQ hK h
 ·exact hK _ _ h
 exact h
theorem ZnV {T:Tab} {o:Op} {ρ:Operand->PV} {σ:St} {K K':PV->St->Prop} (hK:∀v σ,K v σ->K' v σ) (h:ZtC T o ρ σ K):ZtC T o ρ σ K':=by
 unfold ZtC at h |-
 (repeat' split at h) <;> first
  | exact h.elim
  | exact hK _ _ h
  | exact ⟨h.choose,h.choose_spec.1,h.choose_spec.2.1,hK _ _ h.choose_spec.2.2⟩
  | (rename_i hk;exfalso;simp_all;done)
theorem ZiP (hr:ZdZ C) (hQ:∀e f σ,Q e f σ->Q' e f σ):∀{l:List Oper} {f:Frame} {σ:St},ZdV C all Q l f σ->ZdV C.up all Q' l f σ
 | [],f,σ,h=>hQ _ _ _ h
 | o::rest,f,σ,h=>by
  simp only [ZdV,ZgM] at h |-;show match Zet C o with | true=>_ | false=>_
  cases hb:Zet C o with
  | true =>
   rw [hb] at h;refine ZnV (fun v σ hv=>?_) h;simp only [ZC] at hv |-;rw [ZT] at hv |-;exact ZiP hr hQ hv
  | false =>
  rw [hb] at h;exact Zb5 hr hQ (fun f σ h=>ZiP hr hQ h) h
theorem ZfJ (hr:ZdZ C) (hQ:∀e f σ,Q e f σ->Q' e f σ) {i:Nat} {o:Oper} {ctx:List Ld} {f:Frame} {σ:St} {K K':List Ld->Frame->St->Prop} (hK:∀c f σ,K c f σ->K' c f σ) (h:X3 C all ms Q i o ctx f σ K):X3 C.up all ms Q' i o ctx f σ K':=by
 unfold X3 at h |-
 refine Zb5 hr hQ (fun f' σ' hk=>?_) h;exact m109
theorem ZfK (hr:ZdZ C) (hQ:∀e f σ,Q e f σ->Q' e f σ):∀{l:List (Nat×Oper)} {ctx:List Ld} {f:Frame} {σ:St},X4 C all ms Q l ctx f σ->X4 C.up all ms Q' l ctx f σ
 | [],_,f,σ,h=>hQ _ _ _ h
 | (i,o)::rest,ctx,f,σ,h=>ZfJ hr hQ (fun _ _ _ h=>ZfK hr hQ h) h
theorem ZfL (hr:ZdZ C) (hQ:∀e f σ,Q e f σ->Q' e f σ):∀(n:Nat) (l:List (Nat×Oper)) (c:List Ld) (f:Frame) (σ:St),Wh C all ms Q n l c f σ->Wh C.up all ms Q' n l c f σ
 | 0,[],_,_,_,h=>hQ _ _ _ h
 | _+1,[],_,_,_,h=>hQ _ _ _ h
 | 0,_::_,_,_,_,h=>h.elim
 | n+1,x::l,c,f,σ,h=>by
  unfold Wh at h |-
  split at h
  ·exact ZfJ hr hQ (fun c f σ h=>ZfL hr hQ n _ c f σ h) h
  rw [conjE_iff] at h |-;exact fun p hp hw=>ZfJ hr hQ (fun c f σ h=>ZfL hr hQ n _ c f σ h) (h p hp hw)
theorem Zl1 {T:Tab} {h:Hole} {f:Frame} {σ:St} {K K':Frame->St->Prop} (hK:∀f σ,K f σ->K' f σ) (g:ZgO T h f σ K):ZgO T h f σ K':=by
 unfold ZgO at g |-
 simp only [ZC,ZT] at g |-
 (repeat' split at g) <;> first
  | exact g.elim
  | exact ⟨g.1,g.2.1,hK _ _ g.2.2⟩
  | exact ⟨g.1,g.2.1,g.2.2.1,hK _ _ g.2.2.2⟩
theorem ZrS (hr:ZdZ C) (hQ:∀e f σ,Q e f σ->Q' e f σ) {h:Hole}:∀e f σ,ZgP C all h Q e f σ->ZgP C.up all h Q' e f σ:=fun e f σ g=>by
 cases e with
 | normal=>exact Zl1 (fun f σ g=>Zb5 hr hQ (fun f σ g=>Zb5 hr hQ (fun f σ g=>hQ _ _ _ g) g) g) g
 | _=>exact hQ _ _ _ g
theorem Zg9 {S S':PQ->Frame->St->Prop} (hS:∀Q Q' f σ,(∀e f σ,Q e f σ->Q' e f σ)->S Q f σ->S' Q' f σ):∀(n:Nat) {Q Q':PQ} {f:Frame} {σ:St},(∀e f σ,Q e f σ->Q' e f σ)->Zbj S Q n f σ->Zbj S' Q' n f σ
 | 0,_,_,_,_,_,h=>h
 | n+1,Q,Q',f,σ,hQ,h=>hS _ _ _ _ (fun e f σ h=>by cases e with | normal=>exact Zg9 hS n hQ h | _=>exact hQ _ _ _ h) h
theorem ZiQ {t:Bool} {X Y X' Y':Prop} (h1:X->X') (h2:Y->Y') (h:CondP t X Y):CondP t X' Y':=by cases t;exact h2 h;exact h1 h
theorem ZCv (hr:ZdZ C) (hi:∀g a r σ K,¬C.iter g a r σ K):∀(c:Code) {Q Q':PQ} {f:Frame} {σ:St},(∀e f σ,Q e f σ->Q' e f σ)->W C c Q f σ->W C.up c Q' f σ:=by
 have ug:ZdZ C.calm:=fun _ _ _ _ h=>h
 intro c
 induction c with
 | region id ops draw =>
  intro Q Q' f σ hQ h
  cases draw with
  | false=>simp only [W] at h |-;exact ZiP hr hQ h
  | true =>
  simp only [W] at h |-;have hQd:∀e f' σ,Zfu C ops.toList f Q e f' σ->Zfu C.up ops.toList f Q' e f' σ:=fun e f' σ h=>by
   cases e <;> exact hQ _ _ _ h
  cases hh:Zbi ops.toList with
  | none =>
   simp only [hh] at h |-
   cases hc:Zcn (Xs ops.toList []) none (Zx 0 ops.toList) with
   | true=>simp only [hc] at h |-;exact ZfK (C:=C.calm) ug hQd h
   | false=>simp only [hc] at h |-;exact ZfL (C:=C.calm) ug hQd _ _ _ _ _ h
  | some x=>simp only [hh] at h |-;exact ZfK (C:=C.calm) ug (ZrS (C:=C.calm) ug hQd) h
 | seq a b iha ihb =>
  intro Q Q' f σ hQ h
  simp only [W] at h |-;rw [show C.up.cut=C.cut from rfl]
  cases hc:C.cut (YC b) with
  | none =>
   rw [hc] at h;exact iha (fun e f σ h=>by cases e with | normal=>exact ihb hQ h | _=>exact hQ _ _ _ h) h
  | some x =>
  rw [hc] at h;exact ⟨iha (fun e f σ h=>by cases e with | normal=>exact h | _=>exact hQ _ _ _ h) h.1,fun vs σ1 hI=>ihb hQ (h.2 vs σ1 hI)⟩
 | cond c x y ihx ihy =>
  intro Q Q' f σ hQ h
  simp only [W] at h |-;split at h
  ·exact ZiQ (fun h=>ihx hQ h) (fun h=>ihy hQ h) h
  exact h
 | block id b ih =>
  intro Q Q' f σ hQ h
  simp only [W] at h |-;refine ih (fun e f σ h=>?_) h
  cases e with
  | exit i =>
   simp only at h |-;split at h <;> exact hQ _ _ _ h
  | _=>exact hQ _ _ _ h
 | scope b ih =>
  intro Q Q' f σ hQ h
  simp only [W] at h |-;refine ih (fun e f σ h=>?_) h
  cases e with
  | goto l=>exact h
  | _=>exact hQ _ _ _ h
 | loop b ih =>
  intro Q Q' f σ hQ h
  simp only [W] at h |-;rw [show C.up.unr=C.unr from rfl,show C.up.loop=C.loop from rfl,show C.up.tie=C.tie from rfl,show C.up.ag=C.ag from rfl]
  cases hu:C.unr (YC b) with
  | succ n =>
   rw [hu] at h;exact Zg9 (S:=fun Q f σ=>W C b Q f σ) (S':=fun Q f σ=>W C.up b Q f σ) (fun Q Q' f σ hQ h=>ih hQ h) (n+1) hQ h
  | zero =>
  rw [hu] at h;simp only at h |-;split at h
  ·split at h
   ·exact m115
   exact m115
  exact h
 | rangeFunc g ps asg body iha ihb =>
  intro Q Q' f σ hQ h
  simp only [W] at h |-;split at h
  ·exact (hi _ _ _ _ _ (h 0 default)).elim
  exact h
 | _ =>
 intro Q Q' f σ hQ h
 first
  | exact hQ _ _ _ h
  | exact h
end
theorem CallSem.up {G:GE} {cc:FuncId->List PV->St->(PEnd->St->Prop)->Prop} (h:CallSem G cc):CallSem G (fun g args σ K=>∃K',cc g args σ K'/\∀e σ,K' e σ->K e σ):=fun g args σ K ⟨K',h1,h2⟩ =>
 ⟨(h g args σ K' h1).1,fun ro n e w vs hS ha=>((h g args σ K' h1).2 ro n e w vs hS ha).mono fun en w' ⟨pe,σ',e',hk,r⟩=>⟨pe,σ',e',h2 _ _ hk,r⟩⟩
theorem ZfM {G:GE} {C:Cx} (hT:TabOK C.T G.P) (dj:CallSem G C.call) (hr:ZdZ C) (hi:∀g a r σ K,¬C.iter g a r σ K) (ax:G.P.follows .mixedOrders=true) {g:FuncId} {fn:Func} {c:Code} (hf:G.P.funcs[g]?=some fn) (hb:fn.body=some c) (az:Zz fn.ntmps c=true)
  {ag:Bool} {keep:Nat} {own:Bool} {args:List PV} {σ:St} {R:PEnd->St->Prop} (hk:σ.bx.length<=keep) (aa:args.length<=fn.ntmps) (h:WFG ag C fn keep own args σ R) {n:Nat} {e:Env} {w:World} {vs:Array Value} (hS:SRel G e σ w) (am:ArgsRel G e σ w args vs) :
  CallsIn (fw none) n G.P g vs w (Y2 G e σ w R) :=
 Zbt ax (C:=C.up) ⟨hT,dj.up,fun v a s K h=>(hr v a s K h).elim,fun g a r s K h=>(hi g a r s K h).elim,.inl rfl⟩
  ⟨fun _ h1 h2=>hT.one h1 h2,fun _ _ _ K K' hK ⟨K0,h1,h2⟩=>⟨K0,h1,fun e σ h=>hK _ _ (h2 _ _ h)⟩,fun _ _ _ _ h=>h.elim,rfl⟩ hf hb az hk aa (ag:=ag) (ZCv hr hi _ (fun _ _ _ h=>h) h) hS am
end Go.PM
end

section
namespace Go.PM
abbrev Tbl:=List (Nat×Zo)
def ZDk:Tbl->Nat->List PV->St->(PEnd->St->Prop)->Prop
 | [],_,_,_,_=>False
 | (g,sp)::l,n,args,σ,K=>match Nat.beq g n with
  | true=>ZiN sp args σ K
  | false=>ZDk l n args σ K
def TblOK (G:GE):Tbl->Prop
 | []=>True
 | (g,sp)::l=>PCalls G g sp/\TblOK G l
def TblM:Tbl->Prop
 | []=>True
 | (_,sp)::l=>ZK sp/\TblM l
theorem TblM.mono:∀{l:Tbl},TblM l->∀n args σ (K K':PEnd->St->Prop),(∀e σ,K e σ->K' e σ)->ZDk l n args σ K->ZDk l n args σ K'
 | [],_=>fun _ _ _ _ _ _ h=>h.elim
 | (g,sp)::l,⟨h1,h2⟩=>fun n args σ K K' hK h=>by
  simp only [ZDk] at h |-;split at h
  ·exact Zg8 h1 _ _ _ _ hK h
  exact TblM.mono h2 n args σ K K' hK h
def ZDr (md:Nat->Nat):Tbl->Nat->List PV->St->(PEnd->St->Prop)->Prop
 | [],_,_,_,_=>False
 | (g,sp)::l,n,args,σ,K=>match Nat.beq g n with
  | true=>Vz (md n) sp args σ K
  | false=>ZDr md l n args σ K
theorem TblOK.semM {G:GE} {md:Nat->Nat}:∀{l:Tbl},TblOK G l->CallSem G (ZDr md l)
 | [],_=>fun _ _ _ _ h=>h.elim
 | (g,sp)::l,⟨h1,h2⟩=>fun n args σ K h=>by
  simp only [ZDr] at h;split at h
  ·rename_i hb
   cases Ti hb
   exact XB h1 h
  exact TblOK.semM h2 n args σ K h
theorem TblOK.sem {G:GE}:∀{l:Tbl},TblOK G l->CallSem G (ZDk l)
 | [],_=>fun _ _ _ _ h=>h.elim
 | (g,sp)::l,⟨h1,h2⟩=>fun n args σ K h=>by
  simp only [ZDk] at h;split at h
  ·rename_i hb
   cases Ti hb
   exact XB h1 h
  exact TblOK.sem h2 n args σ K h
def ZnW:Value->List PV->St->(PEnd->St->Prop)->Prop:=fun _ _ _ _=>False
abbrev Raw:=Value->List PV->St->(PEnd->St->Prop)->Prop
abbrev Zru:=FuncId->List PV->Raw->St->(PEnd->St->Prop)->Prop
def ZeM:Zru:=fun _ _ _ _ _=>False
def ZtG:LoopAnn:=⟨[],[],fun _ _=>False,fun _ _=>0⟩
def Zb:List (Nat×LoopAnn)->Nat->LoopAnn
 | [],_=>ZtG
 | (k,a)::l,n=>match Nat.beq k n with | true=>a | false=>Zb l n
def ctx (T:Tab) (tbl:Tbl) (loops:Nat->LoopAnn):Cx:=⟨T,ZDk tbl,ZnW,ZeM,loops,fun _=>0,fun _=>false,fun _=>false,true,fun _=>none,fun _=>false⟩
def ZBR (T:Tab) (tbl:Tbl) (it:Zru) (loops:Nat->LoopAnn):Cx:=⟨T,ZDk tbl,ZnW,it,loops,fun _=>0,fun _=>false,fun _=>false,true,fun _=>none,fun _=>false⟩
def ZxY (T:Tab) (tbl:Tbl) (md:Nat->Nat) (loops:Nat->LoopAnn) (unr:Nat->Nat) (ties bsl:Nat->Bool) (cut:Nat->Option (List Nat×(List PV->St->Prop))) (ag:Nat->Bool):Cx:=⟨T,ZDr md tbl,ZnW,ZeM,loops,unr,ties,bsl,true,cut,ag⟩
def ZBS (nl:Nat->Bool) (k n:Nat):Nat:=match nl n with | true=>k | false=>0
abbrev ZAF (T:Tab) (tbl:Tbl) (loops:Nat->LoopAnn) (unr:Nat->Nat) (ties:Nat->Bool):Cx:=ZxY T tbl (fun _=>0) loops unr ties (fun _=>false) (fun _=>none) (fun _=>false)
def ZxH (T:Tab) (tbl:Tbl) (loops:Nat->LoopAnn) (unr:Nat->Nat) (ties:Nat->Bool):Cx:=⟨T,ZDk tbl,ZnW,ZeM,loops,unr,ties,fun _=>false,true,fun _=>none,fun _=>false⟩
def ZxZ:List (Nat×List Nat×(List PV->St->Prop))->Nat->Option (List Nat×(List PV->St->Prop))
 | [],_=>none
 | (k,a)::l,n=>match Nat.beq k n with | true=>some a | false=>ZxZ l n
def Xj:List Nat->Nat->Bool
 | [],_=>false
 | k::l,n=>match Nat.beq k n with | true=>true | false=>Xj l n
def VV:List (Nat×Nat)->Nat->Nat
 | [],_=>0
 | (k,a)::l,n=>match Nat.beq k n with | true=>a | false=>VV l n
def ZnX (T:Tab) (tbl:Tbl) (it:Zru) (gid:FuncId) (fn:Func) (loops:Nat->LoopAnn):Zru:=fun g args raw σ K=>match Nat.beq gid g with
 | true=>Nat.ble args.length fn.ntmps=true/\W ⟨T,ZDk tbl,raw,it,loops,fun _=>0,fun _=>false,fun _=>false,true,fun _=>none,fun _=>false⟩ (Ye fn) (fun e f σ'=>match e with
   | .normal | .ret=>pres T f σ'.bx fn.results.toList fun vs=>K (.ret (XT vs)) σ'
   | .panic v=>K (.panic v) σ'
   | _=>False) (Zcq 0 args) σ
 | false=>False
theorem ZaJ {G:GE}:V6 G ZeM:=fun _ _ _ _ _ h=>h.elim
theorem Zl2 {G : GE} {T : Tab} {tbl : Tbl} (hT : TabOK T G.P) (ax : G.P.follows .mixedOrders = true) (ht : TblOK G tbl) (hm : TblM tbl) {it : Zru} (lq : V6 G it) {gid : FuncId} {fn : Func} {c : Code} (hf : G.P.funcs[gid]? = some fn) (hb : fn.body = some c) (ak : (fn.name == "runtime.NumGoroutine") = false)
  (az:Zz fn.ntmps c=true) (loops:Nat->LoopAnn):V6 G (ZnX T tbl it gid fn loops):=fun g args raw σ K h=>by
 unfold ZnX at h
 split at h
 ·rename_i hbq
  cases Ti hbq
  refine ⟨Zk hf ak hb,fun n e w vs hS am rt=>?_⟩;have qi:Ye fn=c:=by simp [Ye,hb]
  rw [qi] at h;have presM:∀{T:Tab} {f:Frame} {bx:List Box} {l:List ResultVar} {K K':List PV->Prop},(∀vs,K vs->K' vs)->pres T f bx l K->pres T f bx l K':=by
   intro T f bx l
   induction l with
   | nil=>exact fun hK h=>hK _ h
   | cons r l ih =>
   intro K K' hK h
   exact m76
  refine ZcM ax (C:=⟨T,ZDk tbl,raw,it,loops,fun _=>0,fun _=>false,fun _=>false,true,fun _=>none,fun _=>false⟩) ⟨hT,ht.sem,rt,lq,.inl rfl⟩ ⟨fun _ h1 h2=>hT.one h1 h2,hm.mono,fun _ _ _ _ h=>h.elim,rfl⟩ hf hb az (Ta h.1) h.2 (fun pe f' σ' hq=>?_) hS am
  cases pe with
  | normal=>exact presM (fun vs hK e' w' v h1 h2 h3=>⟨.ret (XT vs),σ',e',hK,⟨v,rfl,h2⟩,h1,h3⟩) hq
  | ret=>exact presM (fun vs hK e' w' v h1 h2 h3=>⟨.ret (XT vs),σ',e',hK,⟨v,rfl,h2⟩,h1,h3⟩) hq
  | panic p=>exact fun e' w' v h1 h2 h3=>⟨.panic p,_,e',hq,⟨v,rfl,h2⟩,h1,h3⟩
  | exit id=>exact hq.elim
  | goto l=>exact hq.elim
 exact h.elim
theorem ZuM {G : GE} {T : Tab} {tbl : Tbl} (hT : TabOK T G.P) (ax : G.P.follows .mixedOrders = true) (ht : TblOK G tbl) (hm : TblM tbl) {it : Zru} (lq : V6 G it) {g : FuncId} {fn : Func} {c : Code} (hf : G.P.funcs[g]? = some fn) (hb : fn.body = some c) (ak : (fn.name == "runtime.NumGoroutine") = false)
  (az:Zz fn.ntmps c=true) {sp:Zo}
  (h:∀args σ K,sp args σ K->∃loops keep own,σ.bx.length<=keep/\args.length<=fn.ntmps/\WF (ZBR T tbl it loops) fn keep own args σ K):PCalls G g sp where
 enters:=Zk hf ak hb
 calls:=fun args σ K hs n e w vs hS ha=>by
  obtain ⟨loops,keep,own,h1,h2,h3⟩:=h args σ K hs;exact Zbt ax (C:=ZBR T tbl it loops) ⟨hT,ht.sem,fun _ _ _ _ h=>h.elim,lq,.inl rfl⟩ ⟨fun _ h1 h2=>hT.one h1 h2,hm.mono,fun _ _ _ _ h=>h.elim,rfl⟩ hf hb az h1 h2 h3 hS ha
theorem ZiR {G : GE} {T : Tab} {tbl : Tbl} (hT : TabOK T G.P) (ax : G.P.follows .mixedOrders = true) (ht : TblOK G tbl) {g : FuncId} {fn : Func} {c : Code} (hf : G.P.funcs[g]? = some fn) (hb : fn.body = some c) (ak : (fn.name == "runtime.NumGoroutine") = false)
  (az:Zz fn.ntmps c=true) {sp:Zo}
  (h:∀args σ K,sp args σ K->∃md loops unr ties bsl cut ag al keep own,σ.bx.length<=keep/\args.length<=fn.ntmps/\WFG al (ZxY T tbl md loops unr ties bsl cut ag) fn keep own args σ K):PCalls G g sp where
 enters:=Zk hf ak hb
 calls:=fun args σ K hs n e w vs hS ha=>by
  obtain ⟨md,loops,unr,ties,bsl,cut,ag,al,keep,own,h1,h2,h3⟩:=h args σ K hs;exact ZfM (C:=ZxY T tbl md loops unr ties bsl cut ag) hT ht.semM (fun _ _ _ _ h=>h) (fun _ _ _ _ _ h=>h) ax hf hb az h1 h2 h3 hS ha
theorem ZfN {G : GE} {T : Tab} {tbl : Tbl} (hT : TabOK T G.P) (ax : G.P.follows .mixedOrders = true) (ht : TblOK G tbl) {g : FuncId} {fn : Func} {c : Code} (hf : G.P.funcs[g]? = some fn) (hb : fn.body = some c) (ak : (fn.name == "runtime.NumGoroutine") = false)
  (az:Zz fn.ntmps c=true) {sp:Zo}
  (h:∀args σ K,sp args σ K->∃loops unr ties bsl nl keep own,σ.bx.length<=keep/\args.length<=fn.ntmps/\WF (ZxY T tbl (ZBS nl 1) loops unr ties bsl (fun _=>none) (fun _=>false)) fn keep own args σ K):PCalls G g sp :=
 ZiR hT ax ht hf hb ak az fun args σ K hs=>let ⟨_,_,_,_,_,_,_,h⟩:=h args σ K hs;⟨_,_,_,_,_,_,_,_,_,_,h⟩
theorem ZuN {G : GE} {T : Tab} {tbl : Tbl} (hT : TabOK T G.P) (ax : G.P.follows .mixedOrders = true) (ht : TblOK G tbl) {g : FuncId} {fn : Func} {c : Code} (hf : G.P.funcs[g]? = some fn) (hb : fn.body = some c) (ak : (fn.name == "runtime.NumGoroutine") = false)
  (az:Zz fn.ntmps c=true) {sp:Zo}
  (h:∀args σ K,sp args σ K->∃loops unr ties bsl nl cut keep own,σ.bx.length<=keep/\args.length<=fn.ntmps/\WF (ZxY T tbl (ZBS nl 1) loops unr ties bsl cut (fun _=>false)) fn keep own args σ K):PCalls G g sp :=
 ZiR hT ax ht hf hb ak az fun args σ K hs=>let ⟨_,_,_,_,_,_,_,_,h⟩:=h args σ K hs;⟨_,_,_,_,_,_,_,_,_,_,h⟩
theorem Jp {G : GE} {T : Tab} {tbl : Tbl} (hT : TabOK T G.P) (ax : G.P.follows .mixedOrders = true) (ht : TblOK G tbl) {g : FuncId} {fn : Func} {c : Code} (hf : G.P.funcs[g]? = some fn) (hb : fn.body = some c) (ak : (fn.name == "runtime.NumGoroutine") = false)
  (az:Zz fn.ntmps c=true) {sp:Zo}
  (h:∀args σ K,sp args σ K->∃loops unr ties keep own,σ.bx.length<=keep/\args.length<=fn.ntmps/\WF (ZAF T tbl loops unr ties) fn keep own args σ K):PCalls G g sp :=
 ZiR hT ax ht hf hb ak az fun args σ K hs=>let ⟨_,_,_,_,_,h⟩:=h args σ K hs;⟨_,_,_,_,_,_,_,_,_,_,h⟩
theorem Zd {G : GE} {T : Tab} {tbl : Tbl} (hT : TabOK T G.P) (ax : G.P.follows .mixedOrders = true) (ht : TblOK G tbl) {g : FuncId} {fn : Func} {c : Code} (hf : G.P.funcs[g]? = some fn) (hb : fn.body = some c) (ak : (fn.name == "runtime.NumGoroutine") = false)
  (az:Zz fn.ntmps c=true) {sp:Zo}
  (h:∀args σ K,sp args σ K->∃loops keep own,σ.bx.length<=keep/\args.length<=fn.ntmps/\WF (ctx T tbl loops) fn keep own args σ K):PCalls G g sp where
 enters:=Zk hf ak hb
 calls:=fun args σ K hs n e w vs hS ha=>by
  obtain ⟨loops,keep,own,h1,h2,h3⟩:=h args σ K hs;exact ZfM (C:=ctx T tbl loops) hT ht.sem (fun _ _ _ _ h=>h) (fun _ _ _ _ _ h=>h) ax hf hb az h1 h2 h3 hS ha
theorem ZDs {X Y:Prop} (h:X):CondP true X Y:=h
theorem ZDt {X Y:Prop} (h:Y):CondP false X Y:=h
theorem ZDc {p:Prop} [Decidable p] {X Y:Prop} (h1:p->X) (h2:¬p->Y):CondP (decide p) X Y:=by
 by_cases h:p
 ·simp only [h,decide_true];exact h1 h
 simp only [h,decide_false];exact h2 h
theorem ZDe {p:Prop} [Decidable p] {X Y:Prop} (h1:¬p->X) (h2:p->Y):CondP (!decide p) X Y:=by
 by_cases h:p
 ·simp only [h,decide_true];exact h2 h
 simp only [h,decide_false];exact h1 h
theorem InR.i64 {n:Int} (h1:-9223372036854775808<=n) (h2:n<=9223372036854775807):InR .i64 n:=by
 unfold InR IntKind.wrap
 exact m133
theorem InR.i32 {n:Int} (h1:-2147483648<=n) (h2:n<=2147483647):InR .i32 n:=by
 unfold InR IntKind.wrap
 simp only [show IntKind.i32.bits=32 from rfl,show IntKind.i32.signed=true from rfl,TP];split <;> simp at * <;> omega
theorem InR.u8 {n:Int} (h1:0<=n) (h2:n<=255):InR .u8 n:=by
 unfold InR IntKind.wrap
 simp only [show IntKind.u8.bits=8 from rfl,show IntKind.u8.signed=false from rfl,TT];simp;omega
theorem InR.u32 {n:Int} (h1:0<=n) (h2:n<=4294967295):InR .u32 n:=by
 unfold InR IntKind.wrap
 simp only [show IntKind.u32.bits=32 from rfl,show IntKind.u32.signed=false from rfl,TT];simp;omega
theorem InR.u64 {n:Int} (h1:0<=n) (h2:n<=18446744073709551615):InR .u64 n:=by
 unfold InR IntKind.wrap
 simp only [show IntKind.u64.bits=64 from rfl,show IntKind.u64.signed=false from rfl,TT];simp;omega
theorem ZC8 {n:Int} {K Q X:Prop} (q:Q) (h1:-9223372036854775808<=n:=by omega) (h2:n<=9223372036854775807:=by omega) (h:Q->K:=by intro k;(conv=>whnf);exact k):InR .i64 n/\K\/X:=.inl ⟨InR.i64 h1 h2,h q⟩
theorem ZC9 {n:Int} {K Q X:Prop} (q:Q) (h1:-9223372036854775808<=n:=by decide) (h2:n<=9223372036854775807:=by decide) (h:Q->K:=by intro k;(conv=>whnf);exact k):InR .i64 n/\K\/X:=.inl ⟨InR.i64 h1 h2,h q⟩
theorem ZDa {n:Int} {K Q X:Prop} (q:Q) (h1:0<=n:=by omega) (h2:n<=255:=by omega) (h:Q->K:=by intro k;(conv=>whnf);exact k):InR .u8 n/\K\/X:=.inl ⟨InR.u8 h1 h2,h q⟩
theorem ZDb {n:Int} {K Q X:Prop} (q:Q) (h1:0<=n:=by omega) (h2:n<=18446744073709551615:=by omega) (h:Q->K:=by intro k;(conv=>whnf);exact k):InR .u64 n/\K\/X:=.inl ⟨InR.u64 h1 h2,h q⟩
theorem oiO {n:Int} {K X:Prop} (q:K) (h1:-9223372036854775808<=n:=by omega) (h2:n<=9223372036854775807:=by omega):InR .i64 n/\K\/X:=.inl ⟨InR.i64 h1 h2,q⟩
theorem oiD {n:Int} {K X:Prop} (q:K) (h1:-9223372036854775808<=n:=by decide) (h2:n<=9223372036854775807:=by decide):InR .i64 n/\K\/X:=.inl ⟨InR.i64 h1 h2,q⟩
theorem oiB {n:Int} {K X:Prop} (q:K) (h1:0<=n:=by omega) (h2:n<=255:=by omega):InR .u8 n/\K\/X:=.inl ⟨InR.u8 h1 h2,q⟩
theorem oiU {n:Int} {K X:Prop} (q:K) (h1:0<=n:=by omega) (h2:n<=18446744073709551615:=by omega):InR .u64 n/\K\/X:=.inl ⟨InR.u64 h1 h2,q⟩
theorem Zrv {K:PEnd->St->Prop} {p p':PEnd} {σ σ':St} (h:K p σ) (h1:p=p') (h2:σ=σ'):K p' σ':=by subst h1;subst h2;exact h
end Go.PM
end

section
namespace Go.PM
structure CxG (G:GE) (T:Tab) (C:Cx):Prop where
 T:C.T=T
 ok:∀e σ w,CxOK G C none e σ w
 mono:CxMono C.calm
 it:∀g args raw σ K,¬C.iter g args raw σ K
theorem CxG.of {G:GE} {T:Tab} {tbl:Tbl} (hT:TabOK T G.P) (ht:TblOK G tbl) (hm:TblM tbl) (loops:Nat->LoopAnn) (unr:Nat->Nat) (ties:Nat->Bool):CxG G T (ZxH T tbl loops unr ties) :=
 ⟨rfl,fun _ _ _=>⟨hT,ht.sem,fun _ _ _ _ h=>h.elim,ZaJ,.inl rfl⟩,⟨fun _ h1 h2=>hT.one h1 h2,hm.mono,fun _ _ _ _ h=>h.elim,rfl⟩,fun _ _ _ _ _ h=>h⟩
structure PDef (G:GE) (g:FuncId) (spR:List PV->St->(St->Prop)->Prop) (spP:PV->List PV->St->(St->Prop)->Prop):Prop where
 enters:W8 G.P g
 ret:∀args σ K,spR args σ K->∀(n:Nat) (e:Env) (w:World) (vs:Array Value),SRel G e σ w->ArgsRel G e σ w args vs ->
  CallsDIn (fw none) n G.P g vs .returning w fun en u' w'=>u'=.returning/\(∃r,en=.returned r)/\∃σ' e',K σ'/\SRel G e' σ' w'/\Later e σ w e' σ' w'
 pan:∀pv args σ K,spP pv args σ K->∀(n:Nat) (e:Env) (w:World) (vs:Array Value) (v:Value),SRel G e σ w->ArgsRel G e σ w args vs->VRel G e σ w pv v ->
  CallsDIn (fw none) n G.P g vs (.panicking [{ v:=v,recovered:=false }]) w fun en u' w'=>u'=.panicking [{ v:=v,recovered:=true }]/\(∃r,en=.returned r)/\∃σ' e',K σ'/\SRel G e' σ' w'/\Later e σ w e' σ' w'
def Zyi (c:Code):Option (Nat×Nat×Code):=match c with
 | .seq (.region _ ops false) rest=>match ops.toList with
  | [o1,o2]=>match o1.op,o1.dst,o1.guard,o2.op,o2.dst,o2.guard with
   | .call { callee:=.builtin .recover,args,.. },some a,none,.assign (.tmp a'),some b,none=>match args.toList,Nat.beq a a' with
    | [],true=>some (a,b,rest)
    | _,_=>none
   | _,_,_,_,_,_=>none
  | _=>none
 | _=>none
theorem Zou {c:Code} {a b:Nat} {rest:Code} (h:Zyi c=some (a,b,rest)):∃id ops o1 o2 at',c=.seq (.region id ops false) rest/\ops=#[o1,o2]/\o1.op=.call { callee:=.builtin .recover,args:=#[],argTypes:=at' }/\o1.dst=some a/\o1.guard=none/\o2.op=.assign (.tmp a)/\o2.dst=some b/\o2.guard=none:=by
 unfold Zyi at h
 split at h
 ·rename_i id ops rest'
  split at h
  ·rename_i o1 o2 jb
   split at h
   ·rename_i args at' a1 a2 b1 h1 h2 h3 h4 h5 h6
    split at h
    ·rename_i h7 h8
     cases h
     have:=Ti h8;subst this;have ha:args=#[]:=by apply Array.ext';simpa using h7
     subst ha;exact ⟨id,ops,o1,o2,at',rfl,by apply Array.ext';simpa using jb,h1,h2,h3,h4,h5,h6⟩
    cases h
   cases h
  cases h
 cases h
section
variable {G:GE}
def ZxM (T:Tab) (fn:Func) (keep:Nat) (K:St->Prop):PQ:=fun e f σ=>match e with
 | .normal | .ret=>pres T f σ.bx fn.results.toList fun vs=>Zcp keep false (XT vs) σ fun _ σ'=>K σ'
 | _=>False
theorem Zov {T : Tab} (hT : TabOK T G.P) (ax : G.P.follows .mixedOrders = true) {g : FuncId} {fn : Func} {c : Code} (hf : G.P.funcs[g]? = some fn) (hb : fn.body = some c) (ak : (fn.name == "runtime.NumGoroutine") = false)
  {a b:Nat} {rest:Code} (o9:Zyi c=some (a,b,rest)) (az:Zz fn.ntmps c=true) {spR:List PV->St->(St->Prop)->Prop} {spP:PV->List PV->St->(St->Prop)->Prop}
  (hr:∀args σ K,spR args σ K->∃C keep,CxG G T C/\σ.bx.length<=keep/\args.length<=fn.ntmps/\W C rest (ZxM T fn keep K) (V0 (V0 (Zcq 0 args) a (.d .nili)) b (.d .nili)) σ)
  (hp:∀pv args σ K,spP pv args σ K->∃C keep,CxG G T C/\σ.bx.length<=keep/\args.length<=fn.ntmps/\W C rest (ZxM T fn keep K) (V0 (V0 (Zcq 0 args) a pv) b pv) σ):PDef G g spR spP:=by
 obtain ⟨id,ops,o1,o2,at',rfl,rfl,q1,q2,q3,q4,q5,q6⟩:=Zou o9;simp only [Zz,Tl,ZnQ,q2,q5] at az;have ha:a<fn.ntmps:=by have:=Ta az.1.1.1;omega
 have hbN:b<fn.ntmps:=by have:=Ta az.1.1.2.1;omega
 have walk:∀(pv:PV) (v:Value) (u u':FrameMode) (args:List PV) (σ:St) (K:St->Prop) (C:Cx) (keep:Nat),CxG G T C->σ.bx.length<=keep->args.length<=fn.ntmps->W C rest (ZxM T fn keep K) (V0 (V0 (Zcq 0 args) a pv) b pv) σ ->
   (∀(c₀:Go.Frame) (cs:List Go.Frame),c₀.mode=u->match recoverD (c₀::cs) with | some (x,cs')=>x=v/\cs'={ c₀ with mode:=u' }::cs | none=>v=.nilIface/\u'=u) ->
   ∀(n:Nat) (e:Env) (w:World) (vs:Array Value),SRel G e σ w->ArgsRel G e σ w args vs->VRel G e σ w pv v ->
   CallsDIn (fw none) n G.P g vs u w fun en u2 w'=>u2=u'/\(∃r,en=.returned r)/\∃σ' e',K σ'/\SRel G e' σ' w'/\Later e σ w e' σ' w':=by
  intro pv v u u' args σ K C keep hC hk aa hW ug n e w vs hS am hv
  refine callsDIn_of_wpSIn hf hb trivial fun c₀ cs hu=>?_
  have hsz:vs.size=args.length:=am.1;have hF:FRel G e σ w (Zcq 0 args) (vs++Array.replicate (fn.ntmps - vs.size) undef):=JW args 0 fun k x hx=>by
   exact m33
  refine wpSIn_seq (wpSIn_region ?_)
  let A0:Act:={ tmps:=vs++Array.replicate (fn.ntmps - vs.size) undef,defers:=[] }
  have uh:A0.tmps.size=fn.ntmps:=by simp [A0];omega
  have s0:(#[o1,o2]:Array Oper)[0]?=some o1:=rfl;have s1:(#[o1,o2]:Array Oper)[1]?=some o2:=rfl;have w1:∀t,Region.wanted o1 (yielded #[o1,o2] t)=true:=fun t=>by simp [Region.wanted,q3]
  have w2:∀t,Region.wanted o2 (yielded #[o1,o2] t)=true:=fun t=>by simp [Region.wanted,q6]
  have x1:∀A:Act,(execOp A.eval o1).run G.P w=.ok .recover w:=fun A=>by
   unfold execOp
   simp only [q1,resolve,Sem.run_bind,Sem.run_pure,Result.andThen,invoke,builtin]
  have x2:∀A:Act,(execOp A.eval o2).run G.P w=.ok (.value (A.eval (.tmp a))) w:=fun A=>by
   unfold execOp
   simp only [q4,Sem.run_pure]
  have y2:(A0.put (some a) v).eval (.tmp a)=v:=by
   simp [Act.put,Act.eval,TV,uh,ha]
  have tail:rest.wpSIn (fw none) n G.P (bodyPostS G.P fn c₀ cs fun en u2 w'=>u2=u'/\(∃r,en=.returned r)/\∃σ' e',K σ'/\SRel G e' σ' w'/\Later e σ w e' σ' w') ((A0.put (some a) v).put (some b) v) ({ c₀ with mode:=u' }::cs) w:=by
   have vq:FRel G e σ w (V0 (Zcq 0 args) a pv) (A0.put (some a) v).tmps:=FRel.put (a:=A0) (d:=some a) hF hv (fun i hi=>by cases hi;rw [uh];exact ha);have rn:FRel G e σ w (V0 (V0 (Zcq 0 args) a pv) b pv) ((A0.put (some a) v).put (some b) v).tmps:=FRel.put (a:=A0.put (some a) v) (d:=some b) vq hv (fun i hi=>by cases hi;rw [YB,uh];exact hbN);refine wpSIn_of_wpIn rfl (wpIn_mono (ZcL (n:=n) (ro:=none) (ds:=(w.heap.size,[],true)) ax rest (C:=C) (hC.ok _ _ _) hC.mono (fun _ _ _ _ _ _=>hC.it _ _ _ _ _) az.2 [] #[] (Y8 _) _
    (a:=(A0.put (some a) v).put (some b) v) hS rn (Later.refl e σ w) (by rw [YB,YB,uh]) (by rw [Xt,Xt];exact Marks.nil e σ (Tq _)) (fun i hi=>by cases hi) hW) fun x a' w' hp=>?_)
   obtain ⟨pe,f',e',σ',hq,hx,h1,h2,h3,h4,⟨_,rs,h5,np,_⟩,h6⟩:=hp;have jm:a'.defers=[]:=by rw [h5,np rfl];rfl
   have done:(pres T f' σ'.bx fn.results.toList fun vs=>Zcp keep false (XT vs) σ' fun _ σ''=>K σ'')->∃r,(results fn a'.tmps).run G.P w'=.ok r w'/\u'=u'/\(∃r',Ending.returned r=.returned r')/\∃σ' e',K σ'/\SRel G e' σ' w'/\Later e σ w e' σ' w':=fun hl=>by
    exact m82
   cases pe with
   | normal=>obtain rfl:x=.normal:=hx;obtain ⟨r,hr,hR⟩:=done hq;exact ⟨jm,u',rfl,r,hr,hR⟩
   | ret=>obtain rfl:x=.ret:=hx;obtain ⟨r,hr,hR⟩:=done hq;exact ⟨jm,u',rfl,r,hr,hR⟩
   | exit id=>exact hq.elim
   | goto l=>exact hq.elim
   | panic p=>exact hq.elim
  show wpOpsSIn (fw none) n G.P #[o1,o2] _ [0,1] A0 (c₀::cs) w;simp only [wpOpsSIn,s0,s1,w1,w2,if_true,x1,x2,q2,q5];refine ⟨fun _ _=>trivial,?_⟩;have hh:=ug c₀ cs hu
  cases hrd:recoverD (c₀::cs) with
  | none =>
   rw [hrd] at hh;obtain ⟨rfl,rfl⟩:=hh;have ii:({ c₀ with mode:=u' }:Go.Frame)=c₀:=by subst hu;rfl
   rw [ii] at tail;simp only [y2];exact ⟨fun _ _=>trivial,tail⟩
  | some p =>
  obtain ⟨x,cs'⟩:=p;rw [hrd] at hh;obtain ⟨rfl,rfl⟩:=hh;simp only [y2];exact ⟨fun _ _=>trivial,tail⟩
 refine ⟨Zk hf ak hb,fun args σ K hs n e w vs hS am=>?_,fun pv args σ K hs n e w vs v hS am hv=>?_⟩
 ·obtain ⟨C,keep,h0,h1,h2,h3⟩:=hr args σ K hs;exact walk (.d .nili) .nilIface .returning .returning args σ K C keep h0 h1 h2 h3 (fun c₀ cs hu=>by simp [recoverD,hu]) n e w vs hS am (.d _ _ .nili)
 obtain ⟨C,keep,h0,h1,h2,h3⟩:=hp pv args σ K hs;exact walk pv v _ _ args σ K C keep h0 h1 h2 h3 (fun c₀ cs hu=>by simp [recoverD,hu]) n e w vs hS am hv
end
def J4:List Oper->Option (List Oper×Oper)
 | []=>none
 | [o]=>some ([],o)
 | o::p::l=>match J4 (p::l) with | some (a,b)=>some (o::a,b) | none=>none
theorem U7:∀{l:List Oper} {i:List Oper} {o:Oper},J4 l=some (i,o)->l=i++[o]
 | [],i,o,h=>by cases h
 | [x],i,o,h=>by cases h;rfl
 | x::p::l,i,o,h=>by
  simp only [J4] at h;split at h
  ·rename_i a b hs
   cases h
   rw [U7 hs];rfl
  cases h
def Zc2 (o:Oper):Option (Operand×List Operand):=match o.op,o.guard,o.dst with
 | .defer { callee:=.value x,args,.. },none,none=>some (x,args.toList)
 | _,_,_=>none
theorem Zd1 {o:Oper} {x:Operand} {args:List Operand} (h:Zc2 o=some (x,args)):∃as at',o.op=.defer { callee:=.value x,args:=as,argTypes:=at' }/\as.toList=args/\o.guard=none/\o.dst=none:=by
 unfold Zc2 at h
 split at h
 ·rename_i x' as at' h1 h2 h3;cases h;exact ⟨as,at',h1,rfl,h2,h3⟩
 cases h
def ZfZ (c:Code):Option (List Oper×List Oper×Operand×List Operand):=match c with
 | .region _ ops false=>match J4 ops.toList with
  | some (init,last)=>match Zc2 last with
   | some (x,args)=>some (ops.toList,init,x,args)
   | none=>none
  | none=>none
 | _=>none
section
variable {G:GE} {C:Cx} {e0:Env} {σ0:St} {w0:World} {n N:Nat} {ds:Nat×List Deferred×Bool} {Z:Array Value->Prop} {Q:PQ}
theorem Zc3 (hC:CxOK G C none e0 σ0 w0) {ops:Array Oper} {rest:List Nat} {QQ:Exit->Act->World->Prop} (hd:∀o,o∈ops->∀d,o.dst=some d->d<N/\∀t v,Z t->Z (t.setIfInBounds d v))
  (vi:∀x a w,x≠.normal->ZD G e0 σ0 w0 ds N Z Q x a w->QQ x a w) (eb:∀a w,ZD G e0 σ0 w0 ds N Z Q .normal a w->wpOpsIn (fw none) n G.P ops QQ rest a w) :
  ∀(l:List Oper) (k:Nat),(∀j,j<l.length->l[j]?=ops[k+j]?)->∀{e:Env} {σ:St} {w:World} {a:Act} {f:Frame},
  SRel G e σ w->FRel G e σ w f a.tmps->Later e0 σ0 w0 e σ w->a.tmps.size=N->Marks ds e σ w a.defers->Z a.tmps->ZdV C ops.toList Q l f σ->wpOpsIn (fw none) n G.P ops QQ (List.range' k l.length++rest) a w
 | [],k,_,e,σ,w,a,f,hS,hF,hL,hN,bl,hZ,h=>eb a w ⟨.normal,f,e,σ,h,rfl,hS,hF,hL,hN,bl,hZ⟩
 | o::l,k,hl,e,σ,w,a,f,hS,hF,hL,hN,bl,hZ,h=>by
  have h0:ops[k]?=some o:=by simpa using (hl 0 sM).symm
  have bo:=Zbn (ro:=none) (n:=n) hC hS hF hL hN bl hZ (ops:=ops) (hd o (Sa h0)) h;have next:∀a' w',KRel G e0 σ0 w0 ds N Z (ZdV C ops.toList Q l) a' w'->wpOpsIn (fw none) n G.P ops QQ (List.range' (k+1) l.length++rest) a' w':=fun a' w' ⟨f',e',σ',h1,h2,h3,h4,h5,h6,h7⟩ =>
   Zc3 hC hd vi eb l (k+1) (fun j hj=>by have:=hl (j+1) sO;simpa [Sh,Nat.add_comm 1 j] using this) h2 h3 h4 h5 h6 h7 h1
  rw [Tc,List.range'_succ,Sl];simp only [wpOpsIn,h0];split at bo
  ·rename_i hw
   rw [Tj hw];exact ZDp vi (Oper.wpIn_mono next bo)
  rename_i hw
  rw [Tg hw];exact ⟨fun _ _=>trivial,next _ _ bo⟩
def YN (g0:FuncId) (va vc:Array Value):Deferred:={ target:=.fn (.func g0) vc,args:=va }
def Zvl (G:GE) (g0:FuncId) (e0:Env) (σ0:St) (w0:World) (N:Nat) (Q0:PQ) (Q1:List PV->PQ):Exit->Act->World->Prop:=fun x a w =>
 ZD G e0 σ0 w0 (0,[],true) N (Kept [] #[]) Q0 x a w \/
 ∃fa va vc e1 σ1 w1,Later e0 σ0 w0 e1 σ1 w1/\ArgsRel G e1 σ1 w1 fa (va++vc)/\ZD G e1 σ1 w1 (0,[YN g0 va vc],true) N (Kept [] #[]) (Q1 (YR fa)) x a w
end
def Zyj (T:Tab) (fn:Func) (keep:Nat) (own:Bool) (spR:List PV->St->(St->Prop)->Prop) (spP:PV->List PV->St->(St->Prop)->Prop) (R:PEnd->St->Prop) (fa:List PV):PQ:=fun e f σ=>match e with
 | .normal | .ret=>spR fa σ fun σ2=>pres T (VR f) σ2.bx fn.results.toList fun vs=>Zcp keep own (XT vs) σ2 fun v σ'=>R (.ret v) σ'
 | .panic pv=>spP pv fa σ fun σ2=>pres T (VR f) σ2.bx fn.results.toList fun vs=>Zcp keep own (XT vs) σ2 fun v σ'=>R (.ret v) σ'
 | _=>False
theorem ArgsRel.clean {G:GE} {e e':Env} {σ σ':St} {w w':World} {fa:List PV} {vs:Array Value} (h:ArgsRel G e σ w fa vs) (hL:Later e σ w e' σ' w'):ArgsRel G e' σ' w' (YR fa) vs:=by
 refine ⟨by rw [YL];exact h.1,fun i y u hy hu=>?_⟩;obtain ⟨x,hx,rfl⟩:=Wb i y hy;have hv:=h.2 i x u hx hu;exact VRel.clean hL.len hL.beta hL.pres hv hv.bnd
theorem CallsDIn.mono {F:Fence} {n:Nat} {P:Program} {f:FuncId} {args:Array Value} {u:FrameMode} {w:World} {R R':Ending->FrameMode->World->Prop} (h:CallsDIn F n P f args u w R) (hR:∀e u w,R e u w->R' e u w):CallsDIn F n P f args u w R' :=
 ⟨h.1,fun c cs hu hr=>let ⟨e,u',w',fr,h1,h2⟩:=h.2 c cs hu hr;⟨e,u',w',fr,hR _ _ _ h1,h2⟩⟩
end Go.PM
end

section
namespace Go.PM
def Zvm (T:Tab) (fn:Func) (keep:Nat) (K:St->Prop):PQ:=fun e f σ=>match e with
 | .normal | .ret=>pres T f σ.bx fn.results.toList fun vs=>Zcp keep true (XT vs) σ fun _ σ'=>K σ'
 | _=>False
section
variable {G:GE}
theorem ZeV {T : Tab} (hT : TabOK T G.P) (ax : G.P.follows .mixedOrders = true) {g : FuncId} {fn : Func} {c : Code} (hf : G.P.funcs[g]? = some fn) (hb : fn.body = some c) (ak : (fn.name == "runtime.NumGoroutine") = false)
  (az:Zz fn.ntmps c=true) {spR:List PV->St->(St->Prop)->Prop}
  (hr:∀args σ K,spR args σ K->∃C keep,CxG G T C/\σ.bx.length<=keep/\args.length<=fn.ntmps/\W C c (Zvm T fn keep K) (Zcq 0 args) σ):PDef G g spR (fun _ _ _ _=>False):=by
 refine ⟨Zk hf ak hb,fun args σ K hs n e w vs hS am=>?_,fun pv args σ K hs=>hs.elim⟩;obtain ⟨C,keep,hC,hk,aa,hW⟩:=hr args σ K hs;refine callsDIn_of_wpSIn hf hb trivial fun c₀ cs hu=>?_
 have hsz:vs.size=args.length:=am.1;have hF:FRel G e σ w (Zcq 0 args) (vs++Array.replicate (fn.ntmps - vs.size) undef):=JW args 0 fun k x hx=>by
  exact m33
 refine wpSIn_of_wpIn rfl (wpIn_mono (ZcL (n:=n) (ro:=none) (ds:=(0,[],true)) ax c (C:=C) (hC.ok _ _ _) hC.mono (fun _ _ _ _ _ _=>hC.it _ _ _ _ _) az [] #[] (Y8 _) _
  (a:={ tmps:=vs++Array.replicate (fn.ntmps - vs.size) undef,defers:=[] }) hS hF (Later.refl e σ w) sO (Marks.nil e σ (T6 _)) (fun i hi=>by cases hi) hW) fun x a' w' hp=>?_)
 obtain ⟨pe,f',e',σ',hq,hx,h1,h2,h3,h4,⟨_,rs,h5,np,_⟩,h6⟩:=hp;have jm:a'.defers=[]:=by rw [h5,np rfl];rfl
 have done:(pres T f' σ'.bx fn.results.toList fun vs=>Zcp keep true (XT vs) σ' fun _ σ''=>K σ'')->∃r,(results fn a'.tmps).run G.P w'=.ok r w'/\FrameMode.returning=.returning/\(∃r',Ending.returned r=.returned r')/\∃σ' e',K σ'/\SRel G e' σ' w'/\Later e σ w e' σ' w':=fun hl=>by
  exact m82
 cases pe with
 | normal=>obtain rfl:x=.normal:=hx;obtain ⟨r,hr,hR⟩:=done hq;exact ⟨jm,.returning,by rw [<- hu],r,hr,hR⟩
 | ret=>obtain rfl:x=.ret:=hx;obtain ⟨r,hr,hR⟩:=done hq;exact ⟨jm,.returning,by rw [<- hu],r,hr,hR⟩
 | exit id=>exact hq.elim
 | goto l=>exact hq.elim
 | panic p=>exact hq.elim
end
def ZtU:Code->Bool
 | .seq a b=>ZtU a || ZtU b
 | .cond _ a b=>ZtU a || ZtU b
 | .region id ops d=>(ZfZ (.region id ops d)).isSome
 | _=>false
def WL (C:Cx) (Q:PQ):List Code->Frame->St->Prop
 | [],f,σ=>Q .normal f σ
 | c::l,f,σ=>W C c (fun e f σ=>match e with | .normal=>WL C Q l f σ | e=>Q e f σ) f σ
def WDl (C:Cx) (g0:FuncId) (Q0:PQ) (Q1:List PV->PQ):Nat->List Code->Frame->St->Prop
 | 0,_,_,_=>False
 | _+1,[],f,σ=>Q0 .normal f σ
 | n+1,c::l,f,σ=>match ZtU c with
  | false=>W C c (fun e f σ=>match e with | .normal=>WDl C g0 Q0 Q1 n l f σ | e=>Q0 e f σ) f σ
  | true=>match c with
   | .seq a b=>WDl C g0 Q0 Q1 n (a::b::l) f σ
   | .cond x a b=>match ev f x with | .d (.bool t)=>CondP t (WDl C g0 Q0 Q1 n (a::l) f σ) (WDl C g0 Q0 Q1 n (b::l) f σ) | _=>False
   | c=>match ZfZ c with
    | some (all,init,x,args)=>ZdV C all (fun e f σ=>match e with
      | .normal=>(match ev f x with
       | .func g first caps=>(match Nat.beq g g0 with
        | true=>WL C (Q1 (YR (first++args.map (ev f)++caps))) l f σ
        | false=>False)
       | _=>False)
      | e=>Q0 e f σ) init f σ
    | none=>False
section
variable {G:GE} {C:Cx} {e0:Env} {σ0:St} {w0:World} {n N:Nat}
def wpl (n:Nat) (P:Program) (Q:Exit->Act->World->Prop):List Code->Act->World->Prop
 | [],a,w=>Q .normal a w
 | c::l,a,w=>c.wpIn (fw none) n P (Exit.then (wpl n P Q l) Q) a w
theorem Zkr (ax:G.P.follows .mixedOrders=true) (hC:∀e σ w,CxOK G C none e σ w) (hM:CxMono C.calm) (hI:∀g args raw σ K,¬C.iter g args raw σ K) {ds:Nat×List Deferred×Bool} {Q:PQ} :
  ∀(l:List Code),(∀c∈l,Zz N c=true)->∀{e:Env} {σ:St} {w:World} {a:Act} {f:Frame},SRel G e σ w->FRel G e σ w f a.tmps->Later e0 σ0 w0 e σ w->a.tmps.size=N->Marks ds e σ w a.defers->WL C Q l f σ ->
   wpl n G.P (ZD G e0 σ0 w0 ds N (Kept [] #[]) Q) l a w
 | [],_,e,σ,w,a,f,hS,hF,hL,hN,bl,h=>⟨.normal,f,e,σ,h,rfl,hS,hF,hL,hN,bl,fun i hi=>by cases hi⟩
 | c::l,az,e,σ,w,a,f,hS,hF,hL,hN,bl,h=>by
  refine wpIn_mono (ZcL (n:=n) (ro:=none) ax c (hC _ _ _) hM (fun _=>hI) (az c sM) [] #[] (Y8 _) _ hS hF hL hN bl (fun i hi=>by cases hi) h) fun x a' w' hp=>?_
  obtain ⟨pe,f',e',σ',hq,hx,h1,h2,h3,h4,h5,h6⟩:=hp
  cases pe with
  | normal=>obtain rfl:x=.normal:=hx;exact Zkr ax hC hM hI l (fun c hc=>az c (Tu _ hc)) h1 h2 h3 h4 h5 hq
  | exit id=>obtain rfl:x=.exit id:=hx;exact ⟨.exit id,f',e',σ',hq,rfl,h1,h2,h3,h4,h5,h6⟩
  | goto l=>obtain rfl:x=.goto l:=hx;exact ⟨.goto l,f',e',σ',hq,rfl,h1,h2,h3,h4,h5,h6⟩
  | ret=>obtain rfl:x=.ret:=hx;exact ⟨.ret,f',e',σ',hq,rfl,h1,h2,h3,h4,h5,h6⟩
  | panic p=>obtain ⟨v,rfl,hv⟩:=hx;exact ⟨.panic p,f',e',σ',hq,⟨v,rfl,hv⟩,h1,h2,h3,h4,h5,h6⟩
theorem Zks {P:Program} {Q Q':Exit->Act->World->Prop} (hQ:∀x a w,Q x a w->Q' x a w):∀{l:List Code} {a:Act} {w:World},wpl n P Q l a w->wpl n P Q' l a w
 | [],a,w,h=>hQ _ _ _ h
 | c::l,a,w,h=>wpIn_mono h fun x a' w' hp=>by
  cases x with
  | normal=>exact Zks hQ hp
  | _=>exact hQ _ _ _ hp
theorem Zow {g0:FuncId} {Q0:PQ} {Q1:List PV->PQ} (ax:G.P.follows .mixedOrders=true) (hC:∀e σ w,CxOK G C none e σ w) (hM:CxMono C.calm) (hI:∀g args raw σ K,¬C.iter g args raw σ K) :
  ∀(k:Nat) (l:List Code),(∀c∈l,Zz N c=true)->∀{e:Env} {σ:St} {w:World} {a:Act} {f:Frame},SRel G e σ w->FRel G e σ w f a.tmps->Later e0 σ0 w0 e σ w->a.tmps.size=N->a.defers=[]->WDl C g0 Q0 Q1 k l f σ ->
   wpl n G.P (Zvl G g0 e0 σ0 w0 N Q0 Q1) l a w:=by
 intro k
 induction k with
 | zero=>intro l az e σ w a f hS hF hL hN hd h;exact h.elim
 | succ k ih =>
 intro l az e σ w a f hS hF hL hN hd h
 have lf:Marks (0,[],true) e σ w a.defers:=by rw [hd];exact Marks.nil e σ (T6 _)
 cases l with
 | nil=>exact .inl ⟨.normal,f,e,σ,h,rfl,hS,hF,hL,hN,lf,fun i hi=>by cases hi⟩
 | cons c l =>
 have gj:=az c sM;have nq:∀c∈l,Zz N c=true:=fun c hc=>az c (Tu _ hc)
 simp only [WDl] at h;split at h
 ·show c.wpIn (fw none) n G.P _ a w;refine wpIn_mono (ZcL (n:=n) (ro:=none) (ds:=(0,[],true)) ax c (hC _ _ _) hM (fun _=>hI) gj [] #[] (Y8 _) _ hS hF hL hN lf (fun i hi=>by cases hi) h) fun x a1 w1 hp=>?_
  obtain ⟨pe,f',e',σ',hq,ga,h1,h2,h3,h4,h5,h6⟩:=hp
  cases pe with
  | normal =>
   obtain rfl:x=.normal:=ga;obtain ⟨_,rs,h5,np,_⟩:=h5;exact ih l nq h1 h2 h3 h4 (by rw [h5,np rfl];rfl) hq
  | exit id=>obtain rfl:x=.exit id:=ga;exact .inl ⟨.exit id,f',e',σ',hq,rfl,h1,h2,h3,h4,h5,h6⟩
  | goto l=>obtain rfl:x=.goto l:=ga;exact .inl ⟨.goto l,f',e',σ',hq,rfl,h1,h2,h3,h4,h5,h6⟩
  | ret=>obtain rfl:x=.ret:=ga;exact .inl ⟨.ret,f',e',σ',hq,rfl,h1,h2,h3,h4,h5,h6⟩
  | panic p=>obtain ⟨v,rfl,hv⟩:=ga;exact .inl ⟨.panic p,f',e',σ',hq,⟨v,rfl,hv⟩,h1,h2,h3,h4,h5,h6⟩
 split at h
 ·rename_i x y hD
  simp only [Zz,Tl] at gj;have:=ih (x::y::l) (fun c hc=>by
   rcases Tr.1 hc with rfl | hc
   ·exact gj.1
   rcases Tr.1 hc with rfl | hc
   ·exact gj.2
   exact nq c hc) hS hF hL hN hd h
  refine wpIn_seq (wpIn_mono (show x.wpIn (fw none) n G.P _ a w from this) fun z a' w' hp=>?_)
  cases z with
  | normal=>exact hp
  | _=>exact hp
 ·rename_i x y z hD
  simp only [Zz,Tl] at gj;have hv:=Zbl hF x;split at h
  ·rename_i t hc
   rw [hc] at hv
   cases t with
   | true=>exact wpIn_cond_true hv.dbool (ih (y::l) (fun c hc=>by
     rcases Tr.1 hc with rfl | hc
     ·exact gj.1
     exact nq c hc) hS hF hL hN hd h)
   | false=>exact wpIn_cond_false hv.dbool (ih (z::l) (fun c hc=>by
     rcases Tr.1 hc with rfl | hc
     ·exact gj.2
     exact nq c hc) hS hF hL hN hd h)
  exact h.elim
 split at h
 ·rename_i all init x args oe
  unfold ZfZ at oe
  split at oe
  ·rename_i id ops hD hD1 hD2
   split at oe
   ·rename_i init' last lb
    split at oe
    ·rename_i x' args' hdc
     cases oe
     have jb:=U7 lb;obtain ⟨as,at',gh,has,hg,aax⟩:=Zd1 hdc;have ct:ops.size=init.length+1:=by rw [<- T4,jb];simp
     have wa:ops[init.length]?=some last:=by rw [<- Tt,jb];simp
     simp only [Zz,Tl] at gj;have ca:∀o,o∈ops->∀d,o.dst=some d->d<N/\∀t v,Kept [] #[] t->Kept [] #[] (t.setIfInBounds d v):=fun o ho d nc=>⟨ZaG gj.1 o (TE.1 ho) d nc,fun t v _ i hi=>by cases hi⟩
     refine wpIn_region ?_;rw [show List.range ops.size=List.range' 0 init.length++[init.length] from by rw [ct,List.range_succ,List.range_eq_range']];refine Zc3 (N:=N) (Z:=Kept [] #[]) (ds:=(0,[],true)) (hC e0 σ0 w0) ca (fun x a w hx hp=>?_) (fun a1 w1 hp=>?_) init 0 (fun j hj=>?_) hS hF hL hN lf (fun i hi=>by cases hi) h
     ·cases x with
      | normal=>exact absurd rfl hx
      | _ =>
      obtain ⟨pe,f',e',σ',hq,ga,an⟩:=hp;refine .inl ⟨pe,f',e',σ',?_,ga,an⟩
      cases pe <;> first | exact hq | (cases ga;done) | (obtain ⟨_,ga,_⟩:=ga;cases ga)
     ·obtain ⟨pe,f',e',σ',hq,ga,h1,h2,h3,h4,⟨_,rs,h5,np,_⟩,h6⟩:=hp
      cases pe with
      | normal =>
       simp only at hq;have hv:=Zbl h2 x;split at hq
       ·rename_i g first caps bu
        split at hq
        ·rename_i hgb
         cases Ti hgb
         rw [bu] at hv;generalize hgv:a1.eval x=v at hv
         cases hv with
         | func _ _ _ va vc ha hc k1 k2 =>
         have jm:a1.defers=[]:=by rw [h5,np rfl];rfl
         have am:ArgsRel G e' σ' w1 (first++args.map (ev f')++caps) (va++as.map a1.eval++vc):=by
          have hm:=Zfw (G:=G) (e:=e') (σ:=σ') (w:=w1) (a:=a1) (f:=f') (args:=as) (fun x=>Zbl h2 x);rw [has] at hm;exact ArgsRel.append (ArgsRel.append ⟨ha,k1⟩ hm) ⟨hc,k2⟩
         have hw:Region.wanted last (yielded ops a1.tmps)=true:=by simp [Region.wanted,hg]
         simp only [wpOpsIn,wa,hw,if_true];have ah:(execOp a1.eval last).run G.P w1=.ok (.defer (YN g0 (va++as.map a1.eval) vc)) w1:=by
          unfold execOp
          simp only [gh,resolve,hgv,Deferred.ofValue,Sem.run_bind,Sem.run_pure,Result.andThen];rfl
         refine ⟨fun _ _=>trivial,?_⟩;rw [show (fw none).round=none from rfl,Oper.semAt_none,ah,Oper.uponIn_defer];rw [aax];show wpl n G.P (Zvl G g0 e0 σ0 w0 N Q0 Q1) l { a1 with defers:=YN g0 (va++as.map a1.eval) vc::a1.defers } w1;rw [jm];exact Zks (fun x a w hp=>.inr ⟨_,_,_,e',σ',w1,h3,am,hp⟩) (Zkr (n:=n) (e0:=e') (σ0:=σ') (w0:=w1) ax hC hM hI (ds:=(0,[YN g0 (va++as.map a1.eval) vc],true)) l nq
          (a:={ a1 with defers:=[YN g0 (va++as.map a1.eval) vc] }) h1 h2 (Later.refl _ _ _) h4 ⟨T6 _,[],rfl,fun _=>rfl,List.nodup_nil,fun r h=>by cases h⟩ hq)
        exact hq.elim
       exact hq.elim
      | exit id=>cases ga
      | goto l=>cases ga
      | ret=>cases ga
      | panic p=>obtain ⟨_,ga,_⟩:=ga;cases ga
     rw [<- Tt,jb,T5,TG hj]
    cases oe
   cases oe
  cases oe
 exact h.elim
end
theorem Zb9 {G : GE} {T : Tab} (hT : TabOK T G.P) (ax : G.P.follows .mixedOrders = true) {g : FuncId} {fn : Func} {c : Code} (hf : G.P.funcs[g]? = some fn) (hb : fn.body = some c) (ak : (fn.name == "runtime.NumGoroutine") = false)
  (az:Zz fn.ntmps c=true) {g0:FuncId} {spR:List PV->St->(St->Prop)->Prop} {spP:PV->List PV->St->(St->Prop)->Prop} (hd:PDef G g0 spR spP) {sp:Zo}
  (h:∀args σ K,sp args σ K->∃C keep own,CxG G T C/\σ.bx.length<=keep/\args.length<=fn.ntmps/\WDl C g0 (ZuF T fn keep own K) (Zyj T fn keep own spR spP K) 99 [Ye fn] (Zcq 0 args) σ):PCalls G g sp where
 enters:=Zk hf ak hb
 calls:=fun args σ K hs n e w vs hS am=>by
  obtain ⟨C,keep,own,hC,hk,aa,hW⟩:=h args σ K hs;have qi:Ye fn=c:=by simp [Ye,hb]
  rw [qi] at hW;have hsz:vs.size=args.length:=am.1;have hF:FRel G e σ w (Zcq 0 args) (vs++Array.replicate (fn.ntmps - vs.size) undef):=JW args 0 fun k x hx=>by
   exact m33
  have oa:=Zow (n:=n) (N:=fn.ntmps) (e0:=e) (σ0:=σ) (w0:=w) ax (C:=C) hC.ok hC.mono hC.it 99 [c] (fun c' hc'=>by cases List.mem_singleton.1 hc';exact az)
   (a:={ tmps:=vs++Array.replicate (fn.ntmps - vs.size) undef,defers:=[] }) hS hF (Later.refl e σ w) sO rfl hW
  have oa:c.wpIn (fw none) n G.P (Zvl G g0 e σ w fn.ntmps (ZuF T fn keep own K) (Zyj T fn keep own spR spP K)) { tmps:=vs++Array.replicate (fn.ntmps - vs.size) undef,defers:=[] } w:=wpIn_mono oa fun x a' w' hp=>by
   cases x with
   | normal=>exact hp
   | _=>exact hp
  refine callsIn_of_wp_defers hf hb trivial (wpIn_mono oa fun x a' w' hp=>?_);have ends:∀{f':Frame} {tm:Array Value} {e':Env} {σ':St} {w':World},SRel G e' σ' w'->FRel G e' σ' w' f' tm->Later e σ w e' σ' w' ->
    (pres T f' σ'.bx fn.results.toList fun vs=>Zcp keep own (XT vs) σ' fun v σ''=>K (.ret v) σ'')->∃v,(results fn tm).run G.P w'=.ok v w'/\Y2 G e σ w K (.returned v) w':=fun h1 h2 h3 hl=>by
   obtain ⟨pvs,r,hlv,hr,hvr⟩:=X5 (C:=C) (by rw [hC.T];exact hT) h1 h2 (by rw [hC.T];exact hl);obtain ⟨pv',σ2,e2,hK,oq,jl,lh⟩:=Wn h1 h3 hk hvr hlv;exact ⟨r,hr,.ret pv',σ2,e2,hK,⟨r,rfl,oq⟩,jl,lh⟩
  rcases hp with ⟨pe,f',e',σ',hq,hx,h1,h2,h3,h4,⟨_,rs,h5,np,_⟩,h6⟩ | ⟨fa,va,vc,e1,σ1,w1,qf,hfa,pe,f',e',σ',hq,hx,h1,h2,h3,h4,⟨_,rs,h5,np,_⟩,h6⟩
  ·have jm:a'.defers=[]:=by rw [h5,np rfl];rfl
   cases pe with
   | normal=>obtain rfl:x=.normal:=hx;show LeavesIn _ _ _ _ _ _ _ _ _;rw [jm];exact ends h1 h2 h3 hq
   | ret=>obtain rfl:x=.ret:=hx;show LeavesIn _ _ _ _ _ _ _ _ _;rw [jm];exact ends h1 h2 h3 hq
   | panic p =>
    obtain ⟨v,rfl,hv⟩:=hx;show LeavesIn _ _ _ _ _ _ _ _ _;rw [jm];obtain ⟨pv',σ2,e2,hK,oq,jl,lh⟩:=Wn h1 h3 hk hv hq;exact ⟨.panic pv',σ2,e2,hK,⟨v,rfl,oq⟩,jl,lh⟩
   | exit id=>exact hq.elim
   | goto l=>exact hq.elim
  have jm:a'.defers=[YN g0 va vc]:=by rw [h5,np rfl];rfl
  have lh:Later e σ w e' σ' w':=qf.trans h3;have aa1:(invoke (YN g0 va vc).target (YN g0 va vc).args).run G.P w'=.ok (.enter g0 (va++vc)) w':=by
   show (callFunc g0 (va++vc)).run G.P w'=_;exact hd.enters _ _
  have after:∀{e2:Env} {σ2:St} {w2:World},SRel G e2 σ2 w2->Later e' σ' w' e2 σ2 w2->(pres T (VR f') σ2.bx fn.results.toList fun vs=>Zcp keep own (XT vs) σ2 fun v σ''=>K (.ret v) σ'')->∃v,(results fn a'.tmps).run G.P w2=.ok v w2/\Y2 G e σ w K (.returned v) w2 :=
   fun mq ig hl=>ends mq (h2.clean ig) (lh.trans ig) hl
  have wb:ArgsRel G e' σ' w' (YR fa) (va++vc):=hfa.clean h3;have go:∀u,u≠.run->CallsDIn (fw none) (n - 1) G.P g0 (va++vc) u w' (fun
    | .returned _,u',w'=>LeavesIn (fw none) n G.P fn a'.tmps (Y2 G e σ w K) [] (settle u') w'
    | .panicked chain,u',w'=>LeavesIn (fw none) n G.P fn a'.tmps (Y2 G e σ w K) [] (raised u' chain) w'
    | .outgrown,_,w'=>Y2 G e σ w K .outgrown w')->LeavesIn (fw none) n G.P fn a'.tmps (Y2 G e σ w K) [YN g0 va vc] u w':=fun u hu hc =>
   ⟨hu,(fun h=>by cases h),.func g0,vc,g0,va++vc,rfl,aa1,fun _ _=>trivial,hc⟩
  cases pe with
  | normal =>
   obtain rfl:x=.normal:=hx;exact m93
  | ret =>
   obtain rfl:x=.ret:=hx;exact m93
  | panic p =>
   obtain ⟨v,rfl,hv⟩:=hx;show LeavesIn _ _ _ _ _ _ _ _ _;rw [jm];refine go _ sM ((hd.pan _ _ _ _ hq _ _ _ _ v h1 wb hv).mono fun en u2 w2 hh=>?_);obtain ⟨rfl,⟨r,rfl⟩,σ2,e2,hK,jl,ig⟩:=hh;exact after jl ig hK
  | exit id=>exact hq.elim
  | goto l=>exact hq.elim
end Go.PM
end

section
namespace Go.PM
structure T8 (α:Type) where
 (a0 a1 a2 a3 a4 a5 a6 a7:α)
section
variable {α:Type}
def T8.get (d:α) (t:T8 α):Nat->α
 | 0=>t.a0
 | 1=>t.a1
 | 2=>t.a2
 | 3=>t.a3
 | 4=>t.a4
 | 5=>t.a5
 | 6=>t.a6
 | 7=>t.a7
 | _=>d
def T8.set (t:T8 α) (x:α):Nat->T8 α
 | 0=>⟨x,t.a1,t.a2,t.a3,t.a4,t.a5,t.a6,t.a7⟩
 | 1=>⟨t.a0,x,t.a2,t.a3,t.a4,t.a5,t.a6,t.a7⟩
 | 2=>⟨t.a0,t.a1,x,t.a3,t.a4,t.a5,t.a6,t.a7⟩
 | 3=>⟨t.a0,t.a1,t.a2,x,t.a4,t.a5,t.a6,t.a7⟩
 | 4=>⟨t.a0,t.a1,t.a2,t.a3,x,t.a5,t.a6,t.a7⟩
 | 5=>⟨t.a0,t.a1,t.a2,t.a3,t.a4,x,t.a6,t.a7⟩
 | 6=>⟨t.a0,t.a1,t.a2,t.a3,t.a4,t.a5,x,t.a7⟩
 | 7=>⟨t.a0,t.a1,t.a2,t.a3,t.a4,t.a5,t.a6,x⟩
 | _=>t
def T8.map (g:α->α) (t:T8 α):T8 α:=⟨g t.a0,g t.a1,g t.a2,g t.a3,g t.a4,g t.a5,g t.a6,g t.a7⟩
def T8.mapI (g:Nat->α->α) (t:T8 α):T8 α:=⟨g 0 t.a0,g 1 t.a1,g 2 t.a2,g 3 t.a3,g 4 t.a4,g 5 t.a5,g 6 t.a6,g 7 t.a7⟩
theorem lt8 {P:Nat->Prop} {i:Nat} (h:i<8) (h0:P 0) (h1:P 1) (h2:P 2) (h3:P 3) (h4:P 4) (h5:P 5) (h6:P 6) (h7:P 7):P i:=by
 match i,h with
 | 0,_=>exact h0
 | 1,_=>exact h1
 | 2,_=>exact h2
 | 3,_=>exact h3
 | 4,_=>exact h4
 | 5,_=>exact h5
 | 6,_=>exact h6
 | 7,_=>exact h7
theorem ZDv (d:α) (t:T8 α) (x:α) {i j:Nat} (hi:i<8) (hj:j<8):(t.set x i).get d j=(match Nat.beq i j with | true=>x | false=>t.get d j):=by
 refine lt8 (P:=fun i=>(t.set x i).get d j=(match Nat.beq i j with | true=>x | false=>t.get d j)) hi ?_ ?_ ?_ ?_ ?_ ?_ ?_ ?_ <;> exact lt8 (P:=fun j=>T8.get d (T8.set t x _) j=(match Nat.beq _ j with | true=>x | false=>t.get d j)) hj rfl rfl rfl rfl rfl rfl rfl rfl
theorem T8.map_get {d:α} {g:α->α} (hg:g d=d) (t:T8 α) {j:Nat} (hj:j<8):(t.map g).get d j=g (t.get d j):=lt8 (P:=fun j=>(t.map g).get d j=g (t.get d j)) hj rfl rfl rfl rfl rfl rfl rfl rfl
theorem T8.mapI_get {d:α} {g:Nat->α->α} (t:T8 α) {j:Nat} (hj:j<8):(t.mapI g).get d j=g j (t.get d j):=lt8 (P:=fun j=>(t.mapI g).get d j=g j (t.get d j)) hj rfl rfl rfl rfl rfl rfl rfl rfl
end
abbrev T64:=T8 (T8 PV)
def no8:T8 PV:=⟨.undef,.undef,.undef,.undef,.undef,.undef,.undef,.undef⟩
def no64:T64:=⟨no8,no8,no8,no8,no8,no8,no8,no8⟩
theorem ZiS (j:Nat):no8.get .undef j=.undef:=by unfold T8.get;split <;> rfl
theorem ZfO (j:Nat):no64.get no8 j=no8:=by unfold T8.get;split <;> rfl
def XN (h:T64) (n:Nat):PV:=(h.get no8 (Nat.div n 8)).get .undef (Nat.mod n 8)
def ZrT (h:T64) (x:PV) (n:Nat):T64:=h.set ((h.get no8 (Nat.div n 8)).set x (Nat.mod n 8)) (Nat.div n 8)
theorem d8 {n:Nat} (h:n<64):Nat.div n 8<8:=Nat.div_lt_of_lt_mul h
theorem m8 (n:Nat):Nat.mod n 8<8:=Nat.mod_lt _ dM
theorem m64 (n:Nat):Nat.mod n 64<64:=Nat.mod_lt _ dM
theorem ZtH {k i j:Nat} (hk:0<k):Nat.beq i j=(match Nat.beq (Nat.div i k) (Nat.div j k) with | true=>Nat.beq (Nat.mod i k) (Nat.mod j k) | false=>false):=by
 have hi:k * Nat.div i k+Nat.mod i k=i:=Nat.div_add_mod i k;have hj:k * Nat.div j k+Nat.mod j k=j:=Nat.div_add_mod j k
 cases hb:Nat.beq (Nat.div i k) (Nat.div j k) with
 | false =>
  cases hc:Nat.beq i j with
  | false=>rfl
  | true=>rw [Ti hc,Nat.beq_refl] at hb;cases hb
 | true =>
 have h1:=Ti hb;simp only;rw [Bool.eq_iff_iff,Nat.beq_eq,Nat.beq_eq]
 constructor
 ·intro h;rw [h]
 intro h;rw [<- hi,<- hj,h1,h]
theorem ZcQ (h:T64) (x:PV) {i j:Nat} (hi:i<64) (hj:j<64):XN (ZrT h x i) j=(match Nat.beq i j with | true=>x | false=>XN h j):=by
 unfold XN ZrT
 rw [ZDv _ _ _ (d8 hi) (d8 hj),ZtH (k:=8) (i:=i) (j:=j) dM]
 cases hb:Nat.beq (Nat.div i 8) (Nat.div j 8) with
 | false=>rfl
 | true =>
 simp only;rw [ZDv _ _ _ (m8 i) (m8 j),Ti hb]
structure FT where
 h:T64
 r:List T64
def FT.leaf:FT:=⟨no64,[]⟩
def FT.blk (t:FT) (k:Nat):T64:=match k with
 | 0=>t.h
 | k+1=>match t.r[k]? with | some m=>m | none=>no64
def FT.get (t:FT) (n:Nat):PV:=XN (t.blk (Nat.div n 64)) (Nat.mod n 64)
def FT.put (x:PV) (t:FT) (n:Nat):Option FT:=match Nat.div n 64 with
 | 0=>some ⟨ZrT t.h x (Nat.mod n 64),t.r⟩
 | k+1=>match t.r[k]? with
  | some m=>some ⟨t.h,t.r.set k (ZrT m x (Nat.mod n 64))⟩
  | none=>none
def FT.full (n:Nat):FT:=⟨no64,List.replicate n no64⟩
def ZnY (g:PV->PV) (h:T64):T64:=h.map (T8.map g)
def ZcR (g:Nat->PV->PV) (h:T64):T64:=h.mapI fun b l=>l.mapI fun c v=>g (Nat.add (Nat.mul 8 b) c) v
def FT.map (g:PV->PV) (t:FT):FT:=⟨ZnY g t.h,t.r.map (ZnY g)⟩
def ZrU (g:Nat->PV->PV):Nat->List T64->List T64
 | _,[]=>[]
 | k,m::l=>ZcR (fun i=>g (Nat.add (Nat.mul 64 k) i)) m::ZrU g (k+1) l
def FT.mapI (g:Nat->PV->PV) (t:FT):FT:=⟨ZcR g t.h,ZrU g 1 t.r⟩
theorem ZDu:FT.leaf.get=fun _=>.undef:=by
 funext n
 have:FT.leaf.blk (Nat.div n 64)=no64:=by unfold FT.blk;split <;> rfl
 unfold FT.get XN
 rw [this,ZfO,ZiS]
theorem ZDq (k:Nat):(FT.full k).get=fun _=>.undef:=by
 funext n
 have:(FT.full k).blk (Nat.div n 64)=no64:=by
  unfold FT.blk FT.full
  split
  ·rfl
  simp only [Sy];split <;> rename_i h <;> split at h <;> first | (cases h;rfl) | (cases h;done) | rfl
 unfold FT.get XN
 rw [this,ZfO,ZiS]
theorem ZnZ {g:PV->PV} (hg:g .undef=.undef) (h:T64) {n:Nat} (hn:n<64):XN (ZnY g h) n=g (XN h n):=by
 have h8:T8.map g no8=no8:=by simp only [T8.map,no8,hg]
 unfold XN ZnY
 rw [T8.map_get h8 _ (d8 hn),T8.map_get hg _ (m8 n)]
theorem ZeN {g:Nat->PV->PV} (h:T64) {n:Nat} (hn:n<64):XN (ZcR g h) n=g n (XN h n):=by
 unfold XN ZcR
 rw [T8.mapI_get _ (d8 hn),T8.mapI_get _ (m8 n)]
 congr 1
 exact Nat.div_add_mod n 8
theorem FT.map_get (t:FT):(t.map clean).get=VR t.get:=by
 funext n
 have:∀k,(t.map clean).blk k=ZnY clean (t.blk k):=fun k=>by
  cases k with
  | zero=>rfl
  | succ k =>
  simp only [FT.blk,FT.map,To]
  cases t.r[k]? <;> rfl
 show XN ((t.map clean).blk _) _=clean (XN (t.blk _) _);rw [this,ZnZ rfl _ (m64 n)]
theorem Zha (g:Nat->PV->PV):∀(l:List T64) (b k:Nat),(ZrU g b l)[k]?=(l[k]?).map fun m=>ZcR (fun i=>g (Nat.add (Nat.mul 64 (b+k)) i)) m
 | [],_,_=>rfl
 | m::l,b,0=>rfl
 | m::l,b,k+1=>by
  simp only [ZrU,TQ];rw [Zha g l (b+1) k,show b+1+k=b+(k+1) by omega]
theorem FT.mapI_get (t:FT) {g:Nat->PV->PV} (hg:∀i,g i .undef=.undef):(t.mapI g).get=fun i=>g i (t.get i):=by
 funext n
 have hn:Nat.add (Nat.mul 64 (Nat.div n 64)) (Nat.mod n 64)=n:=Nat.div_add_mod n 64;show XN ((t.mapI g).blk _) _=g n (XN (t.blk _) _)
 cases hk:Nat.div n 64 with
 | zero =>
  rw [hk] at hn;have hn:Nat.mod n 64=n:=by
   have:Nat.add (Nat.mul 64 0) (Nat.mod n 64)=Nat.mod n 64:=T5 _;rw [<- this];exact hn
  show XN (ZcR g t.h) _=g n (XN t.h _);rw [ZeN _ (m64 n),hn]
 | succ k =>
 rw [hk] at hn;simp only [FT.blk,FT.mapI,Zha]
 cases t.r[k]? with
 | none =>
  show XN no64 _=g n (XN no64 _);unfold XN;rw [ZfO,ZiS,hg]
 | some m =>
 show XN (ZcR _ m) _=g n (XN m _);rw [ZeN _ (m64 n),show 1+k=k+1 by omega,hn]
theorem ZDo {x:PV} {t:FT} {n:Nat} {t':FT} (h:t.put x n=some t'):t'.get=V0 t.get n x:=by
 funext j
 show XN (t'.blk _) _=(match Nat.beq n j with | true=>x | false=>XN (t.blk _) _);rw [ZtH (k:=64) (i:=n) (j:=j) dM];unfold FT.put at h
 split at h
 ·rename_i hk
  cases h
  rw [hk]
  cases hj:Nat.div j 64 with
  | zero=>exact ZcQ _ _ (m64 n) (m64 j)
  | succ k=>rfl
 rename_i k hk
 split at h
 ·rename_i m hm
  cases h
  rw [hk]
  cases hj:Nat.div j 64 with
  | zero=>rfl
  | succ k' =>
  have ai:k<t.r.length:=(Th.1 hm).1
  cases hb:Nat.beq (k+1) (k'+1) with
  | true =>
   have:=Ti hb;have:k=k':=oM;subst this;simp only [FT.blk,List.getElem?_set_self ai,hm];exact ZcQ _ _ (m64 n) (m64 j)
  | false =>
  have ao:k≠k':=fun he=>by subst he;rw [Nat.beq_refl] at hb;cases hb
  simp only [FT.blk,List.getElem?_set_ne ao]
 cases h
def argT:Nat->List PV->FT->Option FT
 | _,[],t=>some t
 | i,v::vs,t=>match argT (i+1) vs t with | some t=>t.put v i | none=>none
theorem Zkb {t0:FT} (h0:t0.get=fun _=>.undef):∀{vs:List PV} {i:Nat} {t:FT},argT i vs t0=some t->t.get=Zcq i vs
 | [],i,t,h=>by simp only [argT,Option.some.injEq] at h;subst h;rw [h0];rfl
 | v::vs,i,t,h=>by
  simp only [argT] at h;split at h
  ·rename_i t1 h1;rw [ZDo h,Zkb h0 h1];rfl
  cases h
section
variable {α β:Type}
def Jq (n:Nat) (k:Nat->Option α):Option α:=match n with
 | 0=>k 0
 | m+1=>k (Nat.succ m)
def ZAe (n:Int) (k:Int->Option α):Option α:=match n with
 | .ofNat m=>Jq m fun m=>k (.ofNat m)
 | .negSucc m=>Jq m fun m=>k (.negSucc m)
def ZBT (b:Bool) (k:Bool->Option α):Option α:=match b with | true=>k true | false=>k false
def Zrw (l:List β) (k:List β->Option α):Option α:=match l with
 | []=>k []
 | x::l=>Zrw l fun l=>k (x::l)
def ZAG (x:D) (k:D->Option α):Option α:=match x with
 | .int q n=>ZAe n fun n=>k (.int q n)
 | .bool b=>ZBT b fun b=>k (.bool b)
 | .str s=>Zrw s fun s=>k (.str s)
 | .sl rows=>Zrw rows fun rows=>k (.sl rows)
 | .nilp=>k .nilp
 | .nilf=>k .nilf
 | .nili=>k .nili
def Zkc (v:PV) (k:PV->Option α):Option α:=match v with
 | .d x=>ZAG x fun x=>k (.d x)
 | .undef=>k .undef
 | .ptr b off=>Jq b fun b=>Jq off fun off=>k (.ptr b off)
 | .elem r off=>Jq off fun off=>k (.elem r off)
 | .sl t e rows=>Jq t fun t=>Zrw rows fun rows=>k (.sl t e rows)
 | .nils e=>k (.nils e)
 | .asl b off n=>k (.asl b off n)
 | .func f a c=>k (.func f a c)
 | .iface t v=>k (.iface t v)
 | .agg cs=>k (.agg cs)
 | .tuple vs=>k (.tuple vs)
 | .raw v=>k (.raw v)
 | .mp b=>Jq b fun b=>k (.mp b)
 | .nilm=>k .nilm
def Zx0 (l:List PV) (k:List PV->Option α):Option α:=match l with
 | []=>k []
 | v::l=>Zkc v fun v=>Zx0 l fun l=>k (v::l)
def ZuO (l:List Nat) (k:List Nat->Option α):Option α:=match l with
 | []=>k []
 | n::l=>Jq n fun n=>ZuO l fun l=>k (n::l)
def Zn0 (l:List Box) (k:List Box->Option α):Option α:=match l with
 | []=>k []
 | .cells t cs::l=>Zx0 cs fun cs=>Zn0 l fun l=>k (.cells t cs::l)
 | .iter s p::l=>Jq p fun p=>Zn0 l fun l=>k (.iter s p::l)
 | .map cs bn ck::l=>Zx0 cs fun cs=>ZuO bn fun bn=>Jq ck fun ck=>Zn0 l fun l=>k (.map cs bn ck::l)
 | x::l=>Zn0 l fun l=>k (x::l)
def ZiT (σ:St) (k:St->Option α):Option α:=Zn0 σ.bx fun bx=>ZuO σ.tk fun tk=>Jq σ.nx fun nx=>k ⟨bx,tk,nx⟩
def ZAf (v:PV) (k:PV->Option α):Option α:=match v with
 | .d x=>k (.d x)
 | .undef=>k .undef
 | .ptr b off=>Jq b fun b=>Jq off fun off=>k (.ptr b off)
 | .elem r off=>k (.elem r off)
 | .sl t e rows=>Jq t fun t=>k (.sl t e rows)
 | .nils e=>k (.nils e)
 | .asl b off n=>Jq b fun b=>k (.asl b off n)
 | .func f a c=>k (.func f a c)
 | .iface t v=>k (.iface t v)
 | .agg cs=>k (.agg cs)
 | .tuple vs=>k (.tuple vs)
 | .raw v=>k (.raw v)
 | .mp b=>Jq b fun b=>k (.mp b)
 | .nilm=>k .nilm
def ZuP (σ:St) (k:St->Option α):Option α:=Zrw σ.bx fun bx=>ZuO σ.tk fun tk=>Jq σ.nx fun nx=>k ⟨bx,tk,nx⟩
noncomputable def dOf (v:PV):Option D:=@PV.casesOn (fun _=>Option D) v (fun x=>some x) (none) (fun _ _=>none) (fun _ _=>none) (fun _ _ _=>none) (fun _=>none) (fun _ _ _=>none) (fun _ _ _=>none) (fun _ _=>none) (fun _=>none) (fun _=>none) (fun _=>none) (fun _=>none) (none)
noncomputable def ZCw {β:Type} (v:PV) (k:PV->β):β:=@PV.casesOn (fun _=>β) v (fun x=>k (.d x)) (k .undef) (fun b o=>k (.ptr b o)) (fun r o=>k (.elem r o)) (fun t e r=>k (.sl t e r)) (fun e=>k (.nils e)) (fun b o n=>k (.asl b o n)) (fun f a c=>k (.func f a c)) (fun t v=>k (.iface t v)) (fun cs=>k (.agg cs)) (fun vs=>k (.tuple vs)) (fun v=>k (.raw v)) (fun b=>k (.mp b)) (k .nilm)
noncomputable def whV {β:Type} (v:PV) (k:PV->β):β:=@Option.rec D (fun _=>β) (ZCw v k) (fun x=>k (.d x)) (dOf v)
theorem Zn1 {β:Type} (v:PV) (k:PV->β):whV v k=k v:=by cases v <;> rfl
noncomputable def YS (l:List PV):Bool:=@List.rec PV (fun _=>Bool) true (fun v _ ih=>@PV.casesOn (fun _=>Bool) v (fun _=>ih) (ih) (fun _ _=>false) (fun _ _=>ih) (fun _ _ _=>false) (fun _=>false) (fun _ _ _=>false) (fun _ _ _=>false) (fun _ _=>false) (fun _=>false) (fun _=>false) (fun _=>ih) (fun _=>false) (ih)) l
noncomputable def rCL (l:List PV):(List PV->Option α)->Option α:=@List.rec PV (fun _=>(List PV->Option α)->Option α) (fun k=>k []) (fun v _ ih k=>ZAf v fun v=>ih fun l=>k (v::l)) l
noncomputable def rA (v:PV) (k:PV->Option α):Option α:=@PV.casesOn (fun _=>Option α) v (fun x=>k (.d x)) (k .undef) (fun b o=>Jq b fun b=>Jq o fun o=>k (.ptr b o)) (fun r o=>k (.elem r o)) (fun t e r=>Jq t fun t=>k (.sl t e r)) (fun e=>k (.nils e)) (fun b o n=>Jq b fun b=>k (.asl b o n)) (fun f a c=>rCL a fun a=>rCL c fun c=>k (.func f a c)) (fun t v=>k (.iface t v)) (fun cs=>rCL cs fun cs=>k (.agg cs)) (fun vs=>rCL vs fun vs=>k (.tuple vs)) (fun v=>k (.raw v)) (fun b=>Jq b fun b=>k (.mp b)) (k .nilm)
noncomputable def rAL (l:List PV):(List PV->Option α)->Option α:=@List.rec PV (fun _=>(List PV->Option α)->Option α) (fun k=>k []) (fun v _ ih k=>rA v fun v=>ih fun l=>k (v::l)) l
noncomputable def ZxI (cs:List PV) (k:List PV->Option α):Option α:=@Bool.rec (fun _=>Option α) (rAL cs k) (k cs) (YS cs)
noncomputable def rX (l:List Box):(List Box->Option α)->Option α:=@List.rec Box (fun _=>(List Box->Option α)->Option α) (fun k=>k [])
 (fun x _ ih k=>@Box.casesOn (fun _=>Option α) x (fun m=>ih fun l=>k (.dmap m::l)) (fun t cs=>ZxI cs fun cs=>ih fun l=>k (.cells t cs::l)) (fun s p=>ih fun l=>k (.iter s p::l)) (fun a b c=>ih fun l=>k (.loop a b c::l)) (fun cs bn ck=>ZxI cs fun cs=>ih fun l=>k (.map cs bn ck::l))) l
noncomputable def rT (l:List Nat):(List Nat->Option α)->Option α:=@List.rec Nat (fun _=>(List Nat->Option α)->Option α) (fun k=>k []) (fun n _ ih k=>Jq n fun n=>ih fun l=>k (n::l)) l
noncomputable def rSt (σ:St) (k:St->Option α):Option α:=rX σ.bx fun bx=>rT σ.tk fun tk=>Jq σ.nx fun nx=>k ⟨bx,tk,nx⟩
theorem YX (n:Nat) (k:Nat->Option α):Jq n k=k n:=by cases n <;> rfl
theorem Zn2 (n:Int) (k:Int->Option α):ZAe n k=k n:=by cases n <;> simp only [ZAe,YX]
theorem ZuQ (n:Bool) (k:Bool->Option α):ZBT n k=k n:=by cases n <;> rfl
theorem Jr:∀(l:List β) (k:List β->Option α),Zrw l k=k l
 | [],_=>rfl
 | x::l,k=>by simp only [Zrw,Jr l]
theorem ZuR (x:D) (k:D->Option α):ZAG x k=k x:=by cases x <;> simp only [ZAG,Zn2,ZuQ,Jr]
theorem WV (v:PV) (k:PV->Option α):Zkc v k=k v:=by cases v <;> simp only [Zkc,ZuR,YX,Jr]
theorem ZiU:∀(l:List PV) (k:List PV->Option α),Zx0 l k=k l
 | [],_=>rfl
 | v::l,k=>by simp only [Zx0,WV,ZiU l]
theorem ZaK:∀(l:List Nat) (k:List Nat->Option α),ZuO l k=k l
 | [],_=>rfl
 | n::l,k=>by simp only [ZuO,YX,ZaK l]
theorem ZaL:∀(l:List Box) (k:List Box->Option α),Zn0 l k=k l
 | [],_=>rfl
 | .cells t cs::l,k=>by simp only [Zn0,ZiU,ZaL l]
 | .iter s p::l,k=>by simp only [Zn0,YX,ZaL l]
 | .loop a b c::l,k=>by simp only [Zn0,ZaL l]
 | .dmap m::l,k=>by simp only [Zn0,ZaL l]
 | .map cs bn ck::l,k=>by simp only [Zn0,ZiU,ZaK,YX,ZaL l]
theorem Xk (σ:St) (k:St->Option α):ZiT σ k=k σ:=by simp only [ZiT,ZaL,ZaK,YX]
theorem ZuS (v:PV) (k:PV->Option α):ZAf v k=k v:=by cases v <;> simp only [ZAf,YX]
theorem ZrV (σ:St) (k:St->Option α):ZuP σ k=k σ:=by unfold ZuP;rw [Jr,ZaK,YX]
theorem ZtI:∀(l:List PV) (k:List PV->Option α),rCL l k=k l
 | [],_=>rfl
 | v::l,k=>by show ZAf v (fun v=>rCL l fun l=>k (v::l))=_;rw [ZuS,ZtI l]
theorem Zx1 (v:PV) (k:PV->Option α):rA v k=k v:=by cases v <;> simp only [rA,YX,ZtI]
theorem Zkd:∀(l:List PV) (k:List PV->Option α),rAL l k=k l
 | [],_=>rfl
 | v::l,k=>by show rA v (fun v=>rAL l fun l=>k (v::l))=_;rw [Zx1,Zkd l]
theorem Zn3 (cs:List PV) (k:List PV->Option α):ZxI cs k=k cs:=by unfold ZxI;cases YS cs with | true=>rfl | false=>exact Zkd cs k
theorem Zl3:∀(l:List Box) (k:List Box->Option α),rX l k=k l
 | [],_=>rfl
 | .cells t cs::l,k=>by show ZxI cs (fun cs=>rX l fun l=>k (.cells t cs::l))=_;rw [Zn3,Zl3 l]
 | .iter s p::l,k=>by show rX l (fun l=>k (.iter s p::l))=_;rw [Zl3 l]
 | .loop a b c::l,k=>by show rX l (fun l=>k (.loop a b c::l))=_;rw [Zl3 l]
 | .dmap m::l,k=>by show rX l (fun l=>k (.dmap m::l))=_;rw [Zl3 l]
 | .map cs bn ck::l,k=>by show ZxI cs (fun cs=>rX l fun l=>k (.map cs bn ck::l))=_;rw [Zn3,Zl3 l]
theorem Zx2:∀(l:List Nat) (k:List Nat->Option α),rT l k=k l
 | [],_=>rfl
 | n::l,k=>by show Jq n (fun n=>rT l fun l=>k (n::l))=_;rw [YX,Zx2 l]
theorem ZtJ (σ:St) (k:St->Option α):rSt σ k=k σ:=by unfold rSt;rw [Zl3,Zx2,YX]
end
end Go.PM
end

section
namespace Go.PM
def ieq:Int->Int->Bool
 | .ofNat m,.ofNat n=>Nat.beq m n
 | .negSucc m,.negSucc n=>Nat.beq m n
 | _,_=>false
def ilt:Int->Int->Bool
 | .ofNat m,.ofNat n=>Nat.ble (m+1) n
 | .negSucc m,.negSucc n=>Nat.ble (n+1) m
 | .negSucc _,.ofNat _=>true
 | .ofNat _,.negSucc _=>false
theorem ZeO (a b:Int):ieq a b=decide (a=b):=by
 cases a <;> cases b <;> simp only [ieq]
 ·rw [Bool.eq_iff_iff,Nat.beq_eq,decide_eq_true_iff,Int.ofNat_eq_natCast,Int.ofNat_eq_natCast];omega
 ·simp
 ·simp
 rw [Bool.eq_iff_iff,Nat.beq_eq,decide_eq_true_iff];simp
theorem ZcS (a b:Int):ilt a b=decide (a<b):=by
 cases a <;> cases b <;> simp only [ilt]
 ·rw [Bool.eq_iff_iff,SF,decide_eq_true_iff,Int.ofNat_eq_natCast,Int.ofNat_eq_natCast];omega
 ·symm;rw [decide_eq_false_iff_not,Int.ofNat_eq_natCast];omega
 ·symm;rw [decide_eq_true_iff,Int.ofNat_eq_natCast];omega
 rw [Bool.eq_iff_iff,SF,decide_eq_true_iff];omega
theorem Zx3 (a b:Int):(!ilt a b)=decide (b<=a):=by
 rw [ZcS,<- decide_not];congr 1;rw [eq_iff_iff];omega
def ZBU:IntKind->Nat
 | .i8=>127 | .i16=>32767 | .i32=>2147483647 | .i64=>9223372036854775807 | .u8=>255 | .u16=>65535 | .u32=>4294967295 | .u64=>18446744073709551615
def ZcT (k:IntKind) (n:Int):Int:=match n with
 | .ofNat m=>match Nat.ble m (ZBU k) with | true=>.ofNat m | false=>k.wrap (.ofNat m)
 | .negSucc m=>k.wrap (.negSucc m)
theorem Zb6 (k:IntKind) (n:Int):ZcT k n=k.wrap n:=by
 cases n with
 | negSucc m=>rfl
 | ofNat m =>
 simp only [ZcT];split
 ·rename_i h
  have h:=Ta h
  symm
  cases k <;> simp only [ZBU] at h <;> simp [IntKind.wrap,IntKind.bits,IntKind.signed] <;> omega
 rfl
def Ub:List UInt8->List UInt8->Bool
 | [],[]=>true
 | a::x,b::y=>match Nat.beq a.toNat b.toNat with | true=>Ub x y | false=>false
 | _,_=>false
theorem XC:∀(a b:List UInt8),Ub a b=decide (a=b)
 | [],[]=>rfl
 | [],_::_=>by simp [Ub]
 | _::_,[]=>by simp [Ub]
 | a::x,b::y=>by
  simp only [Ub];split
  ·rename_i h
   have:a=b:=UInt8.toNat_inj.1 (Ti h);subst this;rw [XC x y];simp
  rename_i h
  symm;rw [decide_eq_false_iff_not]
  intro he;cases he;simp at h
def Zl4 (op:BinOp) (k:IntKind) (a b:Int):Option PV:=match op with
 | .add=>some (.d (.int k (ZcT k (a+b)))) | .sub=>some (.d (.int k (ZcT k (a - b)))) | .mul=>some (.d (.int k (ZcT k (a * b))))
 | .quo=>match ieq b 0 with | true=>none | false=>some (.d (.int k (ZcT k (a.tdiv b))))
 | .rem=>match ieq b 0 with | true=>none | false=>some (.d (.int k (a.tmod b)))
 | .and=>some (.d (.int k (WT .and k a b))) | .or=>some (.d (.int k (WT .or k a b))) | .xor=>some (.d (.int k (WT .xor k a b))) | .andNot=>some (.d (.int k (WT .andNot k a b)))
 | .eql=>some (.d (.bool (ieq a b))) | .neq=>some (.d (.bool (!ieq a b))) | .lss=>some (.d (.bool (ilt a b))) | .leq=>some (.d (.bool (!ilt b a)))
 | .gtr=>some (.d (.bool (ilt b a))) | .geq=>some (.d (.bool (!ilt a b)))
 | _=>none
theorem ZrW {op:BinOp} {k:IntKind} {a b:Int} {v:PV} {K:PV->Prop} (h:Zl4 op k a b=some v) (hK:K v):ZtB op k a b K:=by
 have hw:∀n,K (.d (.int k (ZcT k n)))->ZbQ k n K:=fun n h=>.inr (by rw [<- Zb6];exact h)
 cases op <;> simp only [Zl4,ZtB,Z2] at h |- <;> first
  | (cases h;first | exact hw _ hK | exact hK | (rw [Zx3] at hK;exact hK) | (simp only [ZeO,ZcS] at hK;exact hK))
  | (rw [ZeO] at h
     split at h
     ·cases h
     rename_i hd;cases h;exact ⟨of_decide_eq_false hd,by first | exact hw _ hK | exact hK⟩)
  | (cases h;done)
def YF (T:Tab):Nat->List (Nat×Nat)->List PV->List PV->Option Bool
 | _,[],[],[]=>some true
 | i,(o,t)::fs,x::xs,y::ys=>match Nat.beq o i,(T.get t).kind,x,y with
  | true,.int _,.d (.int k a),.d (.int k' b)=>(match keq k k',YF T (i+1) fs xs ys with | true,some r=>some (ieq a b && r) | _,_=>none)
  | true,.string,.d (.str a),.d (.str b)=>(match YF T (i+1) fs xs ys with | some r=>some (Ub a b && r) | none=>none)
  | true,.bool,.d (.bool a),.d (.bool b)=>(match YF T (i+1) fs xs ys with | some r=>some (decide (a=b) && r) | none=>none)
  | _,_,_,_=>none
 | _,_,_,_=>none
theorem WN {T:Tab}:∀{fs:List (Nat×Nat)} {i:Nat} {xs ys:List PV} {r:Bool} {K:Bool->Prop},YF T i fs xs ys=some r->K r->Yj T i fs xs ys K
 | [],i,[],[],r,K,h,hK=>by simp only [YF,Option.some.injEq] at h;subst h;exact hK
 | [],_,[],_::_,r,K,h,hK=>by simp [YF] at h
 | [],_,_::_,_,r,K,h,hK=>by simp [YF] at h
 | _::_,_,[],_,r,K,h,hK=>by simp [YF] at h
 | _::_,_,_::_,[],r,K,h,hK=>by simp [YF] at h
 | (o,t)::fs,i,x::xs,y::ys,r,K,h,hK=>by
  unfold YF at h
  unfold Yj
  split at h
  ·rename_i h1 h2
   simp only [h1,h2];split at h
   ·rename_i h3 h4;cases h;simp only [h3];exact WN h4 (by rw [<- ZeO];exact hK)
   cases h
  ·rename_i h1 h2
   simp only [h1,h2];split at h
   ·rename_i h4;cases h;exact WN h4 (by rw [<- XC];exact hK)
   cases h
  ·rename_i h1 h2
   simp only [h1,h2];split at h
   ·rename_i h4;cases h;exact WN h4 hK
   cases h
  cases h
def ZAg (T:Tab) (t:TypeId) (x y:Operand) (px py:PV):Option Bool:=match (T.get t).kind with
 | .bool=>match px,py with
  | .d (.bool a),.d (.bool b)=>some (decide (a=b))
  | _,_=>none
 | .ptr _=>match px,py with
  | .d .nilp,.d .nilp=>some true
  | .d .nilp,.ptr _ _=>some false
  | .d .nilp,.elem _ _=>some false
  | .ptr _ _,.d .nilp=>some false
  | .elem _ _,.d .nilp=>some false
  | _,_=>none
 | .func=>match px,py with
  | .d .nilf,.d .nilf=>some true
  | .d .nilf,.func _ _ _=>some false
  | .func _ _ _,.d .nilf=>some false
  | _,_=>none
 | .iface=>match px,py with
  | .d .nili,.d .nili=>match ZjY x || ZjY y with | true=>some true | false=>none
  | .d .nili,.iface _ _=>some false
  | .iface _ _,.d .nili=>some false
  | .iface t (.d (.int k a)),.iface t' (.d (.int k' b))=>match Nat.beq t t',(T.get t).kind,(T.get t).eqok with
   | true,.int _,true=>(match keq k k' with | true=>some (decide (a=b)) | false=>none)
   | false,_,_=>some false
   | _,_,_=>none
  | _,_=>none
 | .map _ _=>match px,py with
  | .nilm,.nilm=>some true
  | .mp _,.nilm=>some false
  | .nilm,.mp _=>some false
  | _,_=>none
 | .slice _=>match px,py with
  | .nils _,.nils _=>some true
  | .d (.sl (_::_)),.nils _=>some false
  | .sl _ _ (_::_),.nils _=>some false
  | _,_=>none
 | .struct fs=>match (T.get t).eqok with
  | true=>match px,py with
   | .agg xs,.agg ys=>YF T 0 fs xs ys
   | _,_=>none
  | false=>none
 | _=>none
theorem ZuT {T:Tab} {t:TypeId} {x y:Operand} {px py:PV} {r:Bool} {K:Bool->Prop} (h:ZAg T t x y px py=some r) (hK:K r):peq T t x y px py K:=by
 unfold ZAg at h
 unfold peq
 split at h <;> rename_i hk <;> simp only [hk]
 ·split at h <;> cases h;exact hK
 ·split at h <;> cases h <;> exact hK
 ·split at h <;> cases h <;> exact hK
 ·split at h
  ·split at h
   ·rename_i hc;cases h;simp only [hc];exact hK
   cases h
  ·cases h;exact hK
  ·cases h;exact hK
  ·split at h
   ·rename_i h1 h2 h3
    simp only [h1,h2,h3];split at h
    ·rename_i h4;cases h;simp only [h4];exact hK
    cases h
   ·rename_i h1;cases h;simp only [h1];exact hK
   cases h
  cases h
 ·split at h <;> cases h <;> exact hK
 ·split at h <;> cases h <;> exact hK
 ·split at h
  ·rename_i h1
   simp only [h1];split at h
   ·exact WN h hK
   cases h
  cases h
 cases h
def ZBV (op:BinOp) (a b:List UInt8):Option PV:=match op with
 | .add=>match Nat.ble (a.length+b.length+1) 4611686018427387904 with | true=>some (.d (.str (a++b))) | false=>none
 | .eql=>some (.d (.bool (Ub a b))) | .neq=>some (.d (.bool (!Ub a b)))
 | .lss=>some (.d (.bool (Op.bytesLess a b))) | .geq=>some (.d (.bool (!Op.bytesLess a b)))
 | .leq=>some (.d (.bool (Op.bytesLess a b || Ub a b))) | .gtr=>some (.d (.bool (!(Op.bytesLess a b || Ub a b))))
 | _=>none
def shR (op:BinOp) (k:IntKind) (a b:Int):Option PV:=match op with
 | .shl=>match ilt b 0 with | true=>none | false=>some (.d (.int k (ZcT k (a * 2 ^ (min b.toNat k.bits)))))
 | .shr=>match ilt b 0 with | true=>none | false=>some (.d (.int k (a.fdiv (2 ^ (min b.toNat k.bits)))))
 | _=>none
def ZxJ:BinOp->Bool | .shl=>true | .shr=>true | _=>false
def Zhb (T:Tab) (op:BinOp) (t:TypeId) (x y:Operand) (px py:PV):Option PV :=
 match px,py with
 | .d (.int k a),.d (.int k' b)=>match ZxJ op with
  | true=>shR op k a b
  | false=>match keq k k' with | true=>Zl4 op k a b | false=>none
 | .d (.str a),.d (.str b)=>ZBV op a b
 | px,py=>match op with
  | .eql=>(match ZAg T t x y px py with | some b=>some (.d (.bool b)) | none=>none)
  | .neq=>(match ZAg T t x y px py with | some b=>some (.d (.bool (!b))) | none=>none)
  | _=>none
theorem ZrX {T:Tab} {op:BinOp} {t:TypeId} {x y:Operand} {px py v:PV} {K:PV->Prop} (h:Zhb T op t x y px py=some v) (hK:K v):Zrt T op t x y px py K:=by
 unfold Zhb at h
 unfold Zrt
 split at h
 ·rename_i k a k' b
  cases hs:ZxJ op with
  | true =>
   rw [hs] at h;simp only [shR] at h
   cases op <;> simp only [ZxJ] at hs <;> first | (cases hs;done) | skip
   all_goals
    simp only [ZcS] at h |-;split at h
    ·cases h
    rename_i h1;cases h
    refine ⟨by have:=of_decide_eq_false h1;omega,?_⟩
    first | exact hK | (exact .inr (by rw [<- Zb6];exact hK))
  | false =>
  rw [hs] at h;simp only at h;split at h
  ·rename_i hq
   cases op <;> simp only [ZxJ] at hs <;> first | (cases hs;done) | (simp only [hq];exact ZrW h hK)
  cases h
 ·rename_i a b
  simp only [ZBV] at h
  cases op <;> simp only [<- XC] at h |- <;> first
   | (cases h;exact hK)
   | (split at h
      ·rename_i hl;cases h;exact ⟨by have:=Ta hl;omega,hK⟩
      cases h)
   | (cases h;done)
 split
 ·exact False.elim (by solve_by_elim)
 ·exact False.elim (by solve_by_elim)
 cases op <;> simp only at h |- <;> first
  | (split at h
     ·rename_i hr;cases h;exact ZuT hr hK
     cases h)
  | (cases h;done)
end Go.PM
end
