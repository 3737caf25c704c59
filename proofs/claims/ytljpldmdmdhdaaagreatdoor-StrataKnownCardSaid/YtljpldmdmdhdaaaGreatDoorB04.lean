/- A part of the proof: plain logic, contracts and laws over the given program. -/
import Derived.RangeFuncCalls
import Derived.RangeFuncLeaves
import Derived.Laws.Sem
import Derived.RecoverIn
import Derived.Test.YtljpldmdmdhdaaaGreatDoorB03
set_option linter.unusedVariables false
set_option linter.unusedSimpArgs false
set_option linter.all false
set_option maxRecDepth 100000
set_option maxHeartbeats 16000000
noncomputable section
section
namespace Go.PM
abbrev Zh:=List PV->St->(PEnd->St->Prop)->Prop
structure PCalls (G:GE) (g:FuncId) (sp:Zh):Prop where
 enters:XK G.P g
 calls:∀args σ K,sp args σ K->∀(n:Nat) (e:Env) (w:World) (vs:Array Value),SRel G e σ w->ArgsRel G e σ w args vs->CallsIn (fw none) n G.P g vs w (YO G e σ w K)
theorem Zf {P : Program} {f : FuncId} {fn : Func} {c : Code} (hf : P.funcs[f]? = some fn) (ao : (fn.name == "runtime.NumGoroutine") = false) (hb : fn.body = some c) : XK P f := fun args w => by
 have h1 : fn.name ≠ "runtime.NumGoroutine" := by simp_all
 simp [callFunc,hf,h1,hb]
section
variable {G:GE} {C:Cx} {e:Env} {σ:St} {w:World} {f:Frame} {n:Nat} {tm:Array Value}
def ZAJ (tm:Array Value):ResultVar->Sem Value
 | .tmp t=>pure (tm.getD t Go.undef)
 | .cell a t=>do loadVar t (<- asAddr (tm.getD a Go.undef))
def ZgF {P:Program} {t:TypeId} {v u:Value} (hv:∃a,v=.pointer (some a)) (h:(Instr.loadAt t v).run P w=.ok u w):(do loadVar t (<- asAddr v):Sem Value).run P w=.ok u w:=by
 obtain ⟨a,rfl⟩:=hv
 assumption
theorem Za4 (hT:TabOK C.T G.P) (hS:SRel G e σ w) (hF:FRel G e σ w f tm):∀{l:List ResultVar} {K:List PV->Prop},pres C.T f σ.bx l K ->
  ∃pvs vs,K pvs/\(l.mapM (ZAJ tm)).run G.P w=.ok vs w/\vs.length=pvs.length/\∀(i:Nat) (x:PV) (u:Value),pvs[i]?=some x->vs[i]?=some u->VRel G e σ w x u
 | [],K,h=>⟨[],[],h,rfl,rfl,fun i x u hx=>sM⟩
 | .tmp t::l,K,h=>by
  simp only [pres,Z5] at h;obtain ⟨pvs,vs,hK,hr,hl,hv⟩:=Za4 hT hS hF h;refine ⟨f t::pvs,tm.getD t Go.undef::vs,hK,?_,by simp [hl],fun i x u hx hu=>?_⟩
  ·rw [List.mapM_cons];simp only [ZAJ,Sem.run_bind,Sem.run_pure,Result.andThen,hr]
  cases i with
  | zero=>simp only [List.getElem?_cons_zero,Option.some.injEq] at hx hu;subst hx;subst hu;exact hF t
  | succ i=>grind
 | .cell a t::l,K,h=>by
  simp only [pres] at h;have adj:∃a',tm.getD a Go.undef=.pointer (some a'):=by
   have:=hF a;generalize tm.getD a Go.undef=v at this;generalize f a=x at this h
   cases this with
   | ptr b off _=>simp_all
   | elem r off b o u _ _ _=>simp_all
   | _=>exact h.elim
  obtain ⟨pv,u0,hk,xw,aj⟩:=Zfj hT hS (hF a) h;rw [Z5] at hk;obtain ⟨pvs,vs,hK,hr,hl,hv⟩:=Za4 hT hS hF hk;refine ⟨pv::pvs,u0::vs,hK,?_,by simp [hl],fun i x u hx hu=>?_⟩
  ·rw [List.mapM_cons];have:=ZgF adj aj;simp only [ZAJ];rw [Sem.run_bind,this]
   simp_all
  grind
theorem XQ (hT:TabOK C.T G.P) (hS:SRel G e σ w) (hF:FRel G e σ w f tm) {fn:Func} {K:List PV->Prop} (h:pres C.T f σ.bx fn.results.toList K) :
  ∃pvs v,K pvs/\(results fn tm).run G.P w=.ok v w/\VRel G e σ w (Jl pvs) v:=by
 obtain ⟨pvs,vs,hK,hr,hl,hv⟩:=Za4 hT hS hF h;have js:(results fn tm).run G.P w=.ok (if h:vs.toArray.size=1 then vs.toArray[0] else .tuple vs.toArray) w:=by
  have ahq:results fn tm=(do let vs <- fn.results.mapM (ZAJ tm);pure (if h:vs.size=1 then vs[0] else .tuple vs)):=by
   rfl
  have h1:fn.results.mapM (ZAJ tm)=List.toArray <$> fn.results.toList.mapM (ZAJ tm):=by
   conv=>lhs;rw [show fn.results=fn.results.toList.toArray from sM]
   grind
  simp_all
 refine ⟨pvs,_,hK,js,?_⟩
 match pvs,vs,hl,hv with
 | [],[],_,hv=>exact .tuple [] #[] rfl (fun i x u hx=>sM)
 | [x],[u],_,hv=>exact hv 0 x u rfl rfl
 | x::y::l,u::v::m,hl,hv =>
  have:¬((u::v::m).toArray.size=1):=sM;rw [dif_neg this];exact .tuple _ _ oM (fun i a b ha hb=>hv i a b ha (by simp_all))
theorem X4 {e0:Env} {σ0:St} {w0:World} {keep:Nat} {own:Bool} {pv:PV} {v:Value} {K:PV->St->Prop} (hS:SRel G e σ w) (hL:Later e0 σ0 w0 e σ w) (hk:σ0.bx.length<=keep) (hv:VRel G e σ w pv v)
  {ag:Bool} (h:Zfh ag keep own pv σ K):∃pv' σ' e',K pv' σ'/\VRel G e' σ' w pv' v/\SRel G e' σ' w/\Later e0 σ0 w0 e' σ' w:=by
 unfold Zfh at h
 split at h
 ·rename_i hb
  cases own with
  | true =>
   simp only at h;obtain ⟨vs',σ',e',hK,hS',hd,hlen,bh⟩:=Zdb hS h
   match vs',hlen,hK with
   | [y],_,hK=>exact ⟨y,σ',e',hK,bh 0 pv y v rfl rfl hv,hS',hL.drop hd hk⟩
  | false =>
  simp only at h;obtain ⟨bs,tk',as',hK,hx,hI,dc,hn,nk⟩:=Ww (as:=[]) (NInv.start σ.tk [] (fun t ht=>by cases ht)) h;exact ⟨clean pv,_,e.re as',hK,(NV.cl pv hb).rel hn hI dc hv,Zgy hS hn hI dc nk,hL.drop (Zda hn hI dc) hk⟩
 simp_all
theorem Zac {vs:Array Value}:∀(args:List PV) (i:Nat),(∀(k:Nat) (x:PV),args[k]?=some x->VRel G e σ w x (vs.getD (i+k) Go.undef))->FRel G e σ w (Zck i args) vs
 | [],i,_=>fun j=>.undef _
 | a::args,i,h=>by
  intro j
  simp only [Zck]
  by_cases ji:i=j
  ·subst ji;rw [Yw];exact h 0 a sM
  rw [Y9 _ _ ji];exact Zac args (i+1) (fun k x hx=>by have:=h (k+1) x (by simp_all);grind) j
def VRel.world {w':World} (hc:∀b off u,w.cell? ⟨b,off,none⟩=some u->w'.cell? ⟨b,off,none⟩=some u) (hb:∀(b:Nat) (cs:Array Value) (ty:TypeId) (fz:Nat×Nat),w.heap[b]?=some (Obj.cells cs ty fz)->w'.heap[b]?=some (Obj.cells cs ty fz)) {x:PV} {v:Value} (h:VRel G e σ w x v):VRel G e σ w' x v:=by
 have hd:∀{x:D} {v:Value},DRel (okc e σ) w x v->DRel (okc e σ) w' x v:=fun hd=>hd.mono fun b off u hu ho=>⟨ho,hc b off u hu⟩
 induction h with
 | d x v h=>exact .d _ _ (hd h)
 | undef v=>exact .undef _
 | ptr b off h=>exact .ptr b off h
 | asl b off n h=>exact .asl b off n h
 | elem r off b o u qz ho hu=>exact .elem r off b o u (fun j hj=>hc _ _ _ (qz j hj)) ho (fun j x hx=>hd (hu j x hx))
 | sl t el rows v hn oh ht =>
  refine .sl t el rows v hn (hd oh) fun h=>?_
  rcases ht h with h1 | ⟨sz,g1,g2,g3,b,off,cap,cs,ty,fz,g4,g5,g6,g7,g8⟩
  ·exact .inl h1
  exact .inr ⟨sz,g1,g2,g3,b,off,cap,cs,ty,fz,g4,g5,g6,hb _ _ _ _ g7,g8⟩
 | nils el=>exact .nils el
 | func f a c va vc ha qz _ _ ih1 ih2=>exact .func f a c va vc ha qz ih1 ih2
 | iface t x v _ ih=>exact .iface t x v ih
 | agg cs vs hs _ h1 ih=>exact .agg cs vs hs ih h1
 | tuple cs vs hs _ ih=>exact .tuple cs vs hs ih
 | raw v=>exact .raw v
 | mp b h=>exact .mp b h
 | nilm=>exact .nilm
theorem Ztm {r:Nat} (hS:SRel G e σ w) (hr:w.heap[r]?=some (.deferred (some []))) (hb:(∀i,i<σ.bx.length->e.β i≠r)/\e.H r=none) (hg:G.nG<=r) :
  SRel G e σ (w.putObj r (.deferred none))/\(∀x v,VRel G e σ w x v->VRel G e σ (w.putObj r (.deferred none)) x v)/\∀(e0:Env) (σ0:St) (w0:World),Later e0 σ0 w0 e σ w->w0.heap.size<=r->Later e0 σ0 w0 e σ (w.putObj r (.deferred none)):=by
 have l0:∀k,k≠r->(w.putObj r (.deferred none)).heap[k]?=w.heap[k]?:=fun k hk=>World.putObj_heap_other hk
 have az:∀b off u,w.cell? ⟨b,off,none⟩=some u->b≠r:=fun b off u hu he=>by
  subst he;simp [World.cell?,hr] at hu
 have hc:∀b off u,w.cell? ⟨b,off,none⟩=some u->(w.putObj r (.deferred none)).cell? ⟨b,off,none⟩=some u:=fun b off u hu=>by
  have:=az b off u hu;simpa [World.cell?,l0 b this] using hu
 have rl:∀(b:Nat) (cs:Array Value) (ty:TypeId) (fz:Nat×Nat),w.heap[b]?=some (Obj.cells cs ty fz)->(w.putObj r (.deferred none)).heap[b]?=some (Obj.cells cs ty fz):=fun b cs ty fz h=>by
  grind
 have hV:∀x v,VRel G e σ w x v->VRel G e σ (w.putObj r (.deferred none)) x v:=fun x v h=>h.world hc rl
 refine ⟨?_,hV,fun e0 σ0 w0 hL xw=>?_⟩
 ·exact {
   inj:=hS.inj
   box:=fun i x hx=>by
    have hi:=(To.1 hx).1;have hB:=hS.box i x hx;have bm:=l0 (e.β i) (hb.1 i hi)
    cases x with
    | cells t cs =>
     obtain ⟨vs,g1,g2,g3⟩:=hB;exact ⟨vs,bm.trans g1,g2,fun k y u hy hu=>⟨hV _ _ (g3 k y u hy hu).1,(g3 k y u hy hu).2⟩⟩
    | iter s p=>exact bm.trans hB
    | loop st pd r=>exact bm.trans hB
    | dmap m=>exact hB.dmapTo bm fun d v hv=>by have q:=hV _ _ (VRel.d (G:=G) d v hv);cases q;assumption
    | smap el m fo =>
     have:=hB.smapTo bm id (fun _=>rfl) (fun _=>rfl) (fun _ _ _ _ hv=>hV _ _ hv) fun b q hq _=>⟨hq,l0 b fun he=>by simp_all⟩
     simp_all
    | map cs bn ck=>exact hB.mapTo bm rfl fun i x y hx hy=>by simp_all
   low:=hS.low
   tkn:=hS.tkn
   own:=fun t ht p hp=>by
    obtain ⟨q1,q2,cs,ty,fz,q3⟩:=hS.own t ht p hp
    grind
   dis:=hS.dis
   xlt:=fun b off hx=>by rw [World.putObj_size];exact hS.xlt b off hx
   hid:=fun b q hq=>by rw [World.putObj_size];exact hS.hid b q hq
   xown:=hS.xown
   glob:=fun b sw=>(l0 b oM).trans (hS.glob b sw)
   big:=by rw [World.putObj_size];grind }
 exact {
  len:=hL.len
  beta:=hL.beta
  X:=hL.X
  pres:=fun b off u hu ho=>let ⟨h1,h2⟩:=hL.pres b off u hu ho;⟨h1,hc b off u h2⟩
  blocks:=fun b aa hn ht hh=>(l0 b oM).trans (hL.blocks b aa hn ht hh)
  fhid:=hL.fhid
  size:=by rw [World.putObj_size];grind
  os:=hL.os
  tape:=hL.tape
  output:=hL.output
  fresh:=hL.fresh
  ftok:=hL.ftok }
theorem VZ {fn:Func} {R:Ending->World->Prop} {u:FrameMode} {e0:Env} {σ0:St} {w0:World} (hu:u≠.run):∀(rs:List Nat) {w:World},rs.Nodup->(∀r,r∈rs->w0.heap.size<=r/\w.heap[r]?=some (.deferred (some []))/\(∀i,i<σ.bx.length->e.β i≠r)/\e.H r=none) ->
  G.nG<=w0.heap.size->SRel G e σ w->FRel G e σ w f tm->Later e0 σ0 w0 e σ w->(∀pv v,VRel G e σ w pv v->∀w',SRel G e σ w'->FRel G e σ w' f tm->Later e0 σ0 w0 e σ w'->VRel G e σ w' pv v->True) ->
  (∀w',(∀x v,VRel G e σ w x v->VRel G e σ w' x v)->SRel G e σ w'->FRel G e σ w' f tm->Later e0 σ0 w0 e σ w'->LeavesIn (fw none) n G.P fn tm R [] u w')->LeavesInM (fw none) n G.P fn tm R (rs.map J5) u w
 | [],w,_,_,_,hS,hF,hL,_,ek=>by
  simp only [TN,LeavesInM]
  simp_all
 | r::rs,w,i6,o8,hG,hS,hF,hL,_,ek=>by
  obtain ⟨h1,h2,h3⟩:=o8 r sM;obtain ⟨hS',hV,ip⟩:=Ztm hS h2 h3 (TP hG h1);simp only [Tx,LeavesInM];refine ⟨hu,.inl ⟨r,_,rfl,run_takeDeferred h2,?_⟩⟩;refine VZ hu rs (List.nodup_cons.1 i6).2 (fun q hq=>?_) hG hS' (fun i=>hV _ _ (hF i)) (ip _ _ _ hL h1) (fun _ _ _ _ _ _ _ _=>trivial) (fun w' hV'=>ek w' fun x v h=>hV' x v (hV x v h));obtain ⟨g1,g2,g3⟩:=o8 q (TF _ hq);have ai:q≠r:=fun e=>(List.nodup_cons.1 i6).1 (e ▸ hq)
  exact ⟨g1,(World.putObj_heap_other ai).trans g2,g3⟩
theorem Zdj (ay:G.P.follows .mixedOrders=true) {g:FuncId} {fn:Func} {c:Code} (hC:CxOK G C none e σ w) (hM:CxMono C.calm) (hf:G.P.funcs[g]?=some fn) (hb:fn.body=some c) (ak:ZG fn.ntmps c=true)
  {args:List PV} {Q:PQ} {K:PEnd->St->Prop} (hlen:args.length<=fn.ntmps) (h:W C c Q (Zck 0 args) σ)
  (hQ:∀(pe:PExit) (f:Frame) (σ':St),Q pe f σ'->match pe with
   | .normal | .ret=>pres C.T f σ'.bx fn.results.toList fun vs=>∀(e':Env) (w':World) (v:Value),SRel G e' σ' w'->VRel G e' σ' w' (Jl vs) v->Later e σ w e' σ' w'->YO G e σ w K (.returned v) w'
   | .panic p=>∀(e':Env) (w':World) (v:Value),SRel G e' σ' w'->VRel G e' σ' w' p v->Later e σ w e' σ' w'->YO G e σ w K (.panicked [{ v:=v,recovered:=false }]) w'
   | _=>False)
  {vs:Array Value} (hS:SRel G e σ w) (ab:ArgsRel G e σ w args vs):CallsIn (fw none) n G.P g vs w (YO G e σ w K):=by
 have hsz:vs.size=args.length:=ab.1;have hF:FRel G e σ w (Zck 0 args) (vs++Array.replicate (fn.ntmps - vs.size) undef):=Zac args 0 fun k x hx=>by
  exact mq30
 have hw:=Zdi (n:=n) (ro:=none) (ds:=(w.heap.size,[],false)) ay c hC hM (fun h=>by cases h) ak [] #[] (YY c) _ (a:={ tmps:=vs++Array.replicate (fn.ntmps - vs.size) undef,defers:=[] }) hS hF (Later.refl e σ w) (by grind) (Marks.nil e σ (Tt _)) (fun i hi=>by cases hi) h;refine callsIn_of_wp_marks hf hb trivial (wpIn_mono hw fun x a' w' hp=>?_);obtain ⟨pe,f',e',σ',hq,hx,h1,h2,h3,h4,⟨_,rs,h5,_,h5n,h5r⟩,h6⟩:=hp;have h5:a'.defers=rs.map J5:=by simp_all
 have jf:=hQ pe f' σ' hq;have o8:∀r,r∈rs->w.heap.size<=r/\w'.heap[r]?=some (.deferred (some []))/\(∀i,i<σ'.bx.length->e'.β i≠r)/\e'.H r=none:=fun r hr=>let ⟨g1,g2,g3,_,g4⟩:=h5r r hr;⟨g1,g2,g3,g4⟩
 have ends:∀(jf:pres C.T f' σ'.bx fn.results.toList fun vs=>∀(e':Env) (w':World) (v:Value),SRel G e' σ' w'->VRel G e' σ' w' (Jl vs) v->Later e σ w e' σ' w'->YO G e σ w K (.returned v) w'),LeavesInM (fw none) n G.P fn a'.tmps (YO G e σ w K) a'.defers .returning w':=fun jf=>by
  rw [h5];refine VZ sM rs h5n o8 hS.big h1 h2 h3 (fun _ _ _ _ _ _ _ _=>trivial) fun w2 _ k1 k2 k3=>?_
  obtain ⟨pvs,v,hl,hr,hv⟩:=XQ hC.tab k1 k2 jf;exact ⟨v,hr,hl e' w2 v k1 hv k3⟩
 cases pe with
 | normal=>obtain rfl:x=.normal:=hx;exact ends jf
 | ret=>obtain rfl:x=.ret:=hx;exact ends jf
 | panic p =>
  obtain ⟨v,rfl,hv⟩:=hx;show LeavesInM (fw none) n G.P fn a'.tmps (YO G e σ w K) a'.defers (.panicking _) w';rw [h5];refine VZ sM rs h5n o8 hS.big h1 h2 h3 (fun _ _ _ _ _ _ _ _=>trivial) fun w2 hV k1 k2 k3=>?_
  exact jf e' w2 v k1 (hV _ _ hv) k3
 | exit id=>simp_all
 | goto l=>simp_all
theorem V0 (ay:G.P.follows .mixedOrders=true) {g:FuncId} {fn:Func} {c:Code} (hC:CxOK G C none e σ w) (hM:CxMono C.calm) (hf:G.P.funcs[g]?=some fn) (hb:fn.body=some c) (ak:ZG fn.ntmps c=true)
  {ag:Bool} {keep:Nat} {own:Bool} {args:List PV} {R:PEnd->St->Prop} (hk:σ.bx.length<=keep) (hlen:args.length<=fn.ntmps) (h:WFG ag C fn keep own args σ R) {vs:Array Value} (hS:SRel G e σ w) (ab:ArgsRel G e σ w args vs) :
  CallsIn (fw none) n G.P g vs w (YO G e σ w R):=by
 have zo:Y8 fn=c:=by simp [Y8,hb]
 unfold WFG at h
 rw [zo] at h;have presM:∀{T:Tab} {f:Frame} {bx:List Box} {l:List ResultVar} {K K':List PV->Prop},(∀vs,K vs->K' vs)->pres T f bx l K->pres T f bx l K':=by
  intro T f bx l
  induction l with
  | nil=>exact fun hK h=>hK _ h
  | cons r l ih =>
  intro K K' hK h
  exact mq92
 refine Zdj ay hC hM hf hb ak hlen h (fun pe f' σ' hq=>?_) hS ab;have fin:∀{pv:PV} {p:PV->PEnd} {en:Value->Ending},(∀(pv:PV) (e:Env) (σ:St) (w:World) v,VRel G e σ w pv v->Zpk G e σ w (p pv) (en v))->(Zfh ag keep own pv σ' fun v σ''=>R (p v) σ'')->∀(e':Env) (w':World) (v:Value),SRel G e' σ' w'->VRel G e' σ' w' pv v->Later e σ w e' σ' w'->YO G e σ w R (en v) w':=fun {pv p en} hpe hl e' w' v hS' hv hL=>by
  obtain ⟨pv',σ'',e'',hK,hv',adk,adl⟩:=X4 hS' hL hk hv hl;exact ⟨p pv',σ'',e'',hK,hpe _ _ _ _ _ hv',adk,adl⟩
 cases pe with
 | normal=>exact presM (fun vs hl=>fin (p:=.ret) (en:=.returned) (fun _ _ _ _ v h=>⟨v,rfl,h⟩) hl) hq
 | ret=>exact presM (fun vs hl=>fin (p:=.ret) (en:=.returned) (fun _ _ _ _ v h=>⟨v,rfl,h⟩) hl) hq
 | panic p=>exact fin (p:=.panic) (en:=fun v=>.panicked [{ v:=v,recovered:=false }]) (fun _ _ _ _ v h=>⟨v,rfl,h⟩) hq
 | exit id=>trivial
 | goto l=>trivial
end
end Go.PM
end

section
namespace Go.PM
mutual
def ZwV:PV->List Nat->List Nat
 | .ptr b _,acc=>match ZhY b acc with | true=>acc | false=>acc++[b]
 | .asl b _ _,acc=>match ZhY b acc with | true=>acc | false=>acc++[b]
 | .mp b,acc=>match ZhY b acc with | true=>acc | false=>acc++[b]
 | .func _ a c,acc=>ZeO c (ZeO a acc)
 | .iface _ v,acc=>ZwV v acc
 | .agg cs,acc=>ZeO cs acc
 | .tuple vs,acc=>ZeO vs acc
 | _,acc=>acc
def ZeO:List PV->List Nat->List Nat
 | [],acc=>acc
 | v::l,acc=>ZeO l (ZwV v acc)
end
def Zfu (bx:List Box):Nat->Nat->List Nat->List Nat
 | 0,_,acc=>acc
 | n+1,i,acc=>match acc[i]? with
  | none=>acc
  | some b=>match bx[b]? with
   | some (.cells _ cs)=>Zfu bx n (i+1) (ZeO cs acc)
   | some (.map cs _ _)=>Zfu bx n (i+1) (ZeO cs acc)
   | _=>Zfu bx n (i+1) acc
def ZnH:List PV->List Nat->(List Nat->Prop)->Prop
 | [],acc,K=>K acc
 | v::l,acc,K=>ZcV (ZwV v acc) fun acc=>ZnH l acc K
def Zfv (bx:List Box):Nat->Nat->List Nat->(List Nat->Prop)->Prop
 | 0,_,acc,K=>K acc
 | n+1,i,acc,K=>match acc[i]? with
  | none=>K acc
  | some b=>match bx[b]? with
   | some (.cells _ cs)=>ZnH cs acc fun acc=>Zfv bx n (i+1) acc K
   | some (.map cs _ _)=>ZnH cs acc fun acc=>Zfv bx n (i+1) acc K
   | _=>Zfv bx n (i+1) acc K
def Zcq {K:List Nat->Prop}:∀(l:List PV) (acc:List Nat),ZnH l acc K=K (ZeO l acc)
 | [],_=>rfl
 | v::l,acc=>by simp only [ZnH,ZeO,WN,Zcq l]
def Zdk {bx:List Box} {K:List Nat->Prop}:∀(n i:Nat) (acc:List Nat),Zfv bx n i acc K=K (Zfu bx n i acc)
 | 0,_,_=>rfl
 | n+1,i,acc=>by
  unfold Zfv Zfu
  split
  ·rfl
  split <;> simp only [Zcq,Zdk n]
def ZeP (b:Nat):List Nat->Nat->Option Nat
 | [],_=>none
 | x::l,i=>match Nat.beq x b with | true=>some i | false=>ZeP b l (i+1)
def Ziq:List Nat->Bool
 | []=>true
 | x::l=>match ZhY x l with | true=>false | false=>Ziq l
mutual
def ZpI (bs:List Nat):PV->PV
 | .ptr b o=>match ZeP b bs 0 with | some i=>.ptr i o | none=>.undef
 | .asl b o n=>match ZeP b bs 0 with | some i=>.asl i o n | none=>.undef
 | .func f a c=>.func f (Zkf bs a) (Zkf bs c)
 | .iface t v=>.iface t (ZpI bs v)
 | .agg cs=>.agg (Zkf bs cs)
 | .tuple vs=>.tuple (Zkf bs vs)
 | .d x=>.d x
 | .undef=>.undef
 | .elem r o=>.elem r o
 | .sl t e rows=>.sl t e rows
 | .nils e=>.nils e
 | .raw v=>.raw v
 | .mp b=>match ZeP b bs 0 with | some i=>.mp i | none=>.undef
 | .nilm=>.nilm
def Zkf (bs:List Nat):List PV->List PV
 | []=>[]
 | v::l=>ZpI bs v::Zkf bs l
end
def ZoX (bs:List Nat) (bx:List Box):List Nat->(List Box->Prop)->Prop
 | [],K=>K []
 | b::l,K=>match bx[b]? with
  | some (.cells t cs)=>ZoX bs bx l fun r=>K (.cells t (Zkf bs cs)::r)
  | some (.iter s p)=>ZoX bs bx l fun r=>K (.iter s p::r)
  | some (.map cs bn ck)=>ZoX bs bx l fun r=>K (.map (Zkf bs cs) bn ck::r)
  | some (.dmap m)=>ZoX bs bx l fun r=>K (.dmap m::r)
  | some (.smap el m none)=>ZoX bs bx l fun r=>K (.smap el m none::r)
  | some (.smap _ _ (some _))=>False
  | some (.loop _ _ _)=>False
  | none=>False
mutual
def Zdl (bs:List Nat) (m L nx:Nat):PV->PV
 | .ptr i o=>match bs[i]? with | some b=>.ptr b o | none=>.ptr (L+(i - m)) o
 | .asl i o n=>match bs[i]? with | some b=>.asl b o n | none=>.asl (L+(i - m)) o n
 | .sl t e rows=>.sl (nx+t) e rows
 | .func f a c=>.func f (Zb7 bs m L nx a) (Zb7 bs m L nx c)
 | .iface t v=>.iface t (Zdl bs m L nx v)
 | .agg cs=>.agg (Zb7 bs m L nx cs)
 | .tuple vs=>.tuple (Zb7 bs m L nx vs)
 | .d x=>.d x
 | .undef=>.undef
 | .elem r o=>.elem r o
 | .nils e=>.nils e
 | .raw v=>.raw v
 | .mp i=>match bs[i]? with | some b=>.mp b | none=>.mp (L+(i - m))
 | .nilm=>.nilm
def Zb7 (bs:List Nat) (m L nx:Nat):List PV->List PV
 | []=>[]
 | v::l=>Zdl bs m L nx v::Zb7 bs m L nx l
end
def Zdm (bs:List Nat) (m L nx:Nat):Box->Box
 | .cells t cs=>.cells t (Zb7 bs m L nx cs)
 | .iter s p=>.iter s p
 | .loop st pd r=>.loop st pd r
 | .map cs bn ck=>.map (Zb7 bs m L nx cs) bn ck
 | .dmap c=>.dmap c
 | .smap el c fo=>.smap el c (fo.map fun kv=>(kv.1,Zdl bs m L nx kv.2))
def ZgG (bb:Box->Box):List Nat->List Box->List Box->(List Box->Prop)->Prop
 | [],xs,acc,K=>K (acc++xs.map bb)
 | b::l,x::xs,acc,K=>ZgG bb l xs (acc.set b (bb x)) K
 | _::_,[],_,_=>False
def ZwW (bs:List Nat) (m L nx:Nat):PEnd->PEnd
 | .ret v=>.ret (Zdl bs m L nx v)
 | .panic v=>.panic (Zdl bs m L nx v)
def Zad (md:Nat) (sp:Zh) (args:List PV) (σ:St) (K:PEnd->St->Prop):Prop :=
 ZnH args [] fun a=>Zfv σ.bx (σ.bx.length+1) 0 a fun bs=>ZcV bs fun bs=>match Ziq bs with
 | true=>ZoX bs σ.bx bs fun cb=>Zs6 md bs.length (Zkf bs args) σ.tk 0 fun args' tk k=>Zfd bs.length bs.length cb tk k fun cb' rest k =>
   sp args' ⟨cb',toks k,k⟩ fun pe σ3=>ZgG (Zdm bs bs.length σ.bx.length σ.nx) bs σ3.bx σ.bx fun bx =>
    K (ZwW bs bs.length σ.bx.length σ.nx pe) ⟨bx,rest++σ3.tk.map (σ.nx+·),σ.nx+σ3.nx⟩
 | false=>False
abbrev Zkg (sp:Zh) (args:List PV) (σ:St) (K:PEnd->St->Prop):Prop:=Zad 0 sp args σ K
theorem Jx:∀{l:List Nat},Ziq l=true->∀(i j b:Nat),l[i]?=some b->l[j]?=some b->i=j
 | [],_,i,j,b,h,_=>by simp at h
 | x::l,h,i,j,b,hi,hj=>by
  simp only [Ziq] at h;split at h
  ·cases h
  rename_i hm
  have hx:∀k:Nat,l[k]?≠some x:=fun k hk=>by
   have:=(Yq x l).2 (TW hk)
   simp_all
  cases i with
  | zero =>
   grind
  | succ i =>
  cases j with
  | zero=>simp_all
  | succ j=>simp at hi hj;rw [Jx h i j b hi hj]
theorem Zfw {b:Nat}:∀{l:List Nat} {i j:Nat},ZeP b l i=some j->i<=j/\l[j - i]?=some b
 | [],i,j,h=>by trivial
 | x::l,i,j,h=>by
  simp only [ZeP] at h;split at h
  ·simp_all
  obtain ⟨h1,h2⟩:=Zfw h
  grind
theorem Wl {bs:List Nat}:∀{l:List PV} (i:Nat) (y:PV),(Zkf bs l)[i]?=some y->∃x,l[i]?=some x/\y=ZpI bs x
 | [],i,y,h=>by trivial
 | x::l,i,y,h=>by
  cases i with
  | zero=>simp [Zkf] at h;simp_all
  | succ i=>simp only [Zkf,TZ] at h;obtain ⟨z,h1,h2⟩:=Wl i y h;simp_all
def YE {bs:List Nat}:∀{l:List PV},(Zkf bs l).length=l.length
 | []=>rfl
 | x::l=>by simp [Zkf,YE]
theorem X5 {bs:List Nat} {m L nx:Nat}:∀{l:List PV} (i:Nat) (y:PV),(Zb7 bs m L nx l)[i]?=some y->∃x,l[i]?=some x/\y=Zdl bs m L nx x
 | [],i,y,h=>by trivial
 | x::l,i,y,h=>by
  cases i with
  | zero=>simp [Zb7] at h;simp_all
  | succ i=>simp only [Zb7,TZ] at h;obtain ⟨z,h1,h2⟩:=X5 i y h;simp_all
def YF {bs:List Nat} {m L nx:Nat}:∀{l:List PV},(Zb7 bs m L nx l).length=l.length
 | []=>rfl
 | x::l=>by simp [Zb7,YF]
def ZvX (bs:List Nat):Box->Box
 | .cells t cs=>.cells t (Zkf bs cs)
 | .iter s p=>.iter s p
 | .loop st pd r=>.loop st pd r
 | .map cs bn ck=>.map (Zkf bs cs) bn ck
 | .dmap m=>.dmap m
 | .smap el m fo=>.smap el m (fo.map fun kv=>(kv.1,ZpI bs kv.2))
theorem Zkh {bs:List Nat} {bx:List Box}:∀{l:List Nat} {K:List Box->Prop},ZoX bs bx l K->∃cb,K cb/\cb.length=l.length/\∀(j b:Nat),l[j]?=some b->∃x,bx[b]?=some x/\cb[j]?=some (ZvX bs x)
 | [],K,h=>⟨[],h,rfl,fun j b hj=>by simp at hj⟩
 | b::l,K,h=>by
  simp only [ZoX] at h;split at h
  all_goals first
   | exact h.elim
   | (rename_i hb
      obtain ⟨cb,h1,h2,h3⟩:=Zkh h;refine ⟨_,h1,by simp [h2],fun j b' hj=>?_⟩
      cases j with
      | zero=>simp at hj;subst hj;exact ⟨_,hb,rfl⟩
      | succ j=>simp_all)
theorem ZlP {bb:Box->Box}:∀{bs:List Nat} {xs acc:List Box} {K:List Box->Prop},(∀(i j b:Nat),bs[i]?=some b->bs[j]?=some b->i=j)->(∀b,b∈bs->b<acc.length)->ZgG bb bs xs acc K ->
  ∃r,K r/\bs.length<=xs.length/\r.length=acc.length+(xs.length - bs.length)/\(∀(j b:Nat) (x:Box),bs[j]?=some b->xs[j]?=some x->r[b]?=some (bb x))/\(∀i,i<acc.length->i∉bs->r[i]?=acc[i]?) /\
   ∀i,acc.length<=i->r[i]?=xs[bs.length+(i - acc.length)]?.map bb
 | [],xs,acc,K,hn,hl,h=>⟨_,h,sM,sM,fun j b x hj=>by simp at hj,fun i hi _=>by grind,fun i hi=>by grind⟩
 | b::bs,x::xs,acc,K,hn,hl,h=>by
  simp only [ZgG] at h;have aa:b<acc.length:=hl b sM;obtain ⟨r,h1,h2,h3,h4,h5,h6⟩:=ZlP (bs:=bs) (fun i j c hi hj=>by have:=hn (i+1) (j+1) c (by simp_all) (by simp_all);omega) (fun c hc=>by simp_all) h;have si:b∉bs:=fun hm=>by
   obtain ⟨k,hk,hke⟩:=T5 hm;have:=hn 0 (k+1) b sM (by grind);omega
  grind
 | b::bs,[],acc,K,hn,hl,h=>h.elim
section
variable {G:GE} {e:Env} {σ:St} {w:World}
def ZgH (e:Env) (σ:St) (bs rest:List Nat) (b off:Nat):Prop :=
 e.X b off\/(∃i,i<σ.bx.length/\i∉bs/\e.β i=b)\/(∃t,t∈rest/\∃p,e.M t=some p/\p.1=b/\p.2<=off)\/∃q,e.H b=some q/\q.2<=off/\∀i,i∈bs->e.β i≠q.1.1
open Classical in
def Zki (e:Env) (bs:List Nat) (b:Nat):Option ((Nat×List UInt8)×Nat):=match e.H b with
 | none=>none
 | some q=>if ∃i,i∈bs/\e.β i=q.1.1 then some q else none
theorem handH_iff {e:Env} {bs:List Nat} {b:Nat} {q:(Nat×List UInt8)×Nat}:Zki e bs b=some q↔e.H b=some q/\∃i,i∈bs/\e.β i=q.1.1:=by
 unfold Zki
 cases h:e.H b with
 | none=>simp
 | some r =>
 simp only;split
 ·grind
 grind
def Env.handed (e:Env) (σ:St) (bs rest:List Nat):Env:=⟨fun j=>e.β (bs.getD j 0),e.M,ZgH e σ bs rest,Zki e bs⟩
structure Hand (σ:St) (bs rest pass:List Nat) (cb:List Box):Prop where
 nodup:∀(i j b:Nat),bs[i]?=some b->bs[j]?=some b->i=j
 len:cb.length=bs.length
 get:∀(j b:Nat),bs[j]?=some b->∃x,σ.bx[b]?=some x/\cb[j]?=some (ZvX bs x)
 restIn:∀t,t∈rest->t∈σ.tk
 passIn:∀t,t∈pass->t∈σ.tk/\t∉rest
variable {bs rest pass:List Nat} {cb:List Box}
theorem Hand.lt (h:Hand σ bs rest pass cb) {b:Nat} (hb:b∈bs):b<σ.bx.length:=by
 obtain ⟨k,hk,he⟩:=T5 hb;obtain ⟨x,hx,_⟩:=h.get k b (by simp_all)
 grind
def Hand.at (h:Hand σ bs rest pass cb) {j:Nat} (hj:j<bs.length):∃b,bs[j]?=some b/\b∈bs/\(e.handed σ bs rest).β j=e.β b:=by
 have:=Ta hj;exact ⟨bs[j],this,TA hj,by simp [Env.handed,this]⟩
def ZlQ (hS:SRel G e σ w) (h:Hand σ bs rest pass cb) {b off:Nat} (ho:okc e σ b off):okc (e.handed σ bs rest) ⟨cb,pass,σ.nx⟩ b off:=by
 refine ⟨fun hX=>?_,fun j hj=>?_,fun t ht p hp uh=>ho.2.2.1 t (h.passIn t ht).1 p hp uh,fun q hq=>ho.2.2.2 q (handH_iff.1 hq).1⟩
 ·rcases hX with hX | ⟨i,h1,_,h2⟩ | ⟨t,h1,p,h2,h3,h4⟩ | ⟨q,h1,h2,_⟩
  ·exact ho.1 hX
  ·exact ho.2.1 i h1 h2
  ·have:=ho.2.2.1 t (h.restIn t h1) p h2 h3;omega
  have:=ho.2.2.2 q h1;omega
 obtain ⟨b',h1,h2,h3⟩:=h.at (e:=e) (show j<bs.length by rw [<- h.len];exact hj);rw [h3];exact ho.2.1 b' (h.lt h2)
theorem VRel.ren (hS:SRel G e σ w) (h:Hand σ bs rest pass cb) {x:PV} {v:Value} (hv:VRel G e σ w x v):VRel G (e.handed σ bs rest) ⟨cb,pass,σ.nx⟩ w (ZpI bs x) v:=by
 have hd:∀{x:D} {v:Value},DRel (okc e σ) w x v->DRel (okc (e.handed σ bs rest) ⟨cb,pass,σ.nx⟩) w x v:=fun hd=>hd.mono fun b off u hu ho=>⟨ZlQ hS h ho,hu⟩
 have at':∀b i,ZeP b bs 0=some i->(e.handed σ bs rest).β i=e.β b/\i<cb.length:=fun b i hi=>by
  obtain ⟨_,h2⟩:=Zfw hi;simp only [Nat.sub_zero] at h2;exact ⟨by simp [Env.handed,h2],by rw [h.len];grind⟩
 induction hv with
 | d x v hx=>exact .d _ _ (hd hx)
 | undef v=>exact .undef _
 | ptr b off hb =>
  simp only [ZpI]
  cases hi:ZeP b bs 0 with
  | none=>exact .undef _
  | some i =>
  obtain ⟨h1,h2⟩:=at' b i hi;rw [<- h1];exact .ptr i off h2
 | asl b off n hb =>
  simp only [ZpI]
  cases hi:ZeP b bs 0 with
  | none=>exact .undef _
  | some i =>
  obtain ⟨h1,h2⟩:=at' b i hi;rw [<- h1];exact .asl i off n h2
 | mp b hb =>
  simp only [ZpI]
  cases hi:ZeP b bs 0 with
  | none=>exact .undef _
  | some i =>
  obtain ⟨h1,h2⟩:=at' b i hi;rw [<- h1];exact .mp i h2
 | nilm=>exact .nilm
 | elem r off b o u hc ho hu=>exact .elem r off b o u hc (fun j hj=>ZlQ hS h (ho j hj)) (fun j x hx=>hd (hu j x hx))
 | sl t el rows v hn oh ht=>exact .sl t el rows v hn (hd oh) fun hp=>ht (h.passIn t hp).1
 | nils el=>exact .nils el
 | func f a c va vc ha hc _ _ ih1 ih2 =>
  refine .func f _ _ va vc (by rw [YE];exact ha) (by rw [YE];exact hc) (fun i y u hy hu=>?_) (fun i y u hy hu=>?_)
  ·obtain ⟨x,hx,rfl⟩:=Wl i y hy;grind
  obtain ⟨x,hx,rfl⟩:=Wl i y hy;grind
 | iface t x v _ ih=>exact .iface t _ v ih
 | agg cs vs hs _ h1 ih=>exact .agg _ vs (by rw [YE];exact hs) (fun i y u hy hu=>by obtain ⟨x,hx,rfl⟩:=Wl i y hy;grind) h1
 | tuple cs vs hs _ ih=>exact .tuple _ vs (by rw [YE];exact hs) (fun i y u hy hu=>by obtain ⟨x,hx,rfl⟩:=Wl i y hy;grind)
 | raw v=>exact .raw _
theorem SRel.ren (hS:SRel G e σ w) (h:Hand σ bs rest pass cb):SRel G (e.handed σ bs rest) ⟨cb,pass,σ.nx⟩ w where
 inj:=fun i j hi hj he=>by
  obtain ⟨b,h1,h2,h3⟩:=h.at (e:=e) (show i<bs.length by rw [<- h.len];exact hi);obtain ⟨b',oy,dw,ew⟩:=h.at (e:=e) (show j<bs.length by rw [<- h.len];exact hj);rw [h3,ew] at he;have:=hS.inj b b' (h.lt h2) (h.lt dw) he;subst this;exact h.nodup i j b h1 oy
 box:=fun j y hy=>by
  have hj:=(To.1 hy).1;obtain ⟨b,h1,h2,h3⟩:=h.at (e:=e) (show j<bs.length by rw [<- h.len];exact hj);obtain ⟨x,hx,hcb⟩:=h.get j b h1;simp only at hy;rw [hcb] at hy
  cases hy
  have hB:=hS.box b x hx;rw [h3]
  cases x with
  | cells t cs =>
   obtain ⟨vs,g1,g2,g3⟩:=hB;refine ⟨vs,g1,by rw [YE];exact g2,fun i y u hy hu=>?_⟩;obtain ⟨z,hz,rfl⟩:=Wl i y hy;exact ⟨(g3 i z u hz hu).1.ren hS h,(g3 i z u hz hu).2⟩
  | iter s p=>exact hB
  | loop st pd r=>exact hB
  | dmap m=>exact hB.dmapTo rfl fun d v hv=>by have q:VRel G _ _ _ (.d d) v:=(VRel.d (G:=G) d v hv).ren hS h;cases q;assumption
  | smap el m fo=>exact hB.smapTo rfl (ZpI bs) (fun _=>rfl) (fun _=>rfl) (fun _ _ _ _ hv=>hv.ren hS h) fun b' q hq o7=>⟨handH_iff.2 ⟨hq,b,h2,o7.symm⟩,rfl⟩
  | map cs bn ck=>exact hB.mapTo rfl YE fun i x y hx hy=>by obtain ⟨z,hz,rfl⟩:=Wl i y hy;rw [hx] at hz;cases hz;exact ⟨fun v hv=>hv.ren hS h,fun d hd=>by subst hd;rfl⟩
 low:=fun j hj=>by
  obtain ⟨b,h1,h2,h3⟩:=h.at (e:=e) (show j<bs.length by rw [<- h.len];exact hj);rw [h3];exact hS.low b (h.lt h2)
 tkn:=fun t ht=>hS.tkn t (h.passIn t ht).1
 own:=fun t ht p hp=>by
  obtain ⟨h1,h2,h3⟩:=hS.own t (h.passIn t ht).1 p hp;refine ⟨h1,fun j hj=>?_,h3⟩;obtain ⟨b,g1,g2,g3⟩:=h.at (e:=e) (show j<bs.length by rw [<- h.len];exact hj);rw [g3];exact h2 b (h.lt g2)
 dis:=fun t t' ht pb=>hS.dis t t' (h.passIn t ht).1 (h.passIn t' pb).1
 xlt:=fun b off hX=>by
  rcases hX with hX | ⟨i,h1,_,h2⟩ | ⟨t,h1,p,h2,h3,h4⟩ | ⟨q,h1,_⟩
  ·exact hS.xlt b off hX
  ·rw [<- h2];exact hS.lt h1
  ·obtain ⟨_,_,cs,ty,fz,hh⟩:=hS.own t (h.restIn t h1) p h2
   grind
  exact (hS.hid _ _ h1).2.1
 xown:=fun t ht p hp off km hX=>by
  rcases hX with hX | ⟨i,h1,_,h2⟩ | ⟨t',h1,p',h2,h3,h4⟩ | ⟨q,h1,_⟩
  ·exact hS.xown t (h.passIn t ht).1 p hp off km hX
  ·exact (hS.own t (h.passIn t ht).1 p hp).2.1 i h1 h2
  ·exact hS.dis t' t (h.restIn t' h1) (h.passIn t ht).1 (fun e=>(h.passIn t ht).2 (e ▸ h1)) p' p h2 hp h3
  exact (hS.hid _ _ h1).2.2.2.1 t (h.passIn t ht).1 p hp rfl
 hid:=fun b q hq=>by
  obtain ⟨g0,i0,gi,gb⟩:=handH_iff.1 hq;obtain ⟨k1,k2,k3,k4,k5⟩:=hS.hid b q g0;refine ⟨k1,k2,fun j hj=>?_,fun t ht=>k4 t (h.passIn t ht).1,fun off km hX=>?_⟩
  ·obtain ⟨b',g1,g2,g3⟩:=h.at (e:=e) (show j<bs.length by rw [<- h.len];exact hj);rw [g3];exact k3 b' (h.lt g2)
  rcases hX with hX | ⟨i,h1,_,h2⟩ | ⟨t',h1,p',h2,h3,h4⟩ | ⟨q',h1,_,h3⟩
  ·simp_all
  ·simp_all
  ·exact k4 t' (h.restIn t' h1) p' h2 h3
  simp_all
 glob:=hS.glob
 big:=hS.big
open Classical in
def Zir (e:Env) (bs:List Nat) (e3:Env) (b:Nat):Option ((Nat×List UInt8)×Nat):=match e3.H b with
 | some q=>some q
 | none=>match e.H b with
  | none=>none
  | some q=>if ∃i,i∈bs/\e.β i=q.1.1 then none else some q
theorem Za5 {e:Env} {bs:List Nat} {e3:Env} {b:Nat} {q:(Nat×List UInt8)×Nat} (h:Zir e bs e3 b=some q):e3.H b=some q\/(e3.H b=none/\e.H b=some q/\∀i,i∈bs->e.β i≠q.1.1):=by
 unfold Zir at h
 split at h
 ·simp_all
 rename_i hr
 split at h
 ·cases h
 rename_i r he
 split at h
 ·cases h
 simp_all
def ZpJ {e:Env} {bs:List Nat} {e3:Env} {b:Nat} {q:(Nat×List UInt8)×Nat} (h:e3.H b=some q):Zir e bs e3 b=some q:=by
 unfold Zir;rw [h]
theorem ZpK {e:Env} {bs:List Nat} {e3:Env} {b:Nat} {q:(Nat×List UInt8)×Nat} (h:e3.H b=none) (h2:e.H b=some q) (h3:∀i,i∈bs->e.β i≠q.1.1):Zir e bs e3 b=some q:=by
 unfold Zir;simp_all
def Env.back (e:Env) (bs:List Nat) (L m nx:Nat) (e3:Env):Env:=⟨fun i=>if i<L then e.β i else e3.β (m+(i - L)),fun t=>if t<nx then e.M t else e3.M (t - nx),e.X,Zir e bs e3⟩
structure Handed (e:Env) (σ:St) (w:World) (bs rest:List Nat) (e2:Env) (σ2:St):Prop where
 nodup:∀(i j b:Nat),bs[i]?=some b->bs[j]?=some b->i=j
 lt:∀b,b∈bs->b<σ.bx.length
 len:σ2.bx.length=bs.length
 beta:∀(j b:Nat),bs[j]?=some b->e2.β j=e.β b
 X:e2.X=ZgH e σ bs rest
 H:e2.H=Zki e bs
 okc:∀b off,okc e σ b off->okc e2 σ2 b off
 tok:∀t,t∈σ2.tk->∀p,e2.M t=some p->∃t0,t0∈σ.tk/\t0∉rest/\e.M t0=some p
 restIn:∀t,t∈rest->t∈σ.tk
def Handed.hnone {e2:Env} {σ2:St} (h:Handed e σ w bs rest e2 σ2) {b:Nat} (hb:e.H b=none):e2.H b=none:=by
 rw [h.H]
 cases hq:Zki e bs b with
 | none=>rfl
 | some q=>rw [(handH_iff.1 hq).1] at hb;cases hb
def SRel.tokH (hS:SRel G e σ w) {t:Nat} (ht:t∈σ.tk) {p:Nat×Nat} (hp:e.M t=some p):e.H p.1=none:=by
 cases hq:e.H p.1 with
 | none=>rfl
 | some q=>exact absurd rfl ((hS.hid _ _ hq).2.2.2.1 t ht p hp)
variable {e2 e3:Env} {σ2 σ3:St} {w':World} {bx:List Box}
structure Backed (σ:St) (bs:List Nat) (σ3:St) (bx:List Box):Prop where
 le:bs.length<=σ3.bx.length
 len:bx.length=σ.bx.length+(σ3.bx.length - bs.length)
 some:∀(j b:Nat) (x:Box),bs[j]?=some b->σ3.bx[j]?=some x->bx[b]?=some (Zdm bs bs.length σ.bx.length σ.nx x)
 old:∀i,i<σ.bx.length->i∉bs->bx[i]?=σ.bx[i]?
 new:∀i,σ.bx.length<=i->bx[i]?=σ3.bx[bs.length+(i - σ.bx.length)]?.map (Zdm bs bs.length σ.bx.length σ.nx)
abbrev Jb (σ:St) (rest:List Nat) (σ3:St) (bx:List Box):St:=⟨bx,rest++σ3.tk.map (σ.nx+·),σ.nx+σ3.nx⟩
theorem Z9 {t:Nat} (hS:SRel G e σ w) (h:Handed e σ w bs rest e2 σ2) (ht:t∈(Jb σ rest σ3 bx).tk):(t∈rest/\t<σ.nx)\/∃t',t'∈σ3.tk/\t=σ.nx+t':=by
 rcases Tw.1 ht with h1 | h1
 ·exact .inl ⟨h1,hS.tkn t (h.restIn t h1)⟩
 grind
def Ym {L m nx t:Nat} (h:t<nx):(e.back bs L m nx e3).M t=e.M t:=by simp [Env.back,h]
def back_M_new {L m nx t:Nat}:(e.back bs L m nx e3).M (nx+t)=e3.M t:=by
 have:¬nx+t<nx:=oM;simp [Env.back,this]
def Z1 {L m nx i:Nat} (h:i<L):(e.back bs L m nx e3).β i=e.β i:=by simp [Env.back,h]
def WT {L m nx i:Nat} (h:L<=i):(e.back bs L m nx e3).β i=e3.β (m+(i - L)):=by
 have:¬i<L:=oM;simp [Env.back,this]
theorem ZgI (h:Handed e σ w bs rest e2 σ2) (hL:Later e2 σ2 w e3 σ3 w') {i:Nat} (hi:i<σ.bx.length):(∃j,j<σ2.bx.length/\bs[j]?=some i/\e3.β j=e.β i)\/(i∉bs/\∀off,e3.X (e.β i) off):=by
 by_cases hm:i∈bs
 ·obtain ⟨j,hj,he⟩:=T5 hm;have hb:bs[j]?=some i:=by simp_all
  have uc:j<σ2.bx.length:=by rw [h.len];exact hj
  exact .inl ⟨j,uc,hb,(hL.beta j uc).trans (h.beta j i hb)⟩
 exact .inr ⟨hm,fun off=>hL.X _ _ (by rw [h.X];exact .inr (.inl ⟨i,hi,hm,rfl⟩))⟩
def ZgJ (hS:SRel G e σ w) (h:Handed e σ w bs rest e2 σ2) (hL:Later e2 σ2 w e3 σ3 w') (hb:Backed σ bs σ3 bx) {b off:Nat} (ho:okc e3 σ3 b off) :
  okc (e.back bs σ.bx.length bs.length σ.nx e3) (Jb σ rest σ3 bx) b off:=by
 have hX:¬ZgH e σ bs rest b off:=fun hk=>ho.1 (hL.X _ _ (by rw [h.X];exact hk))
 refine ⟨fun hx=>hX (.inl hx),fun i hi=>?_,fun t ht p hp uh=>?_,fun q hq=>?_⟩
 ·by_cases aa:i<σ.bx.length
  ·rw [Z1 aa];rcases ZgI h hL aa with ⟨j,hj,_,he⟩ | ⟨_,hx⟩
   ·rw [<- he];exact ho.2.1 j (TC hj hL.len)
   intro e;rw [<- e] at ho;exact ho.1 (hx off)
  rw [WT oM];have hlen:=hb.len;have aw:=hb.le;simp only at hi;exact ho.2.1 _ oM
 ·rcases Z9 hS h ht with ⟨h1,h2⟩ | ⟨t',h1,rfl⟩
  ·rw [Ym h2] at hp;have:¬p.2<=off:=fun aw=>hX (.inr (.inr (.inl ⟨t,h1,p,hp,uh,aw⟩)))
   omega
  rw [back_M_new] at hp;exact ho.2.2.1 t' h1 p hp uh
 rcases Za5 hq with h1 | ⟨_,h1,h2⟩
 ·exact ho.2.2.2 q h1
 have:¬q.2<=off:=fun aw=>hX (.inr (.inr (.inr ⟨q,h1,aw,h2⟩)))
 omega
theorem VRel.back (hS:SRel G e σ w) (h:Handed e σ w bs rest e2 σ2) (hL:Later e2 σ2 w e3 σ3 w') (hb:Backed σ bs σ3 bx) {x:PV} {v:Value} (hv:VRel G e3 σ3 w' x v) :
  VRel G (e.back bs σ.bx.length bs.length σ.nx e3) (Jb σ rest σ3 bx) w' (Zdl bs bs.length σ.bx.length σ.nx x) v:=by
 have hd:∀{x:D} {v:Value},DRel (okc e3 σ3) w' x v->DRel (okc (e.back bs σ.bx.length bs.length σ.nx e3) (Jb σ rest σ3 bx)) w' x v:=fun hd=>hd.mono fun b off u hu ho=>⟨ZgJ hS h hL hb ho,hu⟩
 have bk:∀i,i<σ3.bx.length->e3.β i=(e.back bs σ.bx.length bs.length σ.nx e3).β (match bs[i]? with | some b=>b | none=>σ.bx.length+(i - bs.length))/\(match bs[i]? with | some b=>b | none=>σ.bx.length+(i - bs.length))<bx.length:=fun i hi=>by
  have hlen:=hb.len;have aw:=hb.le
  cases iu:bs[i]? with
  | some b =>
   have hj:=(To.1 iu).1;have aa:=h.lt b (TW iu);refine ⟨?_,by grind⟩;rw [Z1 aa];exact (hL.beta i (by rw [h.len];exact hj)).trans (h.beta i b iu)
  | none =>
  have ey:bs.length<=i:=by simp_all
  show e3.β i=(e.back bs σ.bx.length bs.length σ.nx e3).β (σ.bx.length+(i - bs.length))/\σ.bx.length+(i - bs.length)<bx.length;refine ⟨?_,oM⟩;rw [WT oM];simp_all
 induction hv with
 | d x v hx=>exact .d _ _ (hd hx)
 | undef v=>exact .undef _
 | ptr i off hi =>
  obtain ⟨h1,h2⟩:=bk i hi;simp only [Zdl]
  cases iu:bs[i]? <;> rw [iu] at h1 h2 <;> (rw [h1];exact .ptr _ off h2)
 | asl i off n hi =>
  obtain ⟨h1,h2⟩:=bk i hi;simp only [Zdl]
  cases iu:bs[i]? <;> rw [iu] at h1 h2 <;> (rw [h1];exact .asl _ off n h2)
 | mp i hi =>
  obtain ⟨h1,h2⟩:=bk i hi;simp only [Zdl]
  cases iu:bs[i]? <;> rw [iu] at h1 h2 <;> (rw [h1];exact .mp _ h2)
 | nilm=>exact .nilm
 | elem r off b o u hc ho hu=>exact .elem r off b o u hc (fun j hj=>ZgJ hS h hL hb (ho j hj)) (fun j x hx=>hd (hu j x hx))
 | sl t el rows v hn oh ht =>
  refine .sl _ el rows v (by simp_all) (hd oh) fun hp=>?_
  rcases Z9 hS h hp with ⟨_,h2⟩ | ⟨t',h1,h2⟩
  ·omega
  obtain rfl:t=t':=by omega
  rcases ht h1 with ⟨g1,g2,g3⟩ | ⟨sz,g1,g2,g3,b,off,cap,cs,ty,fz,g4,g5,g6,g7,g8,g9,g10⟩
  ·exact .inl ⟨g1,g2,back_M_new.trans g3⟩
  exact .inr ⟨sz,g1,g2,g3,b,off,cap,cs,ty,fz,g4,g5,g6,g7,g8,g9,back_M_new.trans g10⟩
 | nils el=>exact .nils el
 | func f a c va vc ha hc _ _ ih1 ih2 =>
  refine .func f _ _ va vc (by rw [YF];exact ha) (by rw [YF];exact hc) (fun i y u hy hu=>?_) (fun i y u hy hu=>?_)
  ·obtain ⟨x,hx,rfl⟩:=X5 i y hy;grind
  obtain ⟨x,hx,rfl⟩:=X5 i y hy;grind
 | iface t x v _ ih=>exact .iface t _ v ih
 | agg cs vs hs _ h1 ih=>exact .agg _ vs (by rw [YF];exact hs) (fun i y u hy hu=>by obtain ⟨x,hx,rfl⟩:=X5 i y hy;grind) h1
 | tuple cs vs hs _ ih=>exact .tuple _ vs (by rw [YF];exact hs) (fun i y u hy hu=>by obtain ⟨x,hx,rfl⟩:=X5 i y hy;grind)
 | raw v=>exact .raw _
theorem ZbK (hS:SRel G e σ w) (h:Handed e σ w bs rest e2 σ2) (gk:SRel G e3 σ3 w') (hL:Later e2 σ2 w e3 σ3 w') (hb:Backed σ bs σ3 bx):Stepped e σ w (e.back bs σ.bx.length bs.length σ.nx e3) (Jb σ rest σ3 bx) w' where
 len:=by show σ.bx.length<=bx.length;rw [hb.len];omega
 beta:=fun i hi=>Z1 hi
 X:=fun _ _ h=>h
 pres:=fun b off u hu ho=>by
  obtain ⟨h1,h2⟩:=hL.pres b off u hu (h.okc b off ho);exact ⟨ZgJ hS h hL hb h1,h2⟩
 blocks:=fun b aa hn ht hH=>hL.blocks b aa (fun j hj=>by
   have pj:j<bs.length:=by rw [<- h.len];exact hj
   have rm:=Ta pj;rw [h.beta j _ rm];exact hn _ (h.lt _ (TA pj))) (fun t ym p hp=>by
   obtain ⟨t0,h1,_,h2⟩:=h.tok t ym p hp;grind) (h.hnone hH)
 size:=hL.size
 os:=hL.os
 tape:=hL.tape
 output:=hL.output
 fresh:=fun i h1 h2=>by
  rw [WT h1];have hlen:=hb.len;have aw:=hb.le;have:i<bx.length:=h2;exact hL.fresh _ (by rw [h.len];omega) oM
 ftok:=fun t ht p hp=>by
  rcases Z9 hS h ht with ⟨h1,h2⟩ | ⟨t',h1,rfl⟩
  ·rw [Ym h2] at hp;exact .inr (.inl ⟨t,h.restIn t h1,p,hp,rfl⟩)
  rw [back_M_new] at hp;rcases hL.ftok t' h1 p hp with h2 | ⟨t0,h3,p0,h4,h5⟩ | h2
  ·omega
  ·obtain ⟨t1,g1,_,g2⟩:=h.tok t0 h3 p0 h4;grind
  exact .inr (.inr fun hn=>h2 (h.hnone hn))
 fhid:=fun b hb=>by
  cases hq:Zir e bs e3 b with
  | none=>trivial
  | some q =>
  rcases Za5 hq with h1 | ⟨_,h1,_⟩
  ·rcases hL.fhid b (by grind) with h2 | ⟨t0,h3,p0,h4,h5⟩ | h2
   ·omega
   ·obtain ⟨t1,g1,_,g2⟩:=h.tok t0 h3 p0 h4;grind
   exact .inr (.inr fun hn=>h2 (h.hnone hn))
  simp_all
 nx:=Nat.le_add_right _ _
 toks:=fun t aa ht=>by
  rcases Z9 hS h ht with ⟨h1,_⟩ | ⟨t',h1,rfl⟩
  ·exact ⟨h.restIn t h1,Ym aa⟩
  omega
 own:=fun t aa ht p hp adm=>by
  rcases Z9 hS h ht with ⟨h1,_⟩ | ⟨t',h1,rfl⟩
  ·obtain ⟨_,si,_⟩:=hS.own t (h.restIn t h1) p hp;refine hL.blocks p.1 adm (fun j hj=>?_) (fun t2 nf p2 mt=>?_) (h.hnone (hS.tokH (h.restIn t h1) hp))
   ·have pj:j<bs.length:=by rw [<- h.len];exact hj
    have rm:=Ta pj;rw [h.beta j _ rm];exact si _ (h.lt _ (TA pj))
   obtain ⟨t0,g1,g2,g3⟩:=h.tok t2 nf p2 mt;exact hS.dis t0 t g1 (h.restIn t h1) (fun e=>g2 (e ▸ h1)) p2 p g3 hp
  omega
theorem SRel.back (hS:SRel G e σ w) (h:Handed e σ w bs rest e2 σ2) (gk:SRel G e3 σ3 w') (hL:Later e2 σ2 w e3 σ3 w') (hb:Backed σ bs σ3 bx):SRel G (e.back bs σ.bx.length bs.length σ.nx e3) (Jb σ rest σ3 bx) w':=by
 have hst:=ZbK hS h gk hL hb;have hlen:=hb.len;have aw:=hb.le;have d8:(Jb σ rest σ3 bx).bx.length=bx.length:=rfl;have lz:∀i,σ.bx.length<=i->i<bx.length->(e.back bs σ.bx.length bs.length σ.nx e3).β i=e3.β (bs.length+(i - σ.bx.length))/\bs.length+(i - σ.bx.length)<σ3.bx.length/\w.heap.size<=e3.β (bs.length+(i - σ.bx.length)):=fun i h1 h2=>by
  have:=hst.fresh i h1 h2;rw [WT h1] at this;exact ⟨WT h1,oM,this⟩
 have au:∀t,t∈rest->∀p,e.M t=some p->p.1<w.heap.size:=fun t ht p hp=>by
  obtain ⟨_,_,cs,ty,fz,hh⟩:=hS.own t (h.restIn t ht) p hp
  grind
 constructor
 ·intro i j hi hj he
  by_cases h1:i<σ.bx.length <;> by_cases h2:j<σ.bx.length
  ·rw [Z1 h1,Z1 h2] at he;exact hS.inj i j h1 h2 he
  ·obtain ⟨g1,g2,g3⟩:=lz j oM hj;rw [Z1 h1,g1] at he;have:=hS.lt h1;omega
  ·obtain ⟨g1,g2,g3⟩:=lz i oM hi;rw [Z1 h2,g1] at he;have:=hS.lt h2;omega
  obtain ⟨g1,g2,g3⟩:=lz i oM hi;obtain ⟨k1,k2,k3⟩:=lz j oM hj;rw [g1,k1] at he;have:=gk.inj _ _ g2 k2 he;omega
 ·intro i x hx
  have hi:=(To.1 hx).1;simp only at hx hi;have hBk:∀(y:Box) (b:Nat),BRel G e3 σ3 w' y b->BRel G (e.back bs σ.bx.length bs.length σ.nx e3) (Jb σ rest σ3 bx) w' (Zdm bs bs.length σ.bx.length σ.nx y) b:=fun y b hB=>by
   cases y with
   | cells t cs =>
    obtain ⟨vs,g1,g2,g3⟩:=hB;refine ⟨vs,g1,by rw [YF];exact g2,fun k z u hz hu=>?_⟩;obtain ⟨z',hz',rfl⟩:=X5 k z hz;exact ⟨(g3 k z' u hz' hu).1.back hS h hL hb,(g3 k z' u hz' hu).2⟩
   | iter s p=>exact hB
   | loop st pd r=>exact hB
   | dmap m=>exact hB.dmapTo rfl fun d v hv=>by have q:VRel G _ _ _ (.d d) v:=(VRel.d (G:=G) d v hv).back hS h hL hb;cases q;assumption
   | smap el m fo=>exact hB.smapTo rfl (Zdl bs bs.length σ.bx.length σ.nx) (fun _=>rfl) (fun _=>rfl) (fun _ _ _ _ hv=>hv.back hS h hL hb) fun b' q hq _=>⟨ZpJ hq,rfl⟩
   | map cs bn ck=>exact hB.mapTo rfl YF fun i x y hx hy=>by obtain ⟨z,hz,rfl⟩:=X5 i y hy;rw [hx] at hz;cases hz;exact ⟨fun v hv=>hv.back hS h hL hb,fun d hd=>by subst hd;rfl⟩
  by_cases h1:i<σ.bx.length
  ·rw [Z1 h1];rcases ZgI h hL h1 with ⟨j,hj,rm,he⟩ | ⟨hni,hX⟩
   ·have hj3:j<σ3.bx.length:=TC hj hL.len;have:=hb.some j i _ rm (Ta hj3);rw [this] at hx
    cases hx
    rw [<- he];exact hBk _ _ (gk.box j _ (Ta hj3))
   rw [hb.old i h1 hni] at hx;have notB:∀j,j<bs.length->∀b,bs[j]?=some b->e.β b≠e.β i:=fun j hj b hb he=>by
    have:=hS.inj _ _ (h.lt _ (TW hb)) h1 he
    grind
   have hnH:e.H (e.β i)=none:=by
    cases hq:e.H (e.β i) with
    | none=>rfl
    | some q=>exact absurd rfl ((hS.hid _ _ hq).2.2.1 i h1)
   refine (hS.box i x hx).step hst (hL.blocks _ (hS.lt h1) (fun j hj=>?_) (fun t ht p hp=>?_) (h.hnone hnH)) fun b' q hq hqi=>?_
   ·have pj:j<bs.length:=by rw [<- h.len];exact hj
    have rm:=Ta pj;rw [h.beta j _ rm]
    simp_all
   ·obtain ⟨t0,g1,_,g2⟩:=h.tok t ht p hp;exact fun he=>(hS.own t0 g1 p g2).2.1 i h1 he.symm
   obtain ⟨k1,k2,k3,k4,k5⟩:=hS.hid b' q hq;have hnp:∀i',i'∈bs->e.β i'≠q.1.1:=fun i' gu he=>by
    have:=hS.inj _ _ (h.lt _ gu) h1 (he.trans hqi)
    simp_all
   have sk:e2.H b'=none:=by
    rw [h.H]
    cases nh:Zki e bs b' with
    | none=>rfl
    | some q2 =>
    obtain ⟨g1,i',g2,g3⟩:=handH_iff.1 nh
    simp_all
   have nf:∀t,t∈σ2.tk->∀p,e2.M t=some p->p.1≠b':=fun t ht p hp=>by
    obtain ⟨t0,g1,_,g2⟩:=h.tok t ht p hp
    grind
   refine ⟨ZpK ?_ hq hnp,hL.blocks b' k2 (fun j hj=>?_) nf sk⟩
   ·cases hq3:e3.H b' with
    | none=>rfl
    | some q3 =>
    rcases hL.fhid b' (by simp_all) with g1 | ⟨t0,g1,p0,g2,g3⟩ | g1
    ·omega
    ·grind
    simp_all
   have pj:j<bs.length:=by rw [<- h.len];exact hj
   have rm:=Ta pj;rw [h.beta j _ rm];exact k3 _ (h.lt _ (TA pj))
  obtain ⟨g1,g2,g3⟩:=lz i oM hi;rw [hb.new i oM,Ta g2] at hx
  cases hx
  rw [g1];exact hBk _ _ (gk.box _ _ (Ta g2))
 ·intro i hi
  by_cases h1:i<σ.bx.length
  ·rw [Z1 h1];exact hS.low i h1
  obtain ⟨g1,g2,g3⟩:=lz i oM hi;rw [g1];exact gk.low _ g2
 ·intro t ht
  rcases Z9 hS h ht with ⟨_,h2⟩ | ⟨t',h1,rfl⟩
  ·grind
  have:=gk.tkn t' h1;simp_all
 ·intro t ht p hp
  rcases Z9 hS h ht with ⟨h1,h2⟩ | ⟨t',h1,rfl⟩
  ·rw [Ym h2] at hp;obtain ⟨g1,g2,cs,ty,fz,g3⟩:=hS.own t (h.restIn t h1) p hp;refine ⟨g1,fun i hi=>?_,cs,ty,fz,(hst.own t h2 ht p hp (au t h1 p hp)).trans g3⟩
   by_cases h3:i<σ.bx.length
   ·rw [Z1 h3];grind
   grind
  rw [back_M_new] at hp;obtain ⟨g1,g2,g3⟩:=gk.own t' h1 p hp;refine ⟨g1,fun i hi=>?_,g3⟩
  by_cases h3:i<σ.bx.length
  ·rw [Z1 h3];rcases ZgI h hL h3 with ⟨j,hj,_,he⟩ | ⟨_,hX⟩
   ·grind
   intro he
   exact gk.xown t' h1 p hp p.2 (Tt _) (he ▸ hX p.2)
  simp_all
 ·intro t t' ht pb ai p p' hp ju
  have mixed:∀t t',t∈rest->t<σ.nx->t'∈σ3.tk->∀p p',e.M t=some p->e3.M t'=some p'->p.1≠p'.1:=fun t t' h1 h2 h3 p p' hp ju he=>by
   refine gk.xown t' h3 p' ju (max p.2 p'.2) (Nat.le_max_right _ _) ?_;exact hL.X _ _ (by rw [h.X];exact .inr (.inr (.inl ⟨t,h1,p,hp,he,Nat.le_max_left _ _⟩)))
  rcases Z9 hS h ht with ⟨h1,h2⟩ | ⟨s,h1,rfl⟩ <;> rcases Z9 hS h pb with ⟨k1,k2⟩ | ⟨s',k1,rfl⟩
  ·rw [Ym h2] at hp;rw [Ym k2] at ju;exact hS.dis t t' (h.restIn t h1) (h.restIn t' k1) ai p p' hp ju
  ·rw [Ym h2] at hp;rw [back_M_new] at ju
   grind
  ·rw [back_M_new] at hp;rw [Ym k2] at ju
   grind
  rw [back_M_new] at hp ju;exact gk.dis s s' h1 k1 (fun e=>ai (by rw [e])) p p' hp ju
 ·intro b off hX
  exact TC (hS.xlt b off hX) hL.size
 ·intro t ht p hp off km hX
  rcases Z9 hS h ht with ⟨h1,h2⟩ | ⟨t',h1,rfl⟩
  ·rw [Ym h2] at hp;exact hS.xown t (h.restIn t h1) p hp off km hX
  rw [back_M_new] at hp;refine gk.xown t' h1 p hp off km ?_;exact hL.X _ _ (by rw [h.X];exact .inl hX)
 ·intro b q hq
  rcases Za5 hq with g | ⟨g0,g,gn⟩
  ·obtain ⟨k1,k2,k3,k4,k5⟩:=gk.hid b q g;refine ⟨k1,k2,fun i hi=>?_,fun t ht p hp=>?_,fun off ho hX=>k5 off ho (hL.X _ _ (by rw [h.X];exact .inl hX))⟩
   ·by_cases h3:i<σ.bx.length
    ·rw [Z1 h3];rcases ZgI h hL h3 with ⟨j,hj,_,he⟩ | ⟨_,hX⟩
     ·grind
     intro he
     exact k5 q.2 (Tt _) (he ▸ hX q.2)
    simp_all
   rcases Z9 hS h ht with ⟨h1,h2⟩ | ⟨t',h1,rfl⟩
   ·rw [Ym h2] at hp;intro he
    refine k5 (max p.2 q.2) (Nat.le_max_right _ _) ?_;exact hL.X _ _ (by rw [h.X];exact .inr (.inr (.inl ⟨t,h1,p,hp,he,Nat.le_max_left _ _⟩)))
   rw [back_M_new] at hp
   grind
  obtain ⟨k1,k2,k3,k4,k5⟩:=hS.hid b q g;refine ⟨k1,TC k2 hL.size,fun i hi=>?_,fun t ht p hp=>?_,k5⟩
  ·by_cases h3:i<σ.bx.length
   ·rw [Z1 h3];grind
   grind
  rcases Z9 hS h ht with ⟨h1,h2⟩ | ⟨t',h1,rfl⟩
  ·rw [Ym h2] at hp;exact k4 t (h.restIn t h1) p hp
  rw [back_M_new] at hp;intro he
  refine gk.xown t' h1 p hp (max p.2 q.2) (Nat.le_max_left _ _) ?_;exact hL.X _ _ (by rw [h.X,he];exact .inr (.inr (.inr ⟨q,g,Nat.le_max_right _ _,gn⟩)))
 ·exact gk.glob
 exact gk.big
theorem Jc {md:Nat} {g:FuncId} {sp:Zh} (hP:PCalls G g sp) {args:List PV} {K:PEnd->St->Prop} (hv:Zad md sp args σ K) :
  XK G.P g/\∀(ro:Option Nat) (n:Nat) (e:Env) (w:World) (vs:Array Value),SRel G e σ w->ArgsRel G e σ w args vs->CallsIn (fw ro) n G.P g vs w (ZAY G e σ w K):=by
 unfold Zad at hv
 simp only [Zcq,Zdk,WN] at hv;generalize Zfu σ.bx (σ.bx.length+1) 0 (ZeO args [])=bs at hv;split at hv
 ·rename_i i6
  obtain ⟨cb,hv,zp,hcg⟩:=Zkh hv;obtain ⟨args',tk1,as1,hv,du,mb,hal,hav⟩:=Ztf (as:=[]) (NInv.start σ.tk σ.tk fun _ h=>h) hv;obtain ⟨cb',rest,as2,hv,bo,f8,dc,ahz,nk⟩:=Ww mb hv;have mf:=Jx i6;have sx:∀b,b∈bs->b<σ.bx.length:=fun b hb=>by
   obtain ⟨k,hk,he⟩:=T5 hb;obtain ⟨x,hx,_⟩:=hcg k b (by simp_all)
   grind
  have backOf:∀(pe:PEnd) (σ3:St),(ZgG (Zdm bs bs.length σ.bx.length σ.nx) bs σ3.bx σ.bx fun bx=>K (ZwW bs bs.length σ.bx.length σ.nx pe) (Jb σ rest σ3 bx))->∃bx,Backed σ bs σ3 bx/\K (ZwW bs bs.length σ.bx.length σ.nx pe) (Jb σ rest σ3 bx):=fun pe σ3 hb=>by
   obtain ⟨bx,h1,h2,h3,h4,h5,h6⟩:=ZlP mf sx hb;exact ⟨bx,⟨h2,h3,h4,h5,h6⟩,h1⟩
  refine ⟨hP.enters,fun ro n e w vs hS ab=>?_⟩;have sy:∀t,t∈as2.filterMap id↔some t∈as2:=fun t=>by simp
  have pn:∀t,t∈as2.filterMap id->t∈σ.tk/\t∉rest:=fun t ht=>by
   obtain ⟨i,hi,he⟩:=T5 ((sy t).1 ht);exact f8.mem i t (by simp_all)
  have hH:Hand σ bs rest (as2.filterMap id) cb:=⟨mf,zp,hcg,f8.sub,pn⟩
  have fi:=hS.ren hH;have hIP:NInv (as2.filterMap id) [] as2:=⟨(fun t ht=>by cases ht),(fun i t hi=>⟨(sy t).2 (TW hi),sM⟩),f8.inj⟩
  have lb:bs.length<=(St.mk cb (as2.filterMap id) σ.nx).bx.length:=Nat.le_of_eq zp.symm;have i9:=Zgy fi lb hIP dc nk;have hD:=Zda (e:=e.handed σ bs rest) lb hIP dc;have hA2:ArgsRel G ((e.handed σ bs rest).re as2) ⟨cb',toks as2.length,as2.length⟩ w args' vs:=by
   refine ⟨by rw [ab.1,hal,YE],fun i x u hx hu=>?_⟩;have hi:=(To.1 hx).1;rw [hal] at hi;have hy:=Ta hi;obtain ⟨z,hz,ve⟩:=Wl i _ hy;have h1:=(ab.2 i z u hz hu).ren hS hH;rw [<- ve] at h1;exact ((hav i _ x hy hx).ext bo).rel lb hIP dc h1
  have hHd:Handed e σ w bs rest ((e.handed σ bs rest).re as2) ⟨cb',toks as2.length,as2.length⟩:={
   nodup:=mf
   lt:=sx
   len:=dc
   beta:=fun j b hj=>by simp [Env.re,Env.handed,hj]
   X:=rfl
   H:=rfl
   okc:=fun b off ho=>hD.okc b off (ZlQ hS hH ho)
   tok:=fun t ht p hp=>by
    obtain ⟨t0,h1,h2⟩:=hD.tok t ht p hp;exact ⟨t0,(pn t0 h1).1,(pn t0 h1).2,h2⟩
   restIn:=f8.sub }
  have iq:=hP.calls _ _ _ hv n _ w vs i9 hA2;have ul:∀R,CallsIn (fw none) n G.P g vs w R->CallsIn (fw ro) n G.P g vs w R:=fun R h=>by
   assumption
  refine (ul _ iq).mono fun en w' hA=>?_
  obtain ⟨pe,σ3,e3,hk,hE,gk,hL⟩:=hA;obtain ⟨bx,hB,hK⟩:=backOf pe σ3 hk;refine ⟨_,_,e.back bs σ.bx.length bs.length σ.nx e3,hK,?_,hS.back hHd gk hL hB,ZbK hS hHd gk hL hB⟩
  cases pe with
  | ret x=>obtain ⟨v,rfl,hr⟩:=hE;exact ⟨v,rfl,hr.back hS hHd hL hB⟩
  | panic x=>obtain ⟨v,rfl,hr⟩:=hE;exact ⟨v,rfl,hr.back hS hHd hL hB⟩
 simp_all
def Zy (sp:Zh):Prop:=∀args σ (K K':PEnd->St->Prop),(∀e σ,K e σ->K' e σ)->sp args σ K->sp args σ K'
def Zis {bs:List Nat} {bx:List Box}:∀{l:List Nat} {K K':List Box->Prop},(∀r,K r->K' r)->ZoX bs bx l K->ZoX bs bx l K'
 | [],K,K',hK,h=>hK _ h
 | b::l,K,K',hK,h=>by
  simp only [ZoX] at h |-;split at h
  all_goals first
   | exact Zis (fun r hr=>hK _ hr) h
   | omega
theorem ZpL {n:Nat} {tk:List Nat} {k:Nat} {v:PV} {K K':PV->List Nat->Nat->Prop} (hK:∀v t k,K v t k->K' v t k) (h:ZwK n tk k v K):ZwK n tk k v K':=by
 have gen:∀v,(match bnd n v with | true=>UU (clean v) fun v=>K v tk k | false=>K .undef tk k:Prop)->(match bnd n v with | true=>UU (clean v) fun v=>K' v tk k | false=>K' .undef tk k:Prop):=fun v h=>by
  split at h
  ·rw [Z5] at h |-;simp_all
  simp_all
 cases v with
 | sl t el rows =>
  simp only [ZwK] at h |-
  grind
 | nils el=>exact hK _ _ _ h
 | d x=>exact gen (.d x) h
 | undef=>exact gen .undef h
 | ptr b o=>exact gen (.ptr b o) h
 | asl b o n=>exact gen (.asl b o n) h
 | elem r o=>exact gen (.elem r o) h
 | func f a c=>exact gen (.func f a c) h
 | iface t v=>exact gen (.iface t v) h
 | agg cs=>exact gen (.agg cs) h
 | tuple cs=>exact gen (.tuple cs) h
 | raw v=>exact gen (.raw v) h
 | mp b=>exact gen (.mp b) h
 | nilm=>exact gen .nilm h
def V3 {n:Nat}:∀{vs:List PV} {tk:List Nat} {k:Nat} {K K':List PV->List Nat->Nat->Prop},(∀v t k,K v t k->K' v t k)->ZvS n vs tk k K->ZvS n vs tk k K'
 | [],_,_,_,_,hK,h=>hK _ _ _ h
 | v::vs,_,_,_,_,hK,h=>ZpL (fun v t k h=>V3 (fun vs t k h=>hK _ _ _ h) h) h
theorem Zfx {n:Nat} {tk:List Nat} {k:Nat} {v:PV} {K K':PV->List Nat->Nat->Prop} (hK:∀v t k,K v t k->K' v t k) (h:Zgn n tk k v K):Zgn n tk k v K':=by
 have gen:∀v,(match bnd n v with | true=>UU (cleanN v) fun v=>K v tk k | false=>K .undef tk k:Prop)->(match bnd n v with | true=>UU (cleanN v) fun v=>K' v tk k | false=>K' .undef tk k:Prop):=fun v h=>by
  split at h
  ·rw [Z5] at h |-;simp_all
  simp_all
 cases v with
 | sl t el rows =>
  simp only [Zgn] at h |-
  grind
 | nils el=>exact hK _ _ _ h
 | d x=>exact gen (.d x) h
 | undef=>exact gen .undef h
 | ptr b o=>exact gen (.ptr b o) h
 | asl b o n=>exact gen (.asl b o n) h
 | elem r o=>exact gen (.elem r o) h
 | func f a c=>exact gen (.func f a c) h
 | iface t v=>exact gen (.iface t v) h
 | agg cs=>exact gen (.agg cs) h
 | tuple cs=>exact gen (.tuple cs) h
 | raw v=>exact gen (.raw v) h
 | mp b=>exact gen (.mp b) h
 | nilm=>exact gen .nilm h
def Zfy {n:Nat}:∀{vs:List PV} {tk:List Nat} {k:Nat} {K K':List PV->List Nat->Nat->Prop},(∀v t k,K v t k->K' v t k)->Znl n vs tk k K->Znl n vs tk k K'
 | [],_,_,_,_,hK,h=>hK _ _ _ h
 | v::vs,_,_,_,_,hK,h=>Zfx (fun v t k h=>Zfy (fun vs t k h=>hK _ _ _ h) h) h
theorem Xb {n:Nat}:∀{m:Nat} {bs:List Box} {tk:List Nat} {k:Nat} {K K':List Box->List Nat->Nat->Prop},(∀v t k,K v t k->K' v t k)->Zfd n m bs tk k K->Zfd n m bs tk k K'
 | 0,_,_,_,_,_,hK,h=>by simp only [Zfd] at h |-;simp_all
 | _+1,[],_,_,_,_,_,h=>h.elim
 | _+1,.cells t cs::bs,_,_,_,_,hK,h=>by
  simp only [Zfd] at h |-;exact V3 (fun v t k h=>Xb (fun _ _ _ h=>hK _ _ _ h) h) h
 | _+1,.iter s p::bs,_,_,K,K',hK,h=>by
  simp only [Zfd] at h |-;exact Xb (K:=fun l tk k=>K (.iter s p::l) tk k) (K':=fun l tk k=>K' (.iter s p::l) tk k) (fun _ _ _ h=>hK _ _ _ h) h
 | _+1,.loop st pd r::bs,_,_,K,K',hK,h=>by
  simp only [Zfd] at h |-;exact Xb (K:=fun l tk k=>K (.loop st pd r::l) tk k) (K':=fun l tk k=>K' (.loop st pd r::l) tk k) (fun _ _ _ h=>hK _ _ _ h) h
 | _+1,.dmap m::bs,_,_,K,K',hK,h=>by
  simp only [Zfd] at h |-;exact Xb (K:=fun l tk k=>K (.dmap m::l) tk k) (K':=fun l tk k=>K' (.dmap m::l) tk k) (fun _ _ _ h=>hK _ _ _ h) h
 | _+1,.smap el m none::bs,_,_,K,K',hK,h=>by
  simp only [Zfd] at h |-;exact Xb (K:=fun l tk k=>K (.smap el m none::l) tk k) (K':=fun l tk k=>K' (.smap el m none::l) tk k) (fun _ _ _ h=>hK _ _ _ h) h
 | _+1,.smap _ _ (some _)::_,_,_,_,_,_,h=>h.elim
 | _+1,.map cs bn ck::bs,_,_,_,_,hK,h=>by
  simp only [Zfd] at h |-;exact V3 (fun v t k h=>Xb (fun _ _ _ h=>hK _ _ _ h) h) h
theorem Zfz {bb:Box->Box}:∀{bs:List Nat} {xs acc:List Box} {K K':List Box->Prop},(∀r,K r->K' r)->ZgG bb bs xs acc K->ZgG bb bs xs acc K'
 | [],_,_,_,_,hK,h=>by simp only [ZgG] at h |-;grind
 | _::_,[],_,_,_,_,h=>h.elim
 | b::bs,x::xs,_,_,_,hK,h=>by simp only [ZgG] at h |-;exact Zfz hK h
def Zit {sp:Zh} (hsp:Zy sp):Zy (Zkg sp):=fun args σ K K' hK h=>by
 unfold Zkg Zad Zs6 at h |-
 simp only [Zcq,Zdk,WN] at h |-;split at h
 ·exact Zis (fun cb h=>V3 (fun a t k h=>Xb (fun cb' r k h=>hsp _ _ _ _ (fun pe σ3 h=>Zfz (fun bx h=>hK _ _ h) h) h) h) h) h
 omega
end
end Go.PM
end

section
namespace Go.PM
def Cx.up (C:Cx):Cx:={ C with call:=fun g args σ K=>∃K',C.call g args σ K'/\∀e σ,K' e σ->K e σ }
def ZnI {n:Nat} {tk:List Nat} {k:Nat} {v:PV} {K K':PV->List Nat->Nat->Prop} (hK:∀v t k,K v t k->K' v t k) (h:Znm n tk k v K):Znm n tk k v K':=by
 cases v with
 | agg cs=>exact Zfy (fun v t k h=>hK _ _ _ h) h
 | _=>simp only [Znm] at h |-;exact Zfx hK h
def ZfA {n:Nat}:∀{vs:List PV} {tk:List Nat} {k:Nat} {K K':List PV->List Nat->Nat->Prop},(∀v t k,K v t k->K' v t k)->Znn n vs tk k K->Znn n vs tk k K'
 | [],_,_,_,_,hK,h=>hK _ _ _ h
 | v::vs,_,_,_,_,hK,h=>ZnI (fun v t k h=>ZfA (fun vs t k h=>hK _ _ _ h) h) h
def ZnJ {n:Nat} {vs:List PV} {σ:St} {K K':List PV->St->Prop} (hK:∀v s,K v s->K' v s) (h:Zo3 n vs σ K):Zo3 n vs σ K' :=
 V3 (fun _ _ _ h=>Xb (fun _ _ _ h=>hK _ _ h) h) h
def Zdn {ag:Bool} {n:Nat} {vs:List PV} {σ:St} {K K':List PV->St->Prop} (hK:∀v s,K v s->K' v s) (h:U4 ag n vs σ K):U4 ag n vs σ K':=by
 cases ag with
 | true=>exact ZfA (fun _ _ _ h=>Xb (fun _ _ _ h=>hK _ _ h) h) h
 | false=>exact ZnJ hK h
section
variable {C:Cx} {all:List Oper} {ms:List Nat} {Q Q':PQ}
abbrev Zb8 (C:Cx):Prop:=(∀v args σ (K:PEnd->St->Prop),¬C.raw v args σ K)/\∀g args r σ (K:PEnd->St->Prop),¬C.iter g args r σ K
theorem Ztn (hr:Zb8 C) (hQ:∀e f σ,Q e f σ->Q' e f σ) {o:Oper} {f:Frame} {σ:St} {K K':Frame->St->Prop} (hK:∀f σ,K f σ->K' f σ) (h:XX C o f σ Q K):XX C.up o f σ Q' K':=by
 unfold XX at h |-
 simp only [ZU,Z5] at h |-;split at h
 ·exact mq140
 split at h
 ·unfold Zfc at h |-
  split at h
  ·split at h
   ·refine ⟨_,h,fun e σ he=>?_⟩
    cases e with
    | ret v=>simp only at he |-;rw [ZZ] at he |-;simp_all
    | panic v=>exact hQ _ _ _ he
   simp_all
  ·simp_all
  exact h
 ·split at h
  ·exact hQ _ _ _ h
  omega
 exact Zcn (fun v σ hv=>by rw [ZZ] at hv |-;simp_all) h
theorem Zcr (hr:Zb8 C) (hQ:∀e f σ,Q e f σ->Q' e f σ) {o:Oper} {f:Frame} {σ:St} {K K':Frame->St->Prop} (hK:∀f σ,K f σ->K' f σ) (h:VJ C all Q o f σ K):VJ C.up all Q' o f σ K':=by
 rw [YU] at h |-;split at h
 ·exact Ztn hr hQ hK h
 ·simp_all
 exact h
theorem ZpM {T:Tab} {o:Op} {ρ:Operand->PV} {σ:St} {K K':PV->St->Prop} (hK:∀v σ,K v σ->K' v σ) (h:ZAI T o ρ σ K):ZAI T o ρ σ K':=by
 unfold ZAI at h |-
 (repeat' split at h) <;> first
  | omega
  | simp_all
  | grind
  | (rename_i hk;exfalso;simp_all;done)
def Zkj (hr:Zb8 C) (hQ:∀e f σ,Q e f σ->Q' e f σ):∀{l:List Oper} {f:Frame} {σ:St},ZsY C all Q l f σ->ZsY C.up all Q' l f σ
 | [],f,σ,h=>hQ _ _ _ h
 | o::rest,f,σ,h=>by
  simp only [ZsY,ZlC] at h |-;show match ZlB C o with | true=>_ | false=>_
  cases hb:ZlB C o with
  | true =>
   rw [hb] at h;refine ZpM (fun v σ hv=>?_) h;simp only [ZU] at hv |-;rw [ZZ] at hv |-;exact Zkj hr hQ hv
  | false =>
  rw [hb] at h;exact Zcr hr hQ (fun f σ h=>Zkj hr hQ h) h
theorem ZgK (hr:Zb8 C) (hQ:∀e f σ,Q e f σ->Q' e f σ) {i:Nat} {o:Oper} {ctx:List Ld} {f:Frame} {σ:St} {K K':List Ld->Frame->St->Prop} (hK:∀c f σ,K c f σ->K' c f σ) (h:XY C all ms Q i o ctx f σ K):XY C.up all ms Q' i o ctx f σ K':=by
 unfold XY at h |-
 refine Zcr hr hQ (fun f' σ' hk=>?_) h
 cases hE:YX o.op with
 | true=>simp only [hE] at hk |-;rw [chkL_iff] at hk |-;simp_all
 | false=>simp only [hE] at hk |-;exact hK _ _ _ hk
def ZgL (hr:Zb8 C) (hQ:∀e f σ,Q e f σ->Q' e f σ):∀{l:List (Nat×Oper)} {ctx:List Ld} {f:Frame} {σ:St},Wg C all ms Q l ctx f σ->Wg C.up all ms Q' l ctx f σ
 | [],_,f,σ,h=>hQ _ _ _ h
 | (i,o)::rest,ctx,f,σ,h=>ZgK hr hQ (fun _ _ _ h=>ZgL hr hQ h) h
def ZgM (hr:Zb8 C) (hQ:∀e f σ,Q e f σ->Q' e f σ):∀(n:Nat) (l:List (Nat×Oper)) (c:List Ld) (f:Frame) (σ:St),XZ C all ms Q n l c f σ->XZ C.up all ms Q' n l c f σ
 | 0,[],_,_,_,h=>hQ _ _ _ h
 | _+1,[],_,_,_,h=>hQ _ _ _ h
 | 0,_::_,_,_,_,h=>h.elim
 | n+1,x::l,c,f,σ,h=>by
  unfold XZ at h |-
  split at h
  ·exact ZgK hr hQ (fun c f σ h=>ZgM hr hQ n _ c f σ h) h
  rw [conjE_iff] at h |-;exact fun p hp hw=>ZgK hr hQ (fun c f σ h=>ZgM hr hQ n _ c f σ h) (h p hp hw)
theorem ZnK {T:Tab} {h:Hole} {f:Frame} {σ:St} {K K':Frame->St->Prop} (hK:∀f σ,K f σ->K' f σ) (g:Zno T h f σ K):Zno T h f σ K':=by
 unfold Zno at g |-
 simp only [ZU,ZZ] at g |-
 (repeat' split at g) <;> first
  | omega
  | simp_all
  | simp_all
def Zto (hr:Zb8 C) (hQ:∀e f σ,Q e f σ->Q' e f σ) {h:Hole}:∀e f σ,Zo6 C all h Q e f σ->Zo6 C.up all h Q' e f σ:=fun e f σ g=>by
 cases e with
 | normal=>exact ZnK (fun f σ g=>Zcr hr hQ (fun f σ g=>Zcr hr hQ (fun f σ g=>hQ _ _ _ g) g) g) g
 | _=>exact hQ _ _ _ g
def ZA2 {C:Cx} {Q Q':PQ} (hr:Zb8 C) (hQ:∀e f σ,Q e f σ->Q' e f σ) {ops:List Oper} {draw:Bool} {f:Frame} {σ:St} (h:WR C ops draw Q f σ):WR C.up ops draw Q' f σ:=by
 have vg:Zb8 C.calm:=⟨fun _ _ _ _ h=>h,fun _ _ _ _ _ h=>h⟩
 cases draw with
 | false=>simp only [WR] at h |-;exact Zkj hr hQ h
 | true =>
 simp only [WR] at h |-;have hQd:∀e f' σ,ZjV C ops f Q e f' σ->ZjV C.up ops f Q' e f' σ:=fun e f' σ h=>by
  cases e <;> exact hQ _ _ _ h
 cases hh:Zfe ops with
 | none =>
  simp only [hh] at h |-
  cases hc:Zh7 (Wu ops []) none (ZI 0 ops) with
  | true=>simp only [hc] at h |-;exact ZgL (C:=C.calm) vg hQd h
  | false=>simp only [hc] at h |-;exact ZgM (C:=C.calm) vg hQd _ _ _ _ _ h
 | some x=>simp only [hh] at h |-;exact ZgL (C:=C.calm) vg (Zto (C:=C.calm) vg hQd) h
def Zkk {b:Nat} {k:List UInt8} {σ:St} {K K':St->Prop} (hK:∀σ,K σ->K' σ) (h:Zfg b k σ K):Zfg b k σ K':=by
 unfold Zfg at h |-
 split at h
 ·rcases h.ex with ⟨a,ha,h⟩ | ⟨ha,h⟩
  ·exact .yes ha (hK _ h)
  exact .no ha (hK _ h)
 omega
theorem ZgN {b:Nat} {σ:St} {K K':St->Prop} (hK:∀σ,K σ->K' σ) (h:Uu b σ K):Uu b σ K':=by
 unfold Uu at h |-
 grind
theorem Ziu {S S':PQ->Frame->St->Prop} (hS:∀Q Q' f σ,(∀e f σ,Q e f σ->Q' e f σ)->S Q f σ->S' Q' f σ):∀(n:Nat) {Q Q':PQ} {f:Frame} {σ:St},(∀e f σ,Q e f σ->Q' e f σ)->Zff S Q n f σ->Zff S' Q' n f σ
 | 0,_,_,_,_,_,h=>h
 | n+1,Q,Q',f,σ,hQ,h=>hS _ _ _ _ (fun e f σ h=>by cases e with | normal=>exact Ziu hS n hQ h | _=>simp_all) h
def Zkl {t:Bool} {X Y X' Y':Prop} (h1:X->X') (h2:Y->Y') (h:CondP t X Y):CondP t X' Y':=by cases t;exact h2 h;exact h1 h
theorem ZFS (hr:Zb8 C) (hi:∀g a r σ K,¬C.iter g a r σ K):∀(c:Code) {Q Q':PQ} {f:Frame} {σ:St},(∀e f σ,Q e f σ->Q' e f σ)->W C c Q f σ->W C.up c Q' f σ:=by
 have vg:Zb8 C.calm:=⟨fun _ _ _ _ h=>h,fun _ _ _ _ _ h=>h⟩
 intro c
 induction c with
 | region id ops draw =>
  intro Q Q' f σ hQ h
  simp only [W] at h |-;rw [show C.up.foc=C.foc from rfl]
  cases hf:C.foc id with
  | false=>rw [hf] at h;exact ZA2 hr hQ h
  | true =>
  rw [hf] at h;obtain ⟨b,k,h⟩:=h;refine ⟨b,k,Zkk (fun σ h=>?_) h⟩;rw [ZU] at h |-;refine ZA2 hr (fun e f σ h=>?_) h
  cases e with
  | normal=>exact ZgN (K:=fun σ=>Xl σ fun σ=>Q .normal f σ) (K':=fun σ=>Xl σ fun σ=>Q' .normal f σ) (fun σ h=>by rw [ZU] at h |-;simp_all) h
  | _=>exact h
 | seq a b iha ihb =>
  intro Q Q' f σ hQ h
  simp only [W] at h |-;rw [show C.up.cut=C.cut from rfl]
  cases hc:C.cut (keyOf b) with
  | none =>
   grind
  | some x =>
  grind
 | cond c x y ihx ihy =>
  intro Q Q' f σ hQ h
  simp only [W] at h |-;split at h
  ·exact Zkl (fun h=>ihx hQ h) (fun h=>ihy hQ h) h
  exact h
 | block id b ih =>
  intro Q Q' f σ hQ h
  simp only [W] at h |-
  grind
 | scope b ih =>
  intro Q Q' f σ hQ h
  simp only [W] at h |-
  grind
 | loop b ih =>
  intro Q Q' f σ hQ h
  simp only [W] at h |-;rw [show C.up.unr=C.unr from rfl,show C.up.loop=C.loop from rfl,show C.up.tie=C.tie from rfl,show C.up.ag=C.ag from rfl]
  cases hu:C.unr (keyOf b) with
  | succ n =>
   rw [hu] at h;exact Ziu (S:=fun Q f σ=>W C b Q f σ) (S':=fun Q f σ=>W C.up b Q f σ) (fun Q Q' f σ hQ h=>ih hQ h) (n+1) hQ h
  | zero =>
  rw [hu] at h;simp only at h |-;split at h
  ·split at h
   ·exact Zdn (fun vs s hh=>⟨hh.1,fun vs σ1 hI=>ih (fun e f σ h=>by grind) (hh.2 vs σ1 hI)⟩) h
   exact Zdn (fun vs s hh=>⟨hh.1,fun vs σ1 hI=>ih (fun e f σ h=>by grind) (hh.2 vs σ1 hI)⟩) h
  exact h
 | rangeFunc g ps asg body iha ihb =>
  intro Q Q' f σ hQ h
  simp only [W] at h |-;split at h
  ·simp_all
  exact h
 | _ =>
 intro Q Q' f σ hQ h
 first
  | exact hQ _ _ _ h
  | exact h
end
def CallSem.up {G:GE} {cc:FuncId->List PV->St->(PEnd->St->Prop)->Prop} (h:CallSem G cc):CallSem G (fun g args σ K=>∃K',cc g args σ K'/\∀e σ,K' e σ->K e σ):=fun g args σ K ⟨K',h1,h2⟩ =>
 ⟨(h g args σ K' h1).1,fun ro n e w vs hS ha=>((h g args σ K' h1).2 ro n e w vs hS ha).mono fun en w' ⟨pe,σ',e',hk,r⟩=>⟨pe,σ',e',h2 _ _ hk,r⟩⟩
def ZgO {G:GE} {C:Cx} (hT:TabOK C.T G.P) (et:CallSem G C.call) (hr:Zb8 C) (hi:∀g a r σ K,¬C.iter g a r σ K) (ay:G.P.follows .mixedOrders=true) {g:FuncId} {fn:Func} {c:Code} (hf:G.P.funcs[g]?=some fn) (hb:fn.body=some c) (ak:ZG fn.ntmps c=true)
  {ag:Bool} {keep:Nat} {own:Bool} {args:List PV} {σ:St} {R:PEnd->St->Prop} (hk:σ.bx.length<=keep) (hlen:args.length<=fn.ntmps) (h:WFG ag C fn keep own args σ R) {n:Nat} {e:Env} {w:World} {vs:Array Value} (hS:SRel G e σ w) (ab:ArgsRel G e σ w args vs) :
  CallsIn (fw none) n G.P g vs w (YO G e σ w R) :=
 V0 ay (C:=C.up) ⟨hT,et.up,fun v a s K h=>(hr.1 v a s K h).elim,fun g a r s K h=>(hi g a r s K h).elim,.inl rfl⟩
  ⟨fun _ h1 h2=>hT.one h1 h2,fun _ _ _ K K' hK ⟨K0,h1,h2⟩=>⟨K0,h1,fun e σ h=>hK _ _ (h2 _ _ h)⟩,fun _ _ _ _ h=>h.elim,fun _ _ _ _ _ h=>h.elim,rfl⟩ hf hb ak hk hlen (ag:=ag) (ZFS hr hi _ (fun _ _ _ h=>h) h) hS ab
end Go.PM
end

section
namespace Go.PM
abbrev Tbl:=List (Nat×Zh)
def ZGB:Tbl->Nat->List PV->St->(PEnd->St->Prop)->Prop
 | [],_,_,_,_=>False
 | (g,sp)::l,n,args,σ,K=>match Nat.beq g n with
  | true=>Zkg sp args σ K
  | false=>ZGB l n args σ K
def TblOK (G:GE):Tbl->Prop
 | []=>True
 | (g,sp)::l=>PCalls G g sp/\TblOK G l
def TblM:Tbl->Prop
 | []=>True
 | (_,sp)::l=>Zy sp/\TblM l
def TblM.mono:∀{l:Tbl},TblM l->∀n args σ (K K':PEnd->St->Prop),(∀e σ,K e σ->K' e σ)->ZGB l n args σ K->ZGB l n args σ K'
 | [],_=>fun _ _ _ _ _ _ h=>h.elim
 | (g,sp)::l,⟨h1,h2⟩=>fun n args σ K K' hK h=>by
  simp only [ZGB] at h |-;split at h
  ·exact Zit h1 _ _ _ _ hK h
  exact TblM.mono h2 n args σ K K' hK h
def ZGD (md:Nat->Nat):Tbl->Nat->List PV->St->(PEnd->St->Prop)->Prop
 | [],_,_,_,_=>False
 | (g,sp)::l,n,args,σ,K=>match Nat.beq g n with
  | true=>Zad (md n) sp args σ K
  | false=>ZGD md l n args σ K
def TblOK.semM {G:GE} {md:Nat->Nat}:∀{l:Tbl},TblOK G l->CallSem G (ZGD md l)
 | [],_=>fun _ _ _ _ h=>h.elim
 | (g,sp)::l,⟨h1,h2⟩=>fun n args σ K h=>by
  simp only [ZGD] at h;split at h
  ·rename_i hb
   cases Tu hb
   exact Jc h1 h
  exact TblOK.semM h2 n args σ K h
def TblOK.sem {G:GE}:∀{l:Tbl},TblOK G l->CallSem G (ZGB l)
 | [],_=>fun _ _ _ _ h=>h.elim
 | (g,sp)::l,⟨h1,h2⟩=>fun n args σ K h=>by
  simp only [ZGB] at h;split at h
  ·rename_i hb
   cases Tu hb
   exact Jc h1 h
  exact TblOK.sem h2 n args σ K h
def ZpN:Value->List PV->St->(PEnd->St->Prop)->Prop:=fun _ _ _ _=>False
abbrev Raw:=Value->List PV->St->(PEnd->St->Prop)->Prop
abbrev ZfB:=FuncId->List PV->Raw->St->(PEnd->St->Prop)->Prop
def ZfC:ZfB:=fun _ _ _ _ _=>False
def ZA3:LoopAnn:=⟨[],[],fun _ _=>False,fun _ _=>0⟩
def Zg:List (Nat×LoopAnn)->Nat->LoopAnn
 | [],_=>ZA3
 | (k,a)::l,n=>match Nat.beq k n with | true=>a | false=>Zg l n
def ctx (T:Tab) (tbl:Tbl) (loops:Nat->LoopAnn):Cx:=⟨T,ZGB tbl,ZpN,ZfC,loops,fun _=>0,fun _=>false,fun _=>false,true,fun _=>none,fun _=>false,fun _=>false⟩
def ZFk (T:Tab) (tbl:Tbl) (it:ZfB) (loops:Nat->LoopAnn):Cx:=⟨T,ZGB tbl,ZpN,it,loops,fun _=>0,fun _=>false,fun _=>false,true,fun _=>none,fun _=>false,fun _=>false⟩
def ZAK (T:Tab) (tbl:Tbl) (md:Nat->Nat) (loops:Nat->LoopAnn) (unr:Nat->Nat) (ties bsl:Nat->Bool) (cut:Nat->Option (List Nat×(List PV->St->Prop))) (ag:Nat->Bool):Cx:=⟨T,ZGD md tbl,ZpN,ZfC,loops,unr,ties,bsl,true,cut,ag,fun _=>false⟩
def ZFl (T:Tab) (tbl:Tbl) (md:Nat->Nat) (loops:Nat->LoopAnn) (unr:Nat->Nat) (ties bsl foc:Nat->Bool):Cx:=⟨T,ZGD md tbl,ZpN,ZfC,loops,unr,ties,bsl,true,fun _=>none,fun _=>false,foc⟩
def ZDZ (nl:Nat->Bool) (k n:Nat):Nat:=match nl n with | true=>k | false=>0
abbrev ZD0 (T:Tab) (tbl:Tbl) (loops:Nat->LoopAnn) (unr:Nat->Nat) (ties:Nat->Bool):Cx:=ZAK T tbl (fun _=>0) loops unr ties (fun _=>false) (fun _=>none) (fun _=>false)
def ZoY (T:Tab) (tbl:Tbl) (loops:Nat->LoopAnn) (unr:Nat->Nat) (ties:Nat->Bool):Cx:=⟨T,ZGB tbl,ZpN,ZfC,loops,unr,ties,fun _=>false,true,fun _=>none,fun _=>false,fun _=>false⟩
def ZwX:List (Nat×List Nat×(List PV->St->Prop))->Nat->Option (List Nat×(List PV->St->Prop))
 | [],_=>none
 | (k,a)::l,n=>match Nat.beq k n with | true=>some a | false=>ZwX l n
def ZC:List Nat->Nat->Bool
 | [],_=>false
 | k::l,n=>match Nat.beq k n with | true=>true | false=>ZC l n
def ZV:List (Nat×Nat)->Nat->Nat
 | [],_=>0
 | (k,a)::l,n=>match Nat.beq k n with | true=>a | false=>ZV l n
def ZpO (T:Tab) (tbl:Tbl) (it:ZfB) (gid:FuncId) (fn:Func) (loops:Nat->LoopAnn):ZfB:=fun g args raw σ K=>match Nat.beq gid g with
 | true=>Nat.ble args.length fn.ntmps=true/\W ⟨T,ZGB tbl,raw,it,loops,fun _=>0,fun _=>false,fun _=>false,true,fun _=>none,fun _=>false,fun _=>false⟩ (Y8 fn) (fun e f σ'=>match e with
   | .normal | .ret=>pres T f σ'.bx fn.results.toList fun vs=>K (.ret (Jl vs)) σ'
   | .panic v=>K (.panic v) σ'
   | _=>False) (Zck 0 args) σ
 | false=>False
def noIter_sem {G:GE}:IterSem G ZfC:=fun _ _ _ _ _ h=>h.elim
theorem ZnL {G : GE} {T : Tab} {tbl : Tbl} (hT : TabOK T G.P) (ay : G.P.follows .mixedOrders = true) (ht : TblOK G tbl) (hm : TblM tbl) {it : ZfB} (kp : IterSem G it) {gid : FuncId} {fn : Func} {c : Code} (hf : G.P.funcs[gid]? = some fn) (hb : fn.body = some c) (ao : (fn.name == "runtime.NumGoroutine") = false)
  (ak:ZG fn.ntmps c=true) (loops:Nat->LoopAnn):IterSem G (ZpO T tbl it gid fn loops):=fun g args raw σ K h=>by
 unfold ZpO at h
 split at h
 ·rename_i hbq
  cases Tu hbq
  refine ⟨Zf hf ao hb,fun n e w vs hS ab ia=>?_⟩;have zo:Y8 fn=c:=by simp [Y8,hb]
  rw [zo] at h;have presM:∀{T:Tab} {f:Frame} {bx:List Box} {l:List ResultVar} {K K':List PV->Prop},(∀vs,K vs->K' vs)->pres T f bx l K->pres T f bx l K':=by
   intro T f bx l
   induction l with
   | nil=>exact fun hK h=>hK _ h
   | cons r l ih =>
   intro K K' hK h
   exact mq92
  refine Zdj ay (C:=⟨T,ZGB tbl,raw,it,loops,fun _=>0,fun _=>false,fun _=>false,true,fun _=>none,fun _=>false,fun _=>false⟩) ⟨hT,ht.sem,ia,kp.at',.inl rfl⟩ ⟨fun _ h1 h2=>hT.one h1 h2,hm.mono,fun _ _ _ _ h=>h.elim,fun _ _ _ _ _ h=>h.elim,rfl⟩ hf hb ak (Tb h.1) h.2 (fun pe f' σ' hq=>?_) hS ab
  cases pe with
  | normal=>exact presM (fun vs hK e' w' v h1 h2 h3=>⟨.ret (Jl vs),σ',e',hK,⟨v,rfl,h2⟩,h1,h3⟩) hq
  | ret=>exact presM (fun vs hK e' w' v h1 h2 h3=>⟨.ret (Jl vs),σ',e',hK,⟨v,rfl,h2⟩,h1,h3⟩) hq
  | panic p=>exact fun e' w' v h1 h2 h3=>⟨.panic p,_,e',hq,⟨v,rfl,h2⟩,h1,h3⟩
  | exit id=>omega
  | goto l=>omega
 simp_all
def Zkm {G : GE} {T : Tab} {tbl : Tbl} (hT : TabOK T G.P) (ay : G.P.follows .mixedOrders = true) (ht : TblOK G tbl) (hm : TblM tbl) {it : ZfB} (kp : IterSem G it) {g : FuncId} {fn : Func} {c : Code} (hf : G.P.funcs[g]? = some fn) (hb : fn.body = some c) (ao : (fn.name == "runtime.NumGoroutine") = false)
  (ak:ZG fn.ntmps c=true) {sp:Zh}
  (h:∀args σ K,sp args σ K->∃loops keep own,σ.bx.length<=keep/\args.length<=fn.ntmps/\WF (ZFk T tbl it loops) fn keep own args σ K):PCalls G g sp where
 enters:=Zf hf ao hb
 calls:=fun args σ K hs n e w vs hS ha=>by
  obtain ⟨loops,keep,own,h1,h2,h3⟩:=h args σ K hs;exact V0 ay (C:=ZFk T tbl it loops) ⟨hT,ht.sem,fun _ _ _ _ h=>h.elim,kp.at',.inl rfl⟩ ⟨fun _ h1 h2=>hT.one h1 h2,hm.mono,fun _ _ _ _ h=>h.elim,fun _ _ _ _ _ h=>h.elim,rfl⟩ hf hb ak h1 h2 h3 hS ha
def ZgP {G : GE} {T : Tab} {tbl : Tbl} (hT : TabOK T G.P) (ay : G.P.follows .mixedOrders = true) (ht : TblOK G tbl) {g : FuncId} {fn : Func} {c : Code} (hf : G.P.funcs[g]? = some fn) (hb : fn.body = some c) (ao : (fn.name == "runtime.NumGoroutine") = false)
  (ak:ZG fn.ntmps c=true) {sp:Zh}
  (h:∀args σ K,sp args σ K->∃md loops unr ties bsl cut ag al keep own,σ.bx.length<=keep/\args.length<=fn.ntmps/\WFG al (ZAK T tbl md loops unr ties bsl cut ag) fn keep own args σ K):PCalls G g sp where
 enters:=Zf hf ao hb
 calls:=fun args σ K hs n e w vs hS ha=>by
  obtain ⟨md,loops,unr,ties,bsl,cut,ag,al,keep,own,h1,h2,h3⟩:=h args σ K hs;exact ZgO (C:=ZAK T tbl md loops unr ties bsl cut ag) hT ht.semM ⟨fun _ _ _ _ h=>h,fun _ _ _ _ _ h=>h⟩ (fun _ _ _ _ _ h=>h) ay hf hb ak h1 h2 h3 hS ha
def ZpP {G : GE} {T : Tab} {tbl : Tbl} (hT : TabOK T G.P) (ay : G.P.follows .mixedOrders = true) (ht : TblOK G tbl) {g : FuncId} {fn : Func} {c : Code} (hf : G.P.funcs[g]? = some fn) (hb : fn.body = some c) (ao : (fn.name == "runtime.NumGoroutine") = false)
  (ak:ZG fn.ntmps c=true) {sp:Zh}
  (h:∀args σ K,sp args σ K->∃loops unr ties bsl foc keep own,σ.bx.length<=keep/\args.length<=fn.ntmps/\WF (ZFl T tbl (fun _=>0) loops unr ties bsl foc) fn keep own args σ K):PCalls G g sp where
 enters:=Zf hf ao hb
 calls:=fun args σ K hs n e w vs hS ha=>by
  obtain ⟨loops,unr,ties,bsl,foc,keep,own,h1,h2,h3⟩:=h args σ K hs;exact ZgO (C:=ZFl T tbl (fun _=>0) loops unr ties bsl foc) hT ht.semM ⟨fun _ _ _ _ h=>h,fun _ _ _ _ _ h=>h⟩ (fun _ _ _ _ _ h=>h) ay hf hb ak h1 h2 h3 hS ha
def Zdo {G : GE} {T : Tab} {tbl : Tbl} (hT : TabOK T G.P) (ay : G.P.follows .mixedOrders = true) (ht : TblOK G tbl) {g : FuncId} {fn : Func} {c : Code} (hf : G.P.funcs[g]? = some fn) (hb : fn.body = some c) (ao : (fn.name == "runtime.NumGoroutine") = false)
  (ak:ZG fn.ntmps c=true) {sp:Zh}
  (h:∀args σ K,sp args σ K->∃loops unr ties bsl nl keep own,σ.bx.length<=keep/\args.length<=fn.ntmps/\WF (ZAK T tbl (ZDZ nl 1) loops unr ties bsl (fun _=>none) (fun _=>false)) fn keep own args σ K):PCalls G g sp :=
 ZgP hT ay ht hf hb ao ak fun args σ K hs=>let ⟨_,_,_,_,_,_,_,h⟩:=h args σ K hs;⟨_,_,_,_,_,_,_,_,_,_,h⟩
def ZpQ {G : GE} {T : Tab} {tbl : Tbl} (hT : TabOK T G.P) (ay : G.P.follows .mixedOrders = true) (ht : TblOK G tbl) {g : FuncId} {fn : Func} {c : Code} (hf : G.P.funcs[g]? = some fn) (hb : fn.body = some c) (ao : (fn.name == "runtime.NumGoroutine") = false)
  (ak:ZG fn.ntmps c=true) {sp:Zh}
  (h:∀args σ K,sp args σ K->∃loops unr ties bsl nl cut keep own,σ.bx.length<=keep/\args.length<=fn.ntmps/\WF (ZAK T tbl (ZDZ nl 1) loops unr ties bsl cut (fun _=>false)) fn keep own args σ K):PCalls G g sp :=
 ZgP hT ay ht hf hb ao ak fun args σ K hs=>let ⟨_,_,_,_,_,_,_,_,h⟩:=h args σ K hs;⟨_,_,_,_,_,_,_,_,_,_,h⟩
def Zkn {G : GE} {T : Tab} {tbl : Tbl} (hT : TabOK T G.P) (ay : G.P.follows .mixedOrders = true) (ht : TblOK G tbl) {g : FuncId} {fn : Func} {c : Code} (hf : G.P.funcs[g]? = some fn) (hb : fn.body = some c) (ao : (fn.name == "runtime.NumGoroutine") = false)
  (ak:ZG fn.ntmps c=true) {sp:Zh}
  (h:∀args σ K,sp args σ K->∃loops unr ties bsl nl ag keep own,σ.bx.length<=keep/\args.length<=fn.ntmps/\WFG true (ZAK T tbl (ZDZ nl 2) loops unr ties bsl (fun _=>none) ag) fn keep own args σ K):PCalls G g sp :=
 ZgP hT ay ht hf hb ao ak fun args σ K hs=>let ⟨_,_,_,_,_,_,_,_,h⟩:=h args σ K hs;⟨_,_,_,_,_,_,_,_,_,_,h⟩
def Yn {G : GE} {T : Tab} {tbl : Tbl} (hT : TabOK T G.P) (ay : G.P.follows .mixedOrders = true) (ht : TblOK G tbl) {g : FuncId} {fn : Func} {c : Code} (hf : G.P.funcs[g]? = some fn) (hb : fn.body = some c) (ao : (fn.name == "runtime.NumGoroutine") = false)
  (ak:ZG fn.ntmps c=true) {sp:Zh}
  (h:∀args σ K,sp args σ K->∃loops unr ties keep own,σ.bx.length<=keep/\args.length<=fn.ntmps/\WF (ZD0 T tbl loops unr ties) fn keep own args σ K):PCalls G g sp :=
 ZgP hT ay ht hf hb ao ak fun args σ K hs=>let ⟨_,_,_,_,_,h⟩:=h args σ K hs;⟨_,_,_,_,_,_,_,_,_,_,h⟩
def Ziv {G : GE} {T : Tab} {tbl : Tbl} (hT : TabOK T G.P) (ay : G.P.follows .mixedOrders = true) (ht : TblOK G tbl) {g : FuncId} {fn : Func} {c : Code} (hf : G.P.funcs[g]? = some fn) (hb : fn.body = some c) (ao : (fn.name == "runtime.NumGoroutine") = false)
  (ak:ZG fn.ntmps c=true) {sp:Zh}
  (h:∀args σ K,sp args σ K->∃loops keep own,σ.bx.length<=keep/\args.length<=fn.ntmps/\WF (ctx T tbl loops) fn keep own args σ K):PCalls G g sp where
 enters:=Zf hf ao hb
 calls:=fun args σ K hs n e w vs hS ha=>by
  obtain ⟨loops,keep,own,h1,h2,h3⟩:=h args σ K hs;exact ZgO (C:=ctx T tbl loops) hT ht.sem ⟨fun _ _ _ _ h=>h,fun _ _ _ _ _ h=>h⟩ (fun _ _ _ _ _ h=>h) ay hf hb ak h1 h2 h3 hS ha
def CondP.tt {X Y:Prop} (h:X):CondP true X Y:=h
def ZGr {p:Prop} [Decidable p] {X Y:Prop} (h1:p->X) (h2:¬p->Y):CondP (decide p) X Y:=by
 by_cases h:p
 ·simp only [h,decide_true];exact h1 h
 simp only [h,decide_false];exact h2 h
def ZGu {p:Prop} [Decidable p] {X Y:Prop} (h1:¬p->X) (h2:p->Y):CondP (!decide p) X Y:=by
 by_cases h:p
 ·simp only [h,decide_true];exact h2 h
 simp only [h,decide_false];exact h1 h
theorem InR.i64 {n:Int} (h1:-9223372036854775808<=n) (h2:n<=9223372036854775807):InR .i64 n:=by
 unfold InR IntKind.wrap
 simp only [show IntKind.i64.bits=64 from rfl,show IntKind.i64.signed=true from rfl,Sf]
 grind
theorem InR.i32 {n:Int} (h1:-2147483648<=n) (h2:n<=2147483647):InR .i32 n:=by
 unfold InR IntKind.wrap
 simp only [show IntKind.i32.bits=32 from rfl,show IntKind.i32.signed=true from rfl,Sf]
 grind
theorem InR.u8 {n:Int} (h1:0<=n) (h2:n<=255):InR .u8 n:=by
 unfold InR IntKind.wrap
 simp only [show IntKind.u8.bits=8 from rfl,show IntKind.u8.signed=false from rfl,Sa]
 grind
theorem InR.u32 {n:Int} (h1:0<=n) (h2:n<=4294967295):InR .u32 n:=by
 unfold InR IntKind.wrap
 simp only [show IntKind.u32.bits=32 from rfl,show IntKind.u32.signed=false from rfl,Sa]
 grind
theorem InR.u64 {n:Int} (h1:0<=n) (h2:n<=18446744073709551615):InR .u64 n:=by
 unfold InR IntKind.wrap
 simp only [show IntKind.u64.bits=64 from rfl,show IntKind.u64.signed=false from rfl,Sa]
 grind
def Zk {n:Int} {K Q X:Prop} (q:Q) (h1:-9223372036854775808<=n:=by omega) (h2:n<=9223372036854775807:=by omega) (h:Q->K:=by intro k;(conv=>whnf);exact k):InR .i64 n/\K\/X:=.inl ⟨InR.i64 h1 h2,h q⟩
def V4 {n:Int} {K Q X:Prop} (q:Q) (h1:-9223372036854775808<=n:=by decide) (h2:n<=9223372036854775807:=by decide) (h:Q->K:=by intro k;(conv=>whnf);exact k):InR .i64 n/\K\/X:=.inl ⟨InR.i64 h1 h2,h q⟩
def WU {n:Int} {K Q X:Prop} (q:Q) (h1:0<=n:=by omega) (h2:n<=255:=by omega) (h:Q->K:=by intro k;(conv=>whnf);exact k):InR .u8 n/\K\/X:=.inl ⟨InR.u8 h1 h2,h q⟩
def ZaN {n:Int} {K Q X:Prop} (q:Q) (h1:0<=n:=by omega) (h2:n<=18446744073709551615:=by omega) (h:Q->K:=by intro k;(conv=>whnf);exact k):InR .u64 n/\K\/X:=.inl ⟨InR.u64 h1 h2,h q⟩
def oiO {n:Int} {K X:Prop} (q:K) (h1:-9223372036854775808<=n:=by omega) (h2:n<=9223372036854775807:=by omega):InR .i64 n/\K\/X:=.inl ⟨InR.i64 h1 h2,q⟩
def oiD {n:Int} {K X:Prop} (q:K) (h1:-9223372036854775808<=n:=by decide) (h2:n<=9223372036854775807:=by decide):InR .i64 n/\K\/X:=.inl ⟨InR.i64 h1 h2,q⟩
def oiB {n:Int} {K X:Prop} (q:K) (h1:0<=n:=by omega) (h2:n<=255:=by omega):InR .u8 n/\K\/X:=.inl ⟨InR.u8 h1 h2,q⟩
def oiU {n:Int} {K X:Prop} (q:K) (h1:0<=n:=by omega) (h2:n<=18446744073709551615:=by omega):InR .u64 n/\K\/X:=.inl ⟨InR.u64 h1 h2,q⟩
theorem Zs0 {K:PEnd->St->Prop} {p p':PEnd} {σ σ':St} (h:K p σ) (h1:p=p') (h2:σ=σ'):K p' σ':=by simp_all
end Go.PM
end

section
namespace Go.PM
structure CxG (G:GE) (T:Tab) (C:Cx):Prop where
 T:C.T=T
 ok:∀e σ w,CxOK G C none e σ w
 mono:CxMono C.calm
 it:∀g args raw σ K,¬C.iter g args raw σ K
def CxG.of {G:GE} {T:Tab} {tbl:Tbl} (hT:TabOK T G.P) (ht:TblOK G tbl) (hm:TblM tbl) (loops:Nat->LoopAnn) (unr:Nat->Nat) (ties:Nat->Bool):CxG G T (ZoY T tbl loops unr ties) :=
 ⟨rfl,fun _ _ _=>⟨hT,ht.sem,fun _ _ _ _ h=>h.elim,noIter_sem.at',.inl rfl⟩,⟨fun _ h1 h2=>hT.one h1 h2,hm.mono,fun _ _ _ _ h=>h.elim,fun _ _ _ _ _ h=>h.elim,rfl⟩,fun _ _ _ _ _ h=>h⟩
structure PDef (G:GE) (g:FuncId) (spR:List PV->St->(St->Prop)->Prop) (spP:PV->List PV->St->(St->Prop)->Prop):Prop where
 enters:XK G.P g
 ret:∀args σ K,spR args σ K->∀(n:Nat) (e:Env) (w:World) (vs:Array Value),SRel G e σ w->ArgsRel G e σ w args vs ->
  CallsDIn (fw none) n G.P g vs .returning w fun en u' w'=>u'=.returning/\(∃r,en=.returned r)/\∃σ' e',K σ'/\SRel G e' σ' w'/\Later e σ w e' σ' w'
 pan:∀pv args σ K,spP pv args σ K->∀(n:Nat) (e:Env) (w:World) (vs:Array Value) (v:Value),SRel G e σ w->ArgsRel G e σ w args vs->VRel G e σ w pv v ->
  CallsDIn (fw none) n G.P g vs (.panicking [{ v:=v,recovered:=false }]) w fun en u' w'=>u'=.panicking [{ v:=v,recovered:=true }]/\(∃r,en=.returned r)/\∃σ' e',K σ'/\SRel G e' σ' w'/\Later e σ w e' σ' w'
def ZAL (c:Code):Option (Nat×Nat×Code):=match c with
 | .seq (.region _ ops false) rest=>match ops.toList with
  | [o1,o2]=>match o1.op,o1.dst,o1.guard,o2.op,o2.dst,o2.guard with
   | .call { callee:=.builtin .recover,args,.. },some a,none,.assign (.tmp a'),some b,none=>match args.toList,Nat.beq a a' with
    | [],true=>some (a,b,rest)
    | _,_=>none
   | _,_,_,_,_,_=>none
  | _=>none
 | _=>none
theorem Zqd {c:Code} {a b:Nat} {rest:Code} (h:ZAL c=some (a,b,rest)):∃id ops o1 o2 at',c=.seq (.region id ops false) rest/\ops=#[o1,o2]/\o1.op=.call { callee:=.builtin .recover,args:=#[],argTypes:=at' }/\o1.dst=some a/\o1.guard=none/\o2.op=.assign (.tmp a)/\o2.dst=some b/\o2.guard=none:=by
 unfold ZAL at h
 split at h
 ·rename_i id ops rest'
  split at h
  ·rename_i o1 o2 ky
   split at h
   ·rename_i args at' a1 a2 b1 h1 h2 h3 h4 h5 h6
    split at h
    ·rename_i h7 h8
     cases h
     have:=Tu h8;subst this;have ha:args=#[]:=by simp_all
     grind
    cases h
   cases h
  cases h
 cases h
section
variable {G:GE}
def Ztx (T:Tab) (fn:Func) (keep:Nat) (K:St->Prop):PQ:=fun e f σ=>match e with
 | .normal | .ret=>pres T f σ.bx fn.results.toList fun vs=>Zh8 keep false (Jl vs) σ fun _ σ'=>K σ'
 | _=>False
theorem Zku {T : Tab} (hT : TabOK T G.P) (ay : G.P.follows .mixedOrders = true) {g : FuncId} {fn : Func} {c : Code} (hf : G.P.funcs[g]? = some fn) (hb : fn.body = some c) (ao : (fn.name == "runtime.NumGoroutine") = false)
  {a b:Nat} {rest:Code} (adx:ZAL c=some (a,b,rest)) (ak:ZG fn.ntmps c=true) {spR:List PV->St->(St->Prop)->Prop} {spP:PV->List PV->St->(St->Prop)->Prop}
  (hr:∀args σ K,spR args σ K->∃C keep,CxG G T C/\σ.bx.length<=keep/\args.length<=fn.ntmps/\W C rest (Ztx T fn keep K) (Va (Va (Zck 0 args) a (.d .nili)) b (.d .nili)) σ)
  (hp:∀pv args σ K,spP pv args σ K->∃C keep,CxG G T C/\σ.bx.length<=keep/\args.length<=fn.ntmps/\W C rest (Ztx T fn keep K) (Va (Va (Zck 0 args) a pv) b pv) σ):PDef G g spR spP:=by
 obtain ⟨id,ops,o1,o2,at',rfl,rfl,q1,q2,q3,q4,q5,q6⟩:=Zqd adx;simp only [ZG,Tl,ZpH,q2,q5] at ak;have ha:a<fn.ntmps:=by have:=Tb ak.1.1.1;omega
 have hbN:b<fn.ntmps:=by have:=Tb ak.1.1.2.1;omega
 have walk:∀(pv:PV) (v:Value) (u u':FrameMode) (args:List PV) (σ:St) (K:St->Prop) (C:Cx) (keep:Nat),CxG G T C->σ.bx.length<=keep->args.length<=fn.ntmps->W C rest (Ztx T fn keep K) (Va (Va (Zck 0 args) a pv) b pv) σ ->
   (∀(c₀:Go.Frame) (cs:List Go.Frame),c₀.mode=u->match recoverD (c₀::cs) with | some (x,cs')=>x=v/\cs'={ c₀ with mode:=u' }::cs | none=>v=.nilIface/\u'=u) ->
   ∀(n:Nat) (e:Env) (w:World) (vs:Array Value),SRel G e σ w->ArgsRel G e σ w args vs->VRel G e σ w pv v ->
   CallsDIn (fw none) n G.P g vs u w fun en u2 w'=>u2=u'/\(∃r,en=.returned r)/\∃σ' e',K σ'/\SRel G e' σ' w'/\Later e σ w e' σ' w':=by
  intro pv v u u' args σ K C keep hC hk hlen hW vg n e w vs hS ab hv
  refine callsDIn_of_wpSIn hf hb trivial fun c₀ cs hu=>?_
  have hsz:vs.size=args.length:=ab.1;have hF:FRel G e σ w (Zck 0 args) (vs++Array.replicate (fn.ntmps - vs.size) undef):=Zac args 0 fun k x hx=>by
   exact mq30
  refine wpSIn_seq (wpSIn_region ?_)
  let A0:Act:={ tmps:=vs++Array.replicate (fn.ntmps - vs.size) undef,defers:=[] }
  have zw:A0.tmps.size=fn.ntmps:=by grind
  have s0:(#[o1,o2]:Array Oper)[0]?=some o1:=rfl;have s1:(#[o1,o2]:Array Oper)[1]?=some o2:=rfl;have w1:∀t,Region.wanted o1 (yielded #[o1,o2] t)=true:=fun t=>by simp [Region.wanted,q3]
  have w2:∀t,Region.wanted o2 (yielded #[o1,o2] t)=true:=fun t=>by simp [Region.wanted,q6]
  have x1:∀A:Act,(execOp A.eval o1).run G.P w=.ok .recover w:=fun A=>by
   unfold execOp
   simp only [q1,resolve,Sem.run_bind,Sem.run_pure,Result.andThen,invoke,builtin]
  have x2:∀A:Act,(execOp A.eval o2).run G.P w=.ok (.value (A.eval (.tmp a))) w:=fun A=>by
   unfold execOp
   simp_all
  have y2:(A0.put (some a) v).eval (.tmp a)=v:=by
   simp [Act.put,Act.eval,Array.getElem?_setIfInBounds,zw,ha]
  have tail:rest.wpSIn (fw none) n G.P (bodyPostS G.P fn c₀ cs fun en u2 w'=>u2=u'/\(∃r,en=.returned r)/\∃σ' e',K σ'/\SRel G e' σ' w'/\Later e σ w e' σ' w') ((A0.put (some a) v).put (some b) v) ({ c₀ with mode:=u' }::cs) w:=by
   have hF1:FRel G e σ w (Va (Zck 0 args) a pv) (A0.put (some a) v).tmps:=FRel.put (a:=A0) (d:=some a) hF hv (fun i hi=>by simp_all);have uj:FRel G e σ w (Va (Va (Zck 0 args) a pv) b pv) ((A0.put (some a) v).put (some b) v).tmps:=FRel.put (a:=A0.put (some a) v) (d:=some b) hF1 hv (fun i hi=>by cases hi;rw [Yr,zw];exact hbN);refine wpSIn_of_wpIn rfl (wpIn_mono (Zdi (n:=n) (ro:=none) (ds:=(w.heap.size,[],true)) ay rest (C:=C) (hC.ok _ _ _) hC.mono (fun _ _ _ _ _ _=>hC.it _ _ _ _ _) ak.2 [] #[] (YY _) _
    (a:=(A0.put (some a) v).put (some b) v) hS uj (Later.refl e σ w) (by rw [Yr,Yr,zw]) (by rw [Y4,Y4];exact Marks.nil e σ (Tt _)) (fun i hi=>by cases hi) hW) fun x a' w' hp=>?_)
   obtain ⟨pe,f',e',σ',hq,hx,h1,h2,h3,h4,⟨_,rs,h5,zx,_⟩,h6⟩:=hp;have fe:a'.defers=[]:=by simp_all
   have done:(pres T f' σ'.bx fn.results.toList fun vs=>Zh8 keep false (Jl vs) σ' fun _ σ''=>K σ'')->∃r,(results fn a'.tmps).run G.P w'=.ok r w'/\u'=u'/\(∃r',Ending.returned r=.returned r')/\∃σ' e',K σ'/\SRel G e' σ' w'/\Later e σ w e' σ' w':=fun hl=>by
    exact mq104
   cases pe with
   | normal=>obtain rfl:x=.normal:=hx;obtain ⟨r,hr,hR⟩:=done hq;exact ⟨fe,u',rfl,r,hr,hR⟩
   | ret=>obtain rfl:x=.ret:=hx;obtain ⟨r,hr,hR⟩:=done hq;exact ⟨fe,u',rfl,r,hr,hR⟩
   | exit id=>trivial
   | goto l=>trivial
   | panic p=>trivial
  show wpOpsSIn (fw none) n G.P #[o1,o2] _ [0,1] A0 (c₀::cs) w;simp only [wpOpsSIn,s0,s1,w1,w2,if_true,x1,x2,q2,q5];refine ⟨fun _ _=>trivial,?_⟩;have hh:=vg c₀ cs hu
  cases zy:recoverD (c₀::cs) with
  | none =>
   rw [zy] at hh;obtain ⟨rfl,rfl⟩:=hh;have ik:({ c₀ with mode:=u' }:Go.Frame)=c₀:=by subst hu;rfl
   rw [ik] at tail;simp only [y2];exact ⟨fun _ _=>trivial,tail⟩
  | some p =>
  obtain ⟨x,cs'⟩:=p;rw [zy] at hh;obtain ⟨rfl,rfl⟩:=hh;simp only [y2];exact ⟨fun _ _=>trivial,tail⟩
 refine ⟨Zf hf ao hb,fun args σ K hs n e w vs hS ab=>?_,fun pv args σ K hs n e w vs v hS ab hv=>?_⟩
 ·obtain ⟨C,keep,h0,h1,h2,h3⟩:=hr args σ K hs;exact walk (.d .nili) .nilIface .returning .returning args σ K C keep h0 h1 h2 h3 (fun c₀ cs hu=>by simp [recoverD,hu]) n e w vs hS ab (.d _ _ .nili)
 obtain ⟨C,keep,h0,h1,h2,h3⟩:=hp pv args σ K hs;exact walk pv v _ _ args σ K C keep h0 h1 h2 h3 (fun c₀ cs hu=>by simp [recoverD,hu]) n e w vs hS ab hv
end
def Zak:List Oper->Option (List Oper×Oper)
 | []=>none
 | [o]=>some ([],o)
 | o::p::l=>match Zak (p::l) with | some (a,b)=>some (o::a,b) | none=>none
def Jd:∀{l:List Oper} {i:List Oper} {o:Oper},Zak l=some (i,o)->l=i++[o]
 | [],i,o,h=>by cases h
 | [x],i,o,h=>by cases h;rfl
 | x::p::l,i,o,h=>by
  simp only [Zak] at h;split at h
  ·rename_i a b hs
   cases h
   rw [Jd hs];rfl
  cases h
def ZdB (o:Oper):Option (Operand×List Operand):=match o.op,o.guard,o.dst with
 | .defer { callee:=.value x,args,.. },none,none=>some (x,args.toList)
 | _,_,_=>none
theorem ZeV {o:Oper} {x:Operand} {args:List Operand} (h:ZdB o=some (x,args)):∃as at',o.op=.defer { callee:=.value x,args:=as,argTypes:=at' }/\as.toList=args/\o.guard=none/\o.dst=none:=by
 unfold ZdB at h
 grind
def Zkv (c:Code):Option (List Oper×List Oper×Operand×List Operand):=match c with
 | .region _ ops false=>match Zak ops.toList with
  | some (init,last)=>match ZdB last with
   | some (x,args)=>some (ops.toList,init,x,args)
   | none=>none
  | none=>none
 | _=>none
section
variable {G:GE} {C:Cx} {e0:Env} {σ0:St} {w0:World} {n N:Nat} {ds:Nat×List Deferred×Bool} {Z:Array Value->Prop} {Q:PQ}
theorem ZdC (hC:CxOK G C none e0 σ0 w0) {ops:Array Oper} {rest:List Nat} {QQ:Exit->Act->World->Prop} (hd:∀o,o∈ops->∀d,o.dst=some d->d<N/\∀t v,Z t->Z (t.setIfInBounds d v))
  (zh:∀x a w,x≠.normal->ZM G e0 σ0 w0 ds N Z Q x a w->QQ x a w) (ek:∀a w,ZM G e0 σ0 w0 ds N Z Q .normal a w->wpOpsIn (fw none) n G.P ops QQ rest a w) :
  ∀(l:List Oper) (k:Nat),(∀j,j<l.length->l[j]?=ops[k+j]?)->∀{e:Env} {σ:St} {w:World} {a:Act} {f:Frame},
  SRel G e σ w->FRel G e σ w f a.tmps->Later e0 σ0 w0 e σ w->a.tmps.size=N->Marks ds e σ w a.defers->Z a.tmps->ZsY C ops.toList Q l f σ->wpOpsIn (fw none) n G.P ops QQ (List.range' k l.length++rest) a w
 | [],k,_,e,σ,w,a,f,hS,hF,hL,hN,ba,hZ,h=>ek a w ⟨.normal,f,e,σ,h,rfl,hS,hF,hL,hN,ba,hZ⟩
 | o::l,k,hl,e,σ,w,a,f,hS,hF,hL,hN,ba,hZ,h=>by
  have h0:ops[k]?=some o:=by simpa using (hl 0 sM).symm
  have bc:=ZbE (ro:=none) (n:=n) hC hS hF hL hN ba hZ (ops:=ops) (hd o (Sc h0)) h;have next:∀a' w',KRel G e0 σ0 w0 ds N Z (ZsY C ops.toList Q l) a' w'->wpOpsIn (fw none) n G.P ops QQ (List.range' (k+1) l.length++rest) a' w':=fun a' w' ⟨f',e',σ',h1,h2,h3,h4,h5,h6,h7⟩ =>
   ZdC hC hd zh ek l (k+1) (fun j hj=>by have:=hl (j+1) (by grind);grind) h2 h3 h4 h5 h6 h7 h1
  rw [Tf,List.range'_succ,Sl];simp only [wpOpsIn,h0];split at bc
  ·rename_i hw
   rw [Ti hw];exact ZGF zh (Oper.wpIn_mono next bc)
  rename_i hw
  rw [Te hw];exact ⟨fun _ _=>trivial,next _ _ bc⟩
def YN (g0:FuncId) (va vc:Array Value):Deferred:={ target:=.fn (.func g0) vc,args:=va }
def Zxi (G:GE) (g0:FuncId) (e0:Env) (σ0:St) (w0:World) (N:Nat) (Q0:PQ) (Q1:List PV->PQ):Exit->Act->World->Prop:=fun x a w =>
 ZM G e0 σ0 w0 (0,[],true) N (Kept [] #[]) Q0 x a w \/
 ∃fa va vc e1 σ1 w1,Later e0 σ0 w0 e1 σ1 w1/\ArgsRel G e1 σ1 w1 fa (va++vc)/\ZM G e1 σ1 w1 (0,[YN g0 va vc],true) N (Kept [] #[]) (Q1 (Xu fa)) x a w
end
def ZBh (T:Tab) (fn:Func) (keep:Nat) (own:Bool) (spR:List PV->St->(St->Prop)->Prop) (spP:PV->List PV->St->(St->Prop)->Prop) (R:PEnd->St->Prop) (fa:List PV):PQ:=fun e f σ=>match e with
 | .normal | .ret=>spR fa σ fun σ2=>pres T (VB f) σ2.bx fn.results.toList fun vs=>Zh8 keep own (Jl vs) σ2 fun v σ'=>R (.ret v) σ'
 | .panic pv=>spP pv fa σ fun σ2=>pres T (VB f) σ2.bx fn.results.toList fun vs=>Zh8 keep own (Jl vs) σ2 fun v σ'=>R (.ret v) σ'
 | _=>False
def ArgsRel.clean {G:GE} {e e':Env} {σ σ':St} {w w':World} {fa:List PV} {vs:Array Value} (h:ArgsRel G e σ w fa vs) (hL:Later e σ w e' σ' w'):ArgsRel G e' σ' w' (Xu fa) vs:=by
 refine ⟨by rw [YK];exact h.1,fun i y u hy hu=>?_⟩;obtain ⟨x,hx,rfl⟩:=XU i y hy;have hv:=h.2 i x u hx hu;exact VRel.clean hL.len hL.beta hL.pres hv hv.bnd
def CallsDIn.mono {F:Fence} {n:Nat} {P:Program} {f:FuncId} {args:Array Value} {u:FrameMode} {w:World} {R R':Ending->FrameMode->World->Prop} (h:CallsDIn F n P f args u w R) (hR:∀e u w,R e u w->R' e u w):CallsDIn F n P f args u w R' :=
 ⟨h.1,fun c cs hu hr=>let ⟨e,u',w',fr,h1,h2⟩:=h.2 c cs hu hr;⟨e,u',w',fr,hR _ _ _ h1,h2⟩⟩
end Go.PM
end

section
namespace Go.PM
def ZBi (T:Tab) (fn:Func) (keep:Nat) (K:St->Prop):PQ:=fun e f σ=>match e with
 | .normal | .ret=>pres T f σ.bx fn.results.toList fun vs=>Zh8 keep true (Jl vs) σ fun _ σ'=>K σ'
 | _=>False
section
variable {G:GE}
theorem ZnW {T : Tab} (hT : TabOK T G.P) (ay : G.P.follows .mixedOrders = true) {g : FuncId} {fn : Func} {c : Code} (hf : G.P.funcs[g]? = some fn) (hb : fn.body = some c) (ao : (fn.name == "runtime.NumGoroutine") = false)
  (ak:ZG fn.ntmps c=true) {spR:List PV->St->(St->Prop)->Prop}
  (hr:∀args σ K,spR args σ K->∃C keep,CxG G T C/\σ.bx.length<=keep/\args.length<=fn.ntmps/\W C c (ZBi T fn keep K) (Zck 0 args) σ):PDef G g spR (fun _ _ _ _=>False):=by
 refine ⟨Zf hf ao hb,fun args σ K hs n e w vs hS ab=>?_,fun pv args σ K hs=>hs.elim⟩;obtain ⟨C,keep,hC,hk,hlen,hW⟩:=hr args σ K hs;refine callsDIn_of_wpSIn hf hb trivial fun c₀ cs hu=>?_
 have hsz:vs.size=args.length:=ab.1;have hF:FRel G e σ w (Zck 0 args) (vs++Array.replicate (fn.ntmps - vs.size) undef):=Zac args 0 fun k x hx=>by
  exact mq30
 refine wpSIn_of_wpIn rfl (wpIn_mono (Zdi (n:=n) (ro:=none) (ds:=(0,[],true)) ay c (C:=C) (hC.ok _ _ _) hC.mono (fun _ _ _ _ _ _=>hC.it _ _ _ _ _) ak [] #[] (YY _) _
  (a:={ tmps:=vs++Array.replicate (fn.ntmps - vs.size) undef,defers:=[] }) hS hF (Later.refl e σ w) (by grind) (Marks.nil e σ (T6 _)) (fun i hi=>by cases hi) hW) fun x a' w' hp=>?_)
 obtain ⟨pe,f',e',σ',hq,hx,h1,h2,h3,h4,⟨_,rs,h5,zx,_⟩,h6⟩:=hp;have fe:a'.defers=[]:=by simp_all
 have done:(pres T f' σ'.bx fn.results.toList fun vs=>Zh8 keep true (Jl vs) σ' fun _ σ''=>K σ'')->∃r,(results fn a'.tmps).run G.P w'=.ok r w'/\FrameMode.returning=.returning/\(∃r',Ending.returned r=.returned r')/\∃σ' e',K σ'/\SRel G e' σ' w'/\Later e σ w e' σ' w':=fun hl=>by
  exact mq104
 cases pe with
 | normal=>obtain rfl:x=.normal:=hx;obtain ⟨r,hr,hR⟩:=done hq;exact ⟨fe,.returning,by rw [<- hu],r,hr,hR⟩
 | ret=>obtain rfl:x=.ret:=hx;obtain ⟨r,hr,hR⟩:=done hq;exact ⟨fe,.returning,by rw [<- hu],r,hr,hR⟩
 | exit id=>trivial
 | goto l=>trivial
 | panic p=>trivial
end
def ZBj:Code->Bool
 | .seq a b=>ZBj a || ZBj b
 | .cond _ a b=>ZBj a || ZBj b
 | .region id ops d=>(Zkv (.region id ops d)).isSome
 | _=>false
def WL (C:Cx) (Q:PQ):List Code->Frame->St->Prop
 | [],f,σ=>Q .normal f σ
 | c::l,f,σ=>W C c (fun e f σ=>match e with | .normal=>WL C Q l f σ | e=>Q e f σ) f σ
def WDl (C:Cx) (g0:FuncId) (Q0:PQ) (Q1:List PV->PQ):Nat->List Code->Frame->St->Prop
 | 0,_,_,_=>False
 | _+1,[],f,σ=>Q0 .normal f σ
 | n+1,c::l,f,σ=>match ZBj c with
  | false=>W C c (fun e f σ=>match e with | .normal=>WDl C g0 Q0 Q1 n l f σ | e=>Q0 e f σ) f σ
  | true=>match c with
   | .seq a b=>WDl C g0 Q0 Q1 n (a::b::l) f σ
   | .cond x a b=>match ev f x with | .d (.bool t)=>CondP t (WDl C g0 Q0 Q1 n (a::l) f σ) (WDl C g0 Q0 Q1 n (b::l) f σ) | _=>False
   | c=>match Zkv c with
    | some (all,init,x,args)=>ZsY C all (fun e f σ=>match e with
      | .normal=>(match ev f x with
       | .func g first caps=>(match Nat.beq g g0 with
        | true=>WL C (Q1 (Xu (first++args.map (ev f)++caps))) l f σ
        | false=>False)
       | _=>False)
      | e=>Q0 e f σ) init f σ
    | none=>False
section
variable {G:GE} {C:Cx} {e0:Env} {σ0:St} {w0:World} {n N:Nat}
def wpl (n:Nat) (P:Program) (Q:Exit->Act->World->Prop):List Code->Act->World->Prop
 | [],a,w=>Q .normal a w
 | c::l,a,w=>c.wpIn (fw none) n P (Exit.then (wpl n P Q l) Q) a w
def ZlX (ay:G.P.follows .mixedOrders=true) (hC:∀e σ w,CxOK G C none e σ w) (hM:CxMono C.calm) (hI:∀g args raw σ K,¬C.iter g args raw σ K) {ds:Nat×List Deferred×Bool} {Q:PQ} :
  ∀(l:List Code),(∀c∈l,ZG N c=true)->∀{e:Env} {σ:St} {w:World} {a:Act} {f:Frame},SRel G e σ w->FRel G e σ w f a.tmps->Later e0 σ0 w0 e σ w->a.tmps.size=N->Marks ds e σ w a.defers->WL C Q l f σ ->
   wpl n G.P (ZM G e0 σ0 w0 ds N (Kept [] #[]) Q) l a w
 | [],_,e,σ,w,a,f,hS,hF,hL,hN,ba,h=>⟨.normal,f,e,σ,h,rfl,hS,hF,hL,hN,ba,fun i hi=>by cases hi⟩
 | c::l,ak,e,σ,w,a,f,hS,hF,hL,hN,ba,h=>by
  refine wpIn_mono (Zdi (n:=n) (ro:=none) ay c (hC _ _ _) hM (fun _=>hI) (ak c sM) [] #[] (YY _) _ hS hF hL hN ba (fun i hi=>by cases hi) h) fun x a' w' hp=>?_
  obtain ⟨pe,f',e',σ',hq,hx,h1,h2,h3,h4,h5,h6⟩:=hp
  cases pe with
  | normal=>obtain rfl:x=.normal:=hx;exact ZlX ay hC hM hI l (fun c hc=>ak c (TF _ hc)) h1 h2 h3 h4 h5 hq
  | exit id=>obtain rfl:x=.exit id:=hx;exact ⟨.exit id,f',e',σ',hq,rfl,h1,h2,h3,h4,h5,h6⟩
  | goto l=>obtain rfl:x=.goto l:=hx;exact ⟨.goto l,f',e',σ',hq,rfl,h1,h2,h3,h4,h5,h6⟩
  | ret=>obtain rfl:x=.ret:=hx;exact ⟨.ret,f',e',σ',hq,rfl,h1,h2,h3,h4,h5,h6⟩
  | panic p=>obtain ⟨v,rfl,hv⟩:=hx;exact ⟨.panic p,f',e',σ',hq,⟨v,rfl,hv⟩,h1,h2,h3,h4,h5,h6⟩
def ZlY {P:Program} {Q Q':Exit->Act->World->Prop} (hQ:∀x a w,Q x a w->Q' x a w):∀{l:List Code} {a:Act} {w:World},wpl n P Q l a w->wpl n P Q' l a w
 | [],a,w,h=>hQ _ _ _ h
 | c::l,a,w,h=>wpIn_mono h fun x a' w' hp=>by
  cases x with
  | normal=>exact ZlY hQ hp
  | _=>exact hQ _ _ _ hp
theorem Zqe {g0:FuncId} {Q0:PQ} {Q1:List PV->PQ} (ay:G.P.follows .mixedOrders=true) (hC:∀e σ w,CxOK G C none e σ w) (hM:CxMono C.calm) (hI:∀g args raw σ K,¬C.iter g args raw σ K) :
  ∀(k:Nat) (l:List Code),(∀c∈l,ZG N c=true)->∀{e:Env} {σ:St} {w:World} {a:Act} {f:Frame},SRel G e σ w->FRel G e σ w f a.tmps->Later e0 σ0 w0 e σ w->a.tmps.size=N->a.defers=[]->WDl C g0 Q0 Q1 k l f σ ->
   wpl n G.P (Zxi G g0 e0 σ0 w0 N Q0 Q1) l a w:=by
 intro k
 induction k with
 | zero=>intro l ak e σ w a f hS hF hL hN hd h;exact h.elim
 | succ k ih =>
 intro l ak e σ w a f hS hF hL hN hd h
 have qv:Marks (0,[],true) e σ w a.defers:=by rw [hd];exact Marks.nil e σ (T6 _)
 cases l with
 | nil=>exact .inl ⟨.normal,f,e,σ,h,rfl,hS,hF,hL,hN,qv,fun i hi=>by cases hi⟩
 | cons c l =>
 have l7:=ak c sM;have zz:∀c∈l,ZG N c=true:=fun c hc=>ak c (TF _ hc)
 simp only [WDl] at h;split at h
 ·show c.wpIn (fw none) n G.P _ a w;refine wpIn_mono (Zdi (n:=n) (ro:=none) (ds:=(0,[],true)) ay c (hC _ _ _) hM (fun _=>hI) l7 [] #[] (YY _) _ hS hF hL hN qv (fun i hi=>by cases hi) h) fun x a1 w1 hp=>?_
  obtain ⟨pe,f',e',σ',hq,ii,h1,h2,h3,h4,h5,h6⟩:=hp
  cases pe with
  | normal =>
   obtain rfl:x=.normal:=ii;obtain ⟨_,rs,h5,zx,_⟩:=h5;exact ih l zz h1 h2 h3 h4 (by simp_all) hq
  | exit id=>obtain rfl:x=.exit id:=ii;exact .inl ⟨.exit id,f',e',σ',hq,rfl,h1,h2,h3,h4,h5,h6⟩
  | goto l=>obtain rfl:x=.goto l:=ii;exact .inl ⟨.goto l,f',e',σ',hq,rfl,h1,h2,h3,h4,h5,h6⟩
  | ret=>obtain rfl:x=.ret:=ii;exact .inl ⟨.ret,f',e',σ',hq,rfl,h1,h2,h3,h4,h5,h6⟩
  | panic p=>obtain ⟨v,rfl,hv⟩:=ii;exact .inl ⟨.panic p,f',e',σ',hq,⟨v,rfl,hv⟩,h1,h2,h3,h4,h5,h6⟩
 split at h
 ·rename_i x y hD
  simp only [ZG,Tl] at l7;have:=ih (x::y::l) (fun c hc=>by
   grind) hS hF hL hN hd h
  refine wpIn_seq (wpIn_mono (show x.wpIn (fw none) n G.P _ a w from this) fun z a' w' hp=>?_)
  cases z with
  | normal=>exact hp
  | _=>exact hp
 ·rename_i x y z hD
  simp only [ZG,Tl] at l7;have hv:=ZbC hF x;split at h
  ·rename_i t hc
   rw [hc] at hv
   cases t with
   | true=>exact wpIn_cond_true hv.dbool (ih (y::l) (fun c hc=>by
     grind) hS hF hL hN hd h)
   | false=>exact wpIn_cond_false hv.dbool (ih (z::l) (fun c hc=>by
     grind) hS hF hL hN hd h)
  simp_all
 split at h
 ·rename_i all init x args qk
  unfold Zkv at qk
  split at qk
  ·rename_i id ops hD hD1 hD2
   split at qk
   ·rename_i init' last qj
    split at qk
    ·rename_i x' args' hdc
     cases qk
     have ky:=Jd qj;obtain ⟨as,at',dx,has,hg,ady⟩:=ZeV hdc;have dl:ops.size=init.length+1:=by rw [<- Array.length_toList,ky];simp
     have z4:ops[init.length]?=some last:=by rw [<- TG,ky];simp
     simp only [ZG,Tl] at l7;have cg:∀o,o∈ops->∀d,o.dst=some d->d<N/\∀t v,Kept [] #[] t->Kept [] #[] (t.setIfInBounds d v):=fun o ho d oh=>⟨Za3 l7.1 o (TS.1 ho) d oh,fun t v _ i hi=>by cases hi⟩
     refine wpIn_region ?_;rw [show List.range ops.size=List.range' 0 init.length++[init.length] from by rw [dl,List.range_succ,List.range_eq_range']];refine ZdC (N:=N) (Z:=Kept [] #[]) (ds:=(0,[],true)) (hC e0 σ0 w0) cg (fun x a w hx hp=>?_) (fun a1 w1 hp=>?_) init 0 (fun j hj=>?_) hS hF hL hN qv (fun i hi=>by cases hi) h
     ·cases x with
      | normal=>simp_all
      | _ =>
      obtain ⟨pe,f',e',σ',hq,ii,au⟩:=hp;refine .inl ⟨pe,f',e',σ',?_,ii,au⟩
      cases pe <;> first | exact hq | trivial | (obtain ⟨_,ii,_⟩:=ii;cases ii)
     ·obtain ⟨pe,f',e',σ',hq,ii,h1,h2,h3,h4,⟨_,rs,h5,zx,_⟩,h6⟩:=hp
      cases pe with
      | normal =>
       simp only at hq;have hv:=ZbC h2 x;split at hq
       ·rename_i g first caps bm
        split at hq
        ·rename_i z6
         cases Tu z6
         rw [bm] at hv;generalize hgv:a1.eval x=v at hv
         cases hv with
         | func _ _ _ va vc ha hc k1 k2 =>
         have fe:a1.defers=[]:=by simp_all
         have ab:ArgsRel G e' σ' w1 (first++args.map (ev f')++caps) (va++as.map a1.eval++vc):=by
          have hm:=Zgs (G:=G) (e:=e') (σ:=σ') (w:=w1) (a:=a1) (f:=f') (args:=as) (fun x=>ZbC h2 x);rw [has] at hm;exact ArgsRel.append (ArgsRel.append ⟨ha,k1⟩ hm) ⟨hc,k2⟩
         have hw:Region.wanted last (yielded ops a1.tmps)=true:=by simp [Region.wanted,hg]
         simp only [wpOpsIn,z4,hw,if_true];have aj:(execOp a1.eval last).run G.P w1=.ok (.defer (YN g0 (va++as.map a1.eval) vc)) w1:=by
          unfold execOp
          simp only [dx,resolve,hgv,Deferred.ofValue,Sem.run_bind,Sem.run_pure,Result.andThen];rfl
         refine ⟨fun _ _=>trivial,?_⟩;rw [show (fw none).round=none from rfl,Oper.semAt_none,aj,Oper.uponIn_defer];rw [ady];show wpl n G.P (Zxi G g0 e0 σ0 w0 N Q0 Q1) l { a1 with defers:=YN g0 (va++as.map a1.eval) vc::a1.defers } w1;rw [fe];exact ZlY (fun x a w hp=>.inr ⟨_,_,_,e',σ',w1,h3,ab,hp⟩) (ZlX (n:=n) (e0:=e') (σ0:=σ') (w0:=w1) ay hC hM hI (ds:=(0,[YN g0 (va++as.map a1.eval) vc],true)) l zz
          (a:={ a1 with defers:=[YN g0 (va++as.map a1.eval) vc] }) h1 h2 (Later.refl _ _ _) h4 ⟨T6 _,[],rfl,fun _=>rfl,List.nodup_nil,fun r h=>by cases h⟩ hq)
        simp_all
       simp_all
      | exit id=>cases ii
      | goto l=>cases ii
      | ret=>cases ii
      | panic p=>obtain ⟨_,ii,_⟩:=ii;cases ii
     rw [<- TG,ky,Sx,T4 hj]
    grind
   grind
  grind
 simp_all
end
theorem Zcu {G : GE} {T : Tab} (hT : TabOK T G.P) (ay : G.P.follows .mixedOrders = true) {g : FuncId} {fn : Func} {c : Code} (hf : G.P.funcs[g]? = some fn) (hb : fn.body = some c) (ao : (fn.name == "runtime.NumGoroutine") = false)
  (ak:ZG fn.ntmps c=true) {g0:FuncId} {spR:List PV->St->(St->Prop)->Prop} {spP:PV->List PV->St->(St->Prop)->Prop} (hd:PDef G g0 spR spP) {sp:Zh}
  (h:∀args σ K,sp args σ K->∃C keep own,CxG G T C/\σ.bx.length<=keep/\args.length<=fn.ntmps/\WDl C g0 (ZAX T fn keep own K) (ZBh T fn keep own spR spP K) 99 [Y8 fn] (Zck 0 args) σ):PCalls G g sp where
 enters:=Zf hf ao hb
 calls:=fun args σ K hs n e w vs hS ab=>by
  obtain ⟨C,keep,own,hC,hk,hlen,hW⟩:=h args σ K hs;have zo:Y8 fn=c:=by simp [Y8,hb]
  rw [zo] at hW;have hsz:vs.size=args.length:=ab.1;have hF:FRel G e σ w (Zck 0 args) (vs++Array.replicate (fn.ntmps - vs.size) undef):=Zac args 0 fun k x hx=>by
   exact mq30
  have hwp:=Zqe (n:=n) (N:=fn.ntmps) (e0:=e) (σ0:=σ) (w0:=w) ay (C:=C) hC.ok hC.mono hC.it 99 [c] (fun c' hc'=>by simp_all)
   (a:={ tmps:=vs++Array.replicate (fn.ntmps - vs.size) undef,defers:=[] }) hS hF (Later.refl e σ w) (by grind) rfl hW
  have hwp:c.wpIn (fw none) n G.P (Zxi G g0 e σ w fn.ntmps (ZAX T fn keep own K) (ZBh T fn keep own spR spP K)) { tmps:=vs++Array.replicate (fn.ntmps - vs.size) undef,defers:=[] } w:=wpIn_mono hwp fun x a' w' hp=>by
   cases x with
   | normal=>exact hp
   | _=>exact hp
  refine callsIn_of_wp_defers hf hb trivial (wpIn_mono hwp fun x a' w' hp=>?_);have ends:∀{f':Frame} {tm:Array Value} {e':Env} {σ':St} {w':World},SRel G e' σ' w'->FRel G e' σ' w' f' tm->Later e σ w e' σ' w' ->
    (pres T f' σ'.bx fn.results.toList fun vs=>Zh8 keep own (Jl vs) σ' fun v σ''=>K (.ret v) σ'')->∃v,(results fn tm).run G.P w'=.ok v w'/\YO G e σ w K (.returned v) w':=fun h1 h2 h3 hl=>by
   obtain ⟨pvs,r,hlv,hr,hvr⟩:=XQ (C:=C) (by rw [hC.T];exact hT) h1 h2 (by rw [hC.T];exact hl);obtain ⟨pv',σ2,e2,hK,ou,i9,lv⟩:=X4 h1 h3 hk hvr hlv;exact ⟨r,hr,.ret pv',σ2,e2,hK,⟨r,rfl,ou⟩,i9,lv⟩
  rcases hp with ⟨pe,f',e',σ',hq,hx,h1,h2,h3,h4,⟨_,rs,h5,zx,_⟩,h6⟩ | ⟨fa,va,vc,e1,σ1,w1,rh,hfa,pe,f',e',σ',hq,hx,h1,h2,h3,h4,⟨_,rs,h5,zx,_⟩,h6⟩
  ·have fe:a'.defers=[]:=by simp_all
   cases pe with
   | normal=>obtain rfl:x=.normal:=hx;show LeavesIn _ _ _ _ _ _ _ _ _;rw [fe];exact ends h1 h2 h3 hq
   | ret=>obtain rfl:x=.ret:=hx;show LeavesIn _ _ _ _ _ _ _ _ _;rw [fe];exact ends h1 h2 h3 hq
   | panic p =>
    obtain ⟨v,rfl,hv⟩:=hx;show LeavesIn _ _ _ _ _ _ _ _ _;rw [fe];obtain ⟨pv',σ2,e2,hK,ou,i9,lv⟩:=X4 h1 h3 hk hv hq;exact ⟨.panic pv',σ2,e2,hK,⟨v,rfl,ou⟩,i9,lv⟩
   | exit id=>trivial
   | goto l=>trivial
  have fe:a'.defers=[YN g0 va vc]:=by simp_all
  have lv:Later e σ w e' σ' w':=rh.trans h3;have ad3:(invoke (YN g0 va vc).target (YN g0 va vc).args).run G.P w'=.ok (.enter g0 (va++vc)) w':=by
   show (callFunc g0 (va++vc)).run G.P w'=_;exact hd.enters _ _
  have after:∀{e2:Env} {σ2:St} {w2:World},SRel G e2 σ2 w2->Later e' σ' w' e2 σ2 w2->(pres T (VB f') σ2.bx fn.results.toList fun vs=>Zh8 keep own (Jl vs) σ2 fun v σ''=>K (.ret v) σ'')->∃v,(results fn a'.tmps).run G.P w2=.ok v w2/\YO G e σ w K (.returned v) w2 :=
   fun oy ip hl=>ends oy (h2.clean ip) (lv.trans ip) hl
  have z7:ArgsRel G e' σ' w' (Xu fa) (va++vc):=hfa.clean h3;have go:∀u,u≠.run->CallsDIn (fw none) (n - 1) G.P g0 (va++vc) u w' (fun
    | .returned _,u',w'=>LeavesIn (fw none) n G.P fn a'.tmps (YO G e σ w K) [] (settle u') w'
    | .panicked chain,u',w'=>LeavesIn (fw none) n G.P fn a'.tmps (YO G e σ w K) [] (raised u' chain) w'
    | .outgrown,_,w'=>YO G e σ w K .outgrown w')->LeavesIn (fw none) n G.P fn a'.tmps (YO G e σ w K) [YN g0 va vc] u w':=fun u hu hc =>
   ⟨hu,(fun h=>by cases h),.func g0,vc,g0,va++vc,rfl,ad3,fun _ _=>trivial,hc⟩
  cases pe with
  | normal =>
   obtain rfl:x=.normal:=hx;exact mq96
  | ret =>
   obtain rfl:x=.ret:=hx;exact mq96
  | panic p =>
   obtain ⟨v,rfl,hv⟩:=hx;show LeavesIn _ _ _ _ _ _ _ _ _;rw [fe];refine go _ sM ((hd.pan _ _ _ _ hq _ _ _ _ v h1 z7 hv).mono fun en u2 w2 hh=>?_);obtain ⟨rfl,⟨r,rfl⟩,σ2,e2,hK,i9,ip⟩:=hh;exact after i9 ip hK
  | exit id=>trivial
  | goto l=>trivial
end Go.PM
end

section

end
