/- A part of the proof: plain logic, contracts and laws over the given program. -/
import Derived.RangeFuncCalls
import Derived.RangeFuncLeaves
import Derived.Laws.Sem
import Derived.RecoverIn
import Derived.Test.YtflgockgjnddnaaGreatDoorE03
set_option linter.unusedVariables false
set_option linter.unusedSimpArgs false
set_option linter.all false
set_option maxRecDepth 100000
set_option maxHeartbeats 16000000
section
namespace Go.PM
abbrev Zr:=List PV→St→(PEnd→St→Prop)→Prop
structure PCalls (G:GE) (g:FuncId) (sp:Zr):Prop where
 enters:Vp G.P g
 calls:∀args σ K,sp args σ K→∀(n:Nat) (e:Env) (w:World) (vs:Array Value),SRel G e σ w→ArgsRel G e σ w args vs→CallsIn (fw none) n G.P g vs w (YH G e σ w K)
theorem Zo {P : Program} {f : FuncId} {fn : Func} {c : Code} (hf : P.funcs[f]? = some fn) (hname : (fn.name == "runtime.NumGoroutine") = false) (hb : fn.body = some c) : Vp P f := fun args w => by
 have h1 : fn.name ≠ "runtime.NumGoroutine" := by simpa using hname
 simp [callFunc,hf,h1,hb]
section
variable {G:GE} {C:Cx} {e:Env} {σ:St} {w:World} {f:Frame} {n:Nat} {tm:Array Value}
def Zwb (tm:Array Value):ResultVar→Sem Value
 | .tmp t=>pure (tm.getD t Go.undef)
 | .cell a t=>do loadVar t (← asAddr (tm.getD a Go.undef))
theorem Zg9 {P:Program} {t:TypeId} {v u:Value} (hv:∃a,v=.pointer (some a)) (h:(Instr.loadAt t v).run P w=.ok u w):(do loadVar t (← asAddr v):Sem Value).run P w=.ok u w:=by
 obtain ⟨a,rfl⟩:=hv;simpa [Instr.loadAt,Instr.sureAddr,asAddr] using h
theorem Zcz (hT:TabOK C.T G.P) (hS:SRel G e σ w) (hF:FRel G e σ w f tm):∀{l:List ResultVar} {K:List PV→Prop},pres C.T f σ.bx l K →
  ∃pvs vs,K pvs∧(l.mapM (Zwb tm)).run G.P w=.ok vs w∧vs.length=pvs.length∧∀(i:Nat) (x:PV) (u:Value),pvs[i]?=some x→vs[i]?=some u→VRel G e σ w x u
 | [],K,h=>⟨[],[],h,rfl,rfl,fun i x u hx=>by simp at hx⟩
 | .tmp t::l,K,h=>by
  simp only [pres,Yl] at h;obtain ⟨pvs,vs,hK,hr,hl,hv⟩:=Zcz hT hS hF h;refine ⟨f t::pvs,tm.getD t Go.undef::vs,hK,?_,by simp [hl],fun i x u hx hu=>?_⟩
  ·rw [List.mapM_cons];simp only [Zwb,Sem.run_bind,Sem.run_pure,Result.andThen,hr]
  ·cases i with
   | zero=>simp only [List.getElem?_cons_zero,Option.some.injEq] at hx hu;subst hx;subst hu;exact hF t
   | succ i=>exact hv i x u (by simpa using hx) (by simpa using hu)
 | .cell a t::l,K,h=>by
  simp only [pres] at h;have hptr:∃a',tm.getD a Go.undef=.pointer (some a'):=by
   have:=hF a;generalize tm.getD a Go.undef=v at this;generalize f a=x at this h
   cases this with
   | ptr b off _=>exact ⟨_,rfl⟩
   | elem r off b o u _ _ _=>exact ⟨_,rfl⟩
   | _=>exact h.elim
  obtain ⟨pv,u0,hk,hr0,hrun⟩:=Zgc hT hS (hF a) h;rw [Yl] at hk;obtain ⟨pvs,vs,hK,hr,hl,hv⟩:=Zcz hT hS hF hk;refine ⟨pv::pvs,u0::vs,hK,?_,by simp [hl],fun i x u hx hu=>?_⟩
  ·rw [List.mapM_cons];have:=Zg9 hptr hrun;simp only [Zwb];rw [Sem.run_bind,this];simp only [Sem.run_bind,Sem.run_pure,Result.andThen,hr]
  ·cases i with
   | zero=>simp only [List.getElem?_cons_zero,Option.some.injEq] at hx hu;subst hx;subst hu;exact hr0
   | succ i=>exact hv i x u (by simpa using hx) (by simpa using hu)
theorem X7 (hT:TabOK C.T G.P) (hS:SRel G e σ w) (hF:FRel G e σ w f tm) {fn:Func} {K:List PV→Prop} (h:pres C.T f σ.bx fn.results.toList K) :
  ∃pvs v,K pvs∧(results fn tm).run G.P w=.ok v w∧VRel G e σ w (Ju pvs) v:=by
 obtain ⟨pvs,vs,hK,hr,hl,hv⟩:=Zcz hT hS hF h;have hres:(results fn tm).run G.P w=.ok (if h:vs.toArray.size=1 then vs.toArray[0] else .tuple vs.toArray) w:=by
  have hfun:results fn tm=(do let vs ← fn.results.mapM (Zwb tm);pure (if h:vs.size=1 then vs[0] else .tuple vs)):=by
   unfold results
   congr 1
  have h1:fn.results.mapM (Zwb tm)=List.toArray <$> fn.results.toList.mapM (Zwb tm):=by
   conv=>lhs;rw [show fn.results=fn.results.toList.toArray from by simp]
   exact List.mapM_toArray
  rw [hfun,h1,Sem.run_bind,Sem.run_map,hr];rfl
 refine ⟨pvs,_,hK,hres,?_⟩
 match pvs,vs,hl,hv with
 | [],[],_,hv=>exact .tuple [] #[] rfl (fun i x u hx=>by simp at hx)
 | [x],[u],_,hv=>exact hv 0 x u rfl rfl
 | x::y::l,u::v::m,hl,hv =>
  have:¬((u::v::m).toArray.size=1):=by simp
  rw [dif_neg this];exact .tuple _ _ (by simpa using hl) (fun i a b ha hb=>hv i a b ha (by simpa using hb))
theorem XK {e0:Env} {σ0:St} {w0:World} {keep:Nat} {own:Bool} {pv:PV} {v:Value} {K:PV→St→Prop} (hS:SRel G e σ w) (hL:Later e0 σ0 w0 e σ w) (hk:σ0.bx.length≤keep) (hv:VRel G e σ w pv v)
  (h:ZaS keep own pv σ K):∃pv' σ' e',K pv' σ'∧VRel G e' σ' w pv' v∧SRel G e' σ' w∧Later e0 σ0 w0 e' σ' w:=by
 unfold ZaS at h
 split at h
 ·rename_i hb
  cases own with
  | true =>
   simp only at h;obtain ⟨vs',σ',e',hK,hS',hd,hlen,hvs⟩:=Zg5 hS h
   match vs',hlen,hK with
   | [y],_,hK=>exact ⟨y,σ',e',hK,hvs 0 pv y v rfl rfl hv,hS',hL.drop hd hk⟩
  | false =>
   exact m90
 ·exact h.elim
theorem Zab {vs:Array Value}:∀(args:List PV) (i:Nat),(∀(k:Nat) (x:PV),args[k]?=some x→VRel G e σ w x (vs.getD (i+k) Go.undef))→FRel G e σ w (Zee i args) vs
 | [],i,_=>fun j=>.undef _
 | a::args,i,h=>by
  intro j
  simp only [Zee]
  by_cases hij:i=j
  ·subst hij;rw [YW];exact h 0 a (by simp)
  ·rw [X4 _ _ hij];exact Zab args (i+1) (fun k x hx=>by have:=h (k+1) x (by simpa using hx);rwa [show i+(k+1)=i+1+k by omega] at this) j
theorem VRel.world {w':World} (hc:∀b off u,w.cell? ⟨b,off,none⟩=some u→w'.cell? ⟨b,off,none⟩=some u) (hb:∀(b:Nat) (cs:Array Value) (ty:TypeId) (fz:Nat×Nat),w.heap[b]?=some (Obj.cells cs ty fz)→w'.heap[b]?=some (Obj.cells cs ty fz)) {x:PV} {v:Value} (h:VRel G e σ w x v):VRel G e σ w' x v:=by
 have hd:∀{x:D} {v:Value},DRel (okc e σ) w x v→DRel (okc e σ) w' x v:=fun hd=>hd.mono fun b off u hu ho=>⟨ho,hc b off u hu⟩
 induction h with
 | d x v h=>exact .d _ _ (hd h)
 | undef v=>exact .undef _
 | ptr b off h=>exact .ptr b off h
 | asl b off n h=>exact .asl b off n h
 | elem r off b o u hcc ho hu=>exact .elem r off b o u (fun j hj=>hc _ _ _ (hcc j hj)) ho (fun j x hx=>hd (hu j x hx))
 | sl t el rows v hn hdd ht =>
  refine .sl t el rows v hn (hd hdd) fun h=>?_
  rcases ht h with h1 | ⟨sz,g1,g2,g3,b,off,cap,cs,ty,fz,g4,g5,g6,g7,g8⟩
  ·exact .inl h1
  ·exact .inr ⟨sz,g1,g2,g3,b,off,cap,cs,ty,fz,g4,g5,g6,hb _ _ _ _ g7,g8⟩
 | nils el=>exact .nils el
 | func f a c va vc ha hcc _ _ ih1 ih2=>exact .func f a c va vc ha hcc ih1 ih2
 | iface t x v _ ih=>exact .iface t x v ih
 | agg cs vs hs _ h1 ih=>exact .agg cs vs hs ih h1
 | tuple cs vs hs _ ih=>exact .tuple cs vs hs ih
 | raw v=>exact .raw v
theorem Zrk {r:Nat} (hS:SRel G e σ w) (hr:w.heap[r]?=some (.deferred (some []))) (hb:∀i,i<σ.bx.length→e.β i≠r) (hg:G.nG≤r) :
  SRel G e σ (w.putObj r (.deferred none))∧(∀x v,VRel G e σ w x v→VRel G e σ (w.putObj r (.deferred none)) x v)∧∀(e0:Env) (σ0:St) (w0:World),Later e0 σ0 w0 e σ w→w0.heap.size≤r→Later e0 σ0 w0 e σ (w.putObj r (.deferred none)):=by
 have hoth:∀k,k≠r→(w.putObj r (.deferred none)).heap[k]?=w.heap[k]?:=fun k hk=>World.putObj_heap_other hk
 have hcell:∀b off u,w.cell? ⟨b,off,none⟩=some u→b≠r:=fun b off u hu he=>by
  subst he;simp [World.cell?,hr] at hu
 have hc:∀b off u,w.cell? ⟨b,off,none⟩=some u→(w.putObj r (.deferred none)).cell? ⟨b,off,none⟩=some u:=fun b off u hu=>by
  have:=hcell b off u hu;simpa [World.cell?,hoth b this] using hu
 have hbk:∀(b:Nat) (cs:Array Value) (ty:TypeId) (fz:Nat×Nat),w.heap[b]?=some (Obj.cells cs ty fz)→(w.putObj r (.deferred none)).heap[b]?=some (Obj.cells cs ty fz):=fun b cs ty fz h=>by
  have:b≠r:=fun he=>by subst he;rw [hr] at h;cases h
  rw [hoth b this];exact h
 have hV:∀x v,VRel G e σ w x v→VRel G e σ (w.putObj r (.deferred none)) x v:=fun x v h=>h.world hc hbk
 refine ⟨?_,hV,fun e0 σ0 w0 hL hr0=>?_⟩
 ·exact {
   inj:=hS.inj
   box:=fun i x hx=>by
    have hi:=(Th.1 hx).1;have hB:=hS.box i x hx;have heq:=hoth (e.β i) (hb i hi)
    cases x with
    | cells t cs =>
     obtain ⟨vs,g1,g2,g3⟩:=hB;exact ⟨vs,heq.trans g1,g2,fun k y u hy hu=>⟨hV _ _ (g3 k y u hy hu).1,(g3 k y u hy hu).2⟩⟩
    | iter s p=>exact heq.trans hB
    | loop st pd r=>exact heq.trans hB
   low:=hS.low
   tkn:=hS.tkn
   own:=fun t ht p hp=>by
    obtain ⟨q1,q2,cs,ty,fz,q3⟩:=hS.own t ht p hp;exact ⟨q1,q2,cs,ty,fz,hbk _ _ _ _ q3⟩
   dis:=hS.dis
   xlt:=fun b off hx=>by rw [World.putObj_size];exact hS.xlt b off hx
   xown:=hS.xown
   glob:=fun b hbg=>(hoth b (by omega)).trans (hS.glob b hbg)
   big:=by rw [World.putObj_size];exact hS.big }
 ·exact {
   len:=hL.len
   beta:=hL.beta
   X:=hL.X
   pres:=fun b off u hu ho=>let ⟨h1,h2⟩:=hL.pres b off u hu ho;⟨h1,hc b off u h2⟩
   blocks:=fun b hlt hn ht=>(hoth b (by omega)).trans (hL.blocks b hlt hn ht)
   size:=by rw [World.putObj_size];exact hL.size
   os:=hL.os
   tape:=hL.tape
   output:=hL.output
   fresh:=hL.fresh
   ftok:=hL.ftok }
theorem JF {fn:Func} {R:Ending→World→Prop} {u:FrameMode} {e0:Env} {σ0:St} {w0:World} (hu:u≠.run):∀(rs:List Nat) {w:World},rs.Nodup→(∀r,r∈rs→w0.heap.size≤r∧w.heap[r]?=some (.deferred (some []))∧∀i,i<σ.bx.length→e.β i≠r) →
  G.nG≤w0.heap.size→SRel G e σ w→FRel G e σ w f tm→Later e0 σ0 w0 e σ w→(∀pv v,VRel G e σ w pv v→∀w',SRel G e σ w'→FRel G e σ w' f tm→Later e0 σ0 w0 e σ w'→VRel G e σ w' pv v→True) →
  (∀w',(∀x v,VRel G e σ w x v→VRel G e σ w' x v)→SRel G e σ w'→FRel G e σ w' f tm→Later e0 σ0 w0 e σ w'→LeavesIn (fw none) n G.P fn tm R [] u w')→LeavesInM (fw none) n G.P fn tm R (rs.map Zbv) u w
 | [],w,_,_,_,hS,hF,hL,_,hend=>by
  simp only [TX,LeavesInM];exact hend w (fun _ _ h=>h) hS hF hL
 | r::rs,w,hnd,hrs,hG,hS,hF,hL,_,hend=>by
  obtain ⟨h1,h2,h3⟩:=hrs r (by simp);obtain ⟨hS',hV,hL'⟩:=Zrk hS h2 h3 (TO hG h1);simp only [TJ,LeavesInM];refine ⟨hu,.inl ⟨r,_,rfl,run_takeDeferred h2,?_⟩⟩;refine JF hu rs (List.nodup_cons.1 hnd).2 (fun q hq=>?_) hG hS' (fun i=>hV _ _ (hF i)) (hL' _ _ _ hL h1) (fun _ _ _ _ _ _ _ _=>trivial) (fun w' hV'=>hend w' fun x v h=>hV' x v (hV x v h));obtain ⟨g1,g2,g3⟩:=hrs q (Tw _ hq);have hne:q≠r:=fun e=>(List.nodup_cons.1 hnd).1 (e ▸ hq)
  exact ⟨g1,(World.putObj_heap_other hne).trans g2,g3⟩
theorem Za2 (hmix:G.P.follows .mixedOrders=true) {g:FuncId} {fn:Func} {c:Code} (hC:CxOK G C none e σ w) (hM:CxMono C.calm) (hf:G.P.funcs[g]?=some fn) (hb:fn.body=some c) (hok:ZL fn.ntmps c=true)
  {args:List PV} {Q:PQ} {K:PEnd→St→Prop} (hlen:args.length≤fn.ntmps) (h:W C c Q (Zee 0 args) σ)
  (hQ:∀(pe:PExit) (f:Frame) (σ':St),Q pe f σ'→match pe with
   | .normal | .ret=>pres C.T f σ'.bx fn.results.toList fun vs=>∀(e':Env) (w':World) (v:Value),SRel G e' σ' w'→VRel G e' σ' w' (Ju vs) v→Later e σ w e' σ' w'→YH G e σ w K (.returned v) w'
   | .panic p=>∀(e':Env) (w':World) (v:Value),SRel G e' σ' w'→VRel G e' σ' w' p v→Later e σ w e' σ' w'→YH G e σ w K (.panicked [{ v:=v,recovered:=false }]) w'
   | _=>False)
  {vs:Array Value} (hS:SRel G e σ w) (hargs:ArgsRel G e σ w args vs):CallsIn (fw none) n G.P g vs w (YH G e σ w K):=by
 have hsz:vs.size=args.length:=hargs.1;have hF:FRel G e σ w (Zee 0 args) (vs++Array.replicate (fn.ntmps - vs.size) undef):=Zab args 0 fun k x hx=>by
  exact m30
 have hw:=JE (n:=n) (ro:=none) (ds:=(w.heap.size,[],false)) hmix c hC hM (fun h=>by cases h) hok [] #[] (Yx c) _ (a:={ tmps:=vs++Array.replicate (fn.ntmps - vs.size) undef,defers:=[] }) hS hF (Later.refl e σ w) (by simp;omega) (Marks.nil e σ (Tq _)) (fun i hi=>by cases hi) h;refine callsIn_of_wp_marks hf hb trivial (wpIn_mono hw fun x a' w' hp=>?_);obtain ⟨pe,f',e',σ',hq,hx,h1,h2,h3,h4,⟨_,rs,h5,_,h5n,h5r⟩,h6⟩:=hp;have h5:a'.defers=rs.map Zbv:=by rw [h5];exact T2 _
 have hq':=hQ pe f' σ' hq;have hrs:∀r,r∈rs→w.heap.size≤r∧w'.heap[r]?=some (.deferred (some []))∧∀i,i<σ'.bx.length→e'.β i≠r:=fun r hr=>let ⟨g1,g2,g3,_⟩:=h5r r hr;⟨g1,g2,g3⟩
 have ends:∀(hq':pres C.T f' σ'.bx fn.results.toList fun vs=>∀(e':Env) (w':World) (v:Value),SRel G e' σ' w'→VRel G e' σ' w' (Ju vs) v→Later e σ w e' σ' w'→YH G e σ w K (.returned v) w'),LeavesInM (fw none) n G.P fn a'.tmps (YH G e σ w K) a'.defers .returning w':=fun hq'=>by
  rw [h5];refine JF (by simp) rs h5n hrs hS.big h1 h2 h3 (fun _ _ _ _ _ _ _ _=>trivial) fun w2 _ k1 k2 k3=>?_
  obtain ⟨pvs,v,hl,hr,hv⟩:=X7 hC.tab k1 k2 hq';exact ⟨v,hr,hl e' w2 v k1 hv k3⟩
 cases pe with
 | normal=>obtain rfl:x=.normal:=hx;exact ends hq'
 | ret=>obtain rfl:x=.ret:=hx;exact ends hq'
 | panic p =>
  obtain ⟨v,rfl,hv⟩:=hx;show LeavesInM (fw none) n G.P fn a'.tmps (YH G e σ w K) a'.defers (.panicking _) w';rw [h5];refine JF (by simp) rs h5n hrs hS.big h1 h2 h3 (fun _ _ _ _ _ _ _ _=>trivial) fun w2 hV k1 k2 k3=>?_
  exact hq' e' w2 v k1 (hV _ _ hv) k3
 | exit id=>exact hq'.elim
 | goto l=>exact hq'.elim
theorem JG (hmix:G.P.follows .mixedOrders=true) {g:FuncId} {fn:Func} {c:Code} (hC:CxOK G C none e σ w) (hM:CxMono C.calm) (hf:G.P.funcs[g]?=some fn) (hb:fn.body=some c) (hok:ZL fn.ntmps c=true)
  {keep:Nat} {own:Bool} {args:List PV} {R:PEnd→St→Prop} (hk:σ.bx.length≤keep) (hlen:args.length≤fn.ntmps) (h:WF C fn keep own args σ R) {vs:Array Value} (hS:SRel G e σ w) (hargs:ArgsRel G e σ w args vs) :
  CallsIn (fw none) n G.P g vs w (YH G e σ w R):=by
 have hbo:Ww fn=c:=by simp [Ww,hb]
 unfold WF at h
 rw [hbo] at h;have presM:∀{T:Tab} {f:Frame} {bx:List Box} {l:List ResultVar} {K K':List PV→Prop},(∀vs,K vs→K' vs)→pres T f bx l K→pres T f bx l K':=by
  intro T f bx l
  induction l with
  | nil=>exact fun hK h=>hK _ h
  | cons r l ih =>
   intro K K' hK h
   exact m58
 refine Za2 hmix hC hM hf hb hok hlen h (fun pe f' σ' hq=>?_) hS hargs;have fin:∀{pv:PV} {p:PV→PEnd} {en:Value→Ending},(∀(pv:PV) (e:Env) (σ:St) (w:World) v,VRel G e σ w pv v→Zlz G e σ w (p pv) (en v))→(ZaS keep own pv σ' fun v σ''=>R (p v) σ'')→∀(e':Env) (w':World) (v:Value),SRel G e' σ' w'→VRel G e' σ' w' pv v→Later e σ w e' σ' w'→YH G e σ w R (en v) w':=fun {pv p en} hpe hl e' w' v hS' hv hL=>by
  obtain ⟨pv',σ'',e'',hK,hv',hS'',hL''⟩:=XK hS' hL hk hv hl;exact ⟨p pv',σ'',e'',hK,hpe _ _ _ _ _ hv',hS'',hL''⟩
 cases pe with
 | normal=>exact presM (fun vs hl=>fin (p:=.ret) (en:=.returned) (fun _ _ _ _ v h=>⟨v,rfl,h⟩) hl) hq
 | ret=>exact presM (fun vs hl=>fin (p:=.ret) (en:=.returned) (fun _ _ _ _ v h=>⟨v,rfl,h⟩) hl) hq
 | panic p=>exact fin (p:=.panic) (en:=fun v=>.panicked [{ v:=v,recovered:=false }]) (fun _ _ _ _ v h=>⟨v,rfl,h⟩) hq
 | exit id=>exact hq.elim
 | goto l=>exact hq.elim
end
end Go.PM
end

section
namespace Go.PM
mutual
def Zwq:PV→List Nat→List Nat
 | .ptr b _,acc=>match ZjY b acc with | true=>acc | false=>acc++[b]
 | .asl b _ _,acc=>match ZjY b acc with | true=>acc | false=>acc++[b]
 | .func _ a c,acc=>ZdJ c (ZdJ a acc)
 | .iface _ v,acc=>Zwq v acc
 | .agg cs,acc=>ZdJ cs acc
 | .tuple vs,acc=>ZdJ vs acc
 | _,acc=>acc
def ZdJ:List PV→List Nat→List Nat
 | [],acc=>acc
 | v::l,acc=>ZdJ l (Zwq v acc)
end
def Zdi (bx:List Box):Nat→Nat→List Nat→List Nat
 | 0,_,acc=>acc
 | n+1,i,acc=>match acc[i]? with
  | none=>acc
  | some b=>match bx[b]? with
   | some (.cells _ cs)=>Zdi bx n (i+1) (ZdJ cs acc)
   | _=>Zdi bx n (i+1) acc
def Zin (b:Nat):List Nat→Nat→Option Nat
 | [],_=>none
 | x::l,i=>match Nat.beq x b with | true=>some i | false=>Zin b l (i+1)
def Zgk:List Nat→Bool
 | []=>true
 | x::l=>match ZjY x l with | true=>false | false=>Zgk l
mutual
def Zwc (bs:List Nat):PV→PV
 | .ptr b o=>match Zin b bs 0 with | some i=>.ptr i o | none=>.undef
 | .asl b o n=>match Zin b bs 0 with | some i=>.asl i o n | none=>.undef
 | .func f a c=>.func f (ZjZ bs a) (ZjZ bs c)
 | .iface t v=>.iface t (Zwc bs v)
 | .agg cs=>.agg (ZjZ bs cs)
 | .tuple vs=>.tuple (ZjZ bs vs)
 | .d x=>.d x
 | .undef=>.undef
 | .elem r o=>.elem r o
 | .sl t e rows=>.sl t e rows
 | .nils e=>.nils e
 | .raw v=>.raw v
def ZjZ (bs:List Nat):List PV→List PV
 | []=>[]
 | v::l=>Zwc bs v::ZjZ bs l
end
def ZqZ (bs:List Nat) (bx:List Box):List Nat→(List Box→Prop)→Prop
 | [],K=>K []
 | b::l,K=>match bx[b]? with
  | some (.cells t cs)=>ZqZ bs bx l fun r=>K (.cells t (ZjZ bs cs)::r)
  | some (.iter s p)=>ZqZ bs bx l fun r=>K (.iter s p::r)
  | some (.loop _ _ _)=>False
  | none=>False
mutual
def Zio (bs:List Nat) (m L nx:Nat):PV→PV
 | .ptr i o=>match bs[i]? with | some b=>.ptr b o | none=>.ptr (L+(i - m)) o
 | .asl i o n=>match bs[i]? with | some b=>.asl b o n | none=>.asl (L+(i - m)) o n
 | .sl t e rows=>.sl (nx+t) e rows
 | .func f a c=>.func f (ZdK bs m L nx a) (ZdK bs m L nx c)
 | .iface t v=>.iface t (Zio bs m L nx v)
 | .agg cs=>.agg (ZdK bs m L nx cs)
 | .tuple vs=>.tuple (ZdK bs m L nx vs)
 | .d x=>.d x
 | .undef=>.undef
 | .elem r o=>.elem r o
 | .nils e=>.nils e
 | .raw v=>.raw v
def ZdK (bs:List Nat) (m L nx:Nat):List PV→List PV
 | []=>[]
 | v::l=>Zio bs m L nx v::ZdK bs m L nx l
end
def UW (bs:List Nat) (m L nx:Nat):Box→Box
 | .cells t cs=>.cells t (ZdK bs m L nx cs)
 | .iter s p=>.iter s p
 | .loop st pd r=>.loop st pd r
def ZcA (bb:Box→Box):List Nat→List Box→List Box→(List Box→Prop)→Prop
 | [],xs,acc,K=>K (acc++xs.map bb)
 | b::l,x::xs,acc,K=>ZcA bb l xs (acc.set b (bb x)) K
 | _::_,[],_,_=>False
def Zha (bs:List Nat) (m L nx:Nat):PEnd→PEnd
 | .ret v=>.ret (Zio bs m L nx v)
 | .panic v=>.panic (Zio bs m L nx v)
def Za3 (sp:Zr) (args:List PV) (σ:St) (K:PEnd→St→Prop):Prop :=
 Zed (Zdi σ.bx (σ.bx.length+1) 0 (ZdJ args [])) fun bs=>match Zgk bs with
 | true=>ZqZ bs σ.bx bs fun cb=>ZtY bs.length (ZjZ bs args) σ.tk 0 fun args' tk k=>Zh3 bs.length bs.length cb tk k fun cb' rest k =>
   sp args' ⟨cb',toks k,k⟩ fun pe σ3=>ZcA (UW bs bs.length σ.bx.length σ.nx) bs σ3.bx σ.bx fun bx =>
    K (Zha bs bs.length σ.bx.length σ.nx pe) ⟨bx,rest++σ3.tk.map (σ.nx+·),σ.nx+σ3.nx⟩
 | false=>False
def ZbD (sp:Zr) (args:List PV) (σ:St) (K:PEnd→St→Prop):Prop :=
 Zed (Zdi σ.bx (σ.bx.length+1) 0 (ZdJ args [])) fun bs=>match Zgk bs with
 | true=>ZqZ bs σ.bx bs fun cb=>ZmQ bs.length (ZjZ bs args) σ.tk 0 fun args' tk k=>Zh3 bs.length bs.length cb tk k fun cb' rest k =>
   sp args' ⟨cb',toks k,k⟩ fun pe σ3=>ZcA (UW bs bs.length σ.bx.length σ.nx) bs σ3.bx σ.bx fun bx =>
    K (Zha bs bs.length σ.bx.length σ.nx pe) ⟨bx,rest++σ3.tk.map (σ.nx+·),σ.nx+σ3.nx⟩
 | false=>False
theorem UX:∀{l:List Nat},Zgk l=true→∀(i j b:Nat),l[i]?=some b→l[j]?=some b→i=j
 | [],_,i,j,b,h,_=>by simp at h
 | x::l,h,i,j,b,hi,hj=>by
  simp only [Zgk] at h;split at h
  ·cases h
  ·rename_i hm
   have hx:∀k:Nat,l[k]?≠some x:=fun k hk=>by
    have:=(Y3 x l).2 (T5 hk);rw [this] at hm;cases hm
   cases i with
   | zero =>
    cases j with
    | zero=>rfl
    | succ j=>simp at hi hj;subst hi;exact absurd hj (hx j)
   | succ i =>
    cases j with
    | zero=>simp at hi hj;subst hj;exact absurd hi (hx i)
    | succ j=>simp at hi hj;rw [UX h i j b hi hj]
theorem ZcB {b:Nat}:∀{l:List Nat} {i j:Nat},Zin b l i=some j→i≤j∧l[j - i]?=some b
 | [],i,j,h=>by simp [Zin] at h
 | x::l,i,j,h=>by
  simp only [Zin] at h;split at h
  ·rename_i hb;cases h;simp [Tm hb]
  ·obtain ⟨h1,h2⟩:=ZcB h;refine ⟨by omega,?_⟩;rw [show j - i=(j - (i+1))+1 by omega];simpa using h2
theorem Ve {bs:List Nat}:∀{l:List PV} (i:Nat) (y:PV),(ZjZ bs l)[i]?=some y→∃x,l[i]?=some x∧y=Zwc bs x
 | [],i,y,h=>by simp [ZjZ] at h
 | x::l,i,y,h=>by
  cases i with
  | zero=>simp [ZjZ] at h;exact ⟨x,by simp,h.symm⟩
  | succ i=>simp only [ZjZ,T1] at h;obtain ⟨z,h1,h2⟩:=Ve i y h;exact ⟨z,by simpa using h1,h2⟩
theorem YQ {bs:List Nat}:∀{l:List PV},(ZjZ bs l).length=l.length
 | []=>rfl
 | x::l=>by simp [ZjZ,YQ]
theorem Ut {bs:List Nat} {m L nx:Nat}:∀{l:List PV} (i:Nat) (y:PV),(ZdK bs m L nx l)[i]?=some y→∃x,l[i]?=some x∧y=Zio bs m L nx x
 | [],i,y,h=>by simp [ZdK] at h
 | x::l,i,y,h=>by
  cases i with
  | zero=>simp [ZdK] at h;exact ⟨x,by simp,h.symm⟩
  | succ i=>simp only [ZdK,T1] at h;obtain ⟨z,h1,h2⟩:=Ut i y h;exact ⟨z,by simpa using h1,h2⟩
theorem XT {bs:List Nat} {m L nx:Nat}:∀{l:List PV},(ZdK bs m L nx l).length=l.length
 | []=>rfl
 | x::l=>by simp [ZdK,XT]
def Ztn (bs:List Nat):Box→Box
 | .cells t cs=>.cells t (ZjZ bs cs)
 | .iter s p=>.iter s p
 | .loop st pd r=>.loop st pd r
theorem Zex {bs:List Nat} {bx:List Box}:∀{l:List Nat} {K:List Box→Prop},ZqZ bs bx l K→∃cb,K cb∧cb.length=l.length∧∀(j b:Nat),l[j]?=some b→∃x,bx[b]?=some x∧cb[j]?=some (Ztn bs x)
 | [],K,h=>⟨[],h,rfl,fun j b hj=>by simp at hj⟩
 | b::l,K,h=>by
  simp only [ZqZ] at h;split at h
  ·rename_i t cs hb
   exact m113
  ·rename_i s p hb
   exact m113
  ·exact h.elim
  ·exact h.elim
theorem ZdU {bb:Box→Box}:∀{bs:List Nat} {xs acc:List Box} {K:List Box→Prop},(∀(i j b:Nat),bs[i]?=some b→bs[j]?=some b→i=j)→(∀b,b∈bs→b<acc.length)→ZcA bb bs xs acc K →
  ∃r,K r∧bs.length≤xs.length∧r.length=acc.length+(xs.length - bs.length)∧(∀(j b:Nat) (x:Box),bs[j]?=some b→xs[j]?=some x→r[b]?=some (bb x))∧(∀i,i<acc.length→i∉bs→r[i]?=acc[i]?) ∧
   ∀i,acc.length≤i→r[i]?=xs[bs.length+(i - acc.length)]?.map bb
 | [],xs,acc,K,hn,hl,h=>⟨_,h,by simp,by simp,fun j b x hj=>by simp at hj,fun i hi _=>by rw [TF hi],fun i hi=>by rw [TQ hi,TL];simp⟩
 | b::bs,x::xs,acc,K,hn,hl,h=>by
  simp only [ZcA] at h;have hlt:b<acc.length:=hl b (by simp);obtain ⟨r,h1,h2,h3,h4,h5,h6⟩:=ZdU (bs:=bs) (fun i j c hi hj=>by have:=hn (i+1) (j+1) c (by simpa using hi) (by simpa using hj);omega) (fun c hc=>by rw [Su];exact hl c (Tw _ hc)) h;have hnb:b∉bs:=fun hm=>by
   obtain ⟨k,hk,hke⟩:=TW hm;have:=hn 0 (k+1) b (by simp) (by simp [Tg hk,hke]);omega
  refine ⟨r,h1,by simp;omega,by rw [h3,Su];simp,fun j c y hj hy=>?_,fun i hi hni=>?_,fun i hi=>?_⟩
  ·cases j with
   | zero =>
    simp only [List.getElem?_cons_zero,Option.some.injEq] at hj hy;subst hj;subst hy;rw [h5 b (by rw [Su];exact hlt) hnb,List.getElem?_set_self hlt]
   | succ j=>exact h4 j c y (by simpa using hj) (by simpa using hy)
  ·have hib:b≠i:=fun e=>hni (e ▸ by simp)
   rw [h5 i (by rw [Su];exact hi) (fun hm=>hni (Tw _ hm)),List.getElem?_set_ne hib]
  ·rw [h6 i (by rw [Su];exact hi),Su,Td,show bs.length+1+(i - acc.length)=bs.length+(i - acc.length)+1 by omega,T1]
 | b::bs,[],acc,K,hn,hl,h=>h.elim
section
variable {G:GE} {e:Env} {σ:St} {w:World}
def Zhb (e:Env) (σ:St) (bs rest:List Nat) (b off:Nat):Prop :=
 e.X b off∨(∃i,i<σ.bx.length∧i∉bs∧e.β i=b)∨∃t,t∈rest∧∃p,e.M t=some p∧p.1=b∧p.2≤off
def Env.handed (e:Env) (σ:St) (bs rest:List Nat):Env:=⟨fun j=>e.β (bs.getD j 0),e.M,Zhb e σ bs rest⟩
structure Hand (σ:St) (bs rest pass:List Nat) (cb:List Box):Prop where
 nodup:∀(i j b:Nat),bs[i]?=some b→bs[j]?=some b→i=j
 len:cb.length=bs.length
 get:∀(j b:Nat),bs[j]?=some b→∃x,σ.bx[b]?=some x∧cb[j]?=some (Ztn bs x)
 restIn:∀t,t∈rest→t∈σ.tk
 passIn:∀t,t∈pass→t∈σ.tk∧t∉rest
variable {bs rest pass:List Nat} {cb:List Box}
theorem Hand.lt (h:Hand σ bs rest pass cb) {b:Nat} (hb:b∈bs):b<σ.bx.length:=by
 obtain ⟨k,hk,he⟩:=TW hb;obtain ⟨x,hx,_⟩:=h.get k b (by rw [Tg hk,he]);exact (Th.1 hx).1
theorem Hand.at (h:Hand σ bs rest pass cb) {j:Nat} (hj:j<bs.length):∃b,bs[j]?=some b∧b∈bs∧(e.handed σ bs rest).β j=e.β b:=by
 have:=Tg hj;exact ⟨bs[j],this,TP hj,by simp [Env.handed,this]⟩
theorem Zip (hS:SRel G e σ w) (h:Hand σ bs rest pass cb) {b off:Nat} (ho:okc e σ b off):okc (e.handed σ bs rest) ⟨cb,pass,σ.nx⟩ b off:=by
 refine ⟨fun hX=>?_,fun j hj=>?_,fun t ht p hp hpb=>ho.2.2 t (h.passIn t ht).1 p hp hpb⟩
 ·rcases hX with hX | ⟨i,h1,_,h2⟩ | ⟨t,h1,p,h2,h3,h4⟩
  ·exact ho.1 hX
  ·exact ho.2.1 i h1 h2
  ·have:=ho.2.2 t (h.restIn t h1) p h2 h3;omega
 ·obtain ⟨b',h1,h2,h3⟩:=h.at (e:=e) (show j<bs.length by rw [← h.len];exact hj);rw [h3];exact ho.2.1 b' (h.lt h2)
theorem VRel.ren (hS:SRel G e σ w) (h:Hand σ bs rest pass cb) {x:PV} {v:Value} (hv:VRel G e σ w x v):VRel G (e.handed σ bs rest) ⟨cb,pass,σ.nx⟩ w (Zwc bs x) v:=by
 have hd:∀{x:D} {v:Value},DRel (okc e σ) w x v→DRel (okc (e.handed σ bs rest) ⟨cb,pass,σ.nx⟩) w x v:=fun hd=>hd.mono fun b off u hu ho=>⟨Zip hS h ho,hu⟩
 induction hv with
 | d x v hx=>exact .d _ _ (hd hx)
 | undef v=>exact .undef _
 | ptr b off hb =>
  simp only [Zwc]
  cases hi:Zin b bs 0 with
  | none=>exact .undef _
  | some i =>
   obtain ⟨_,h2⟩:=ZcB hi;simp only [Nat.sub_zero] at h2;have hlt:=(Th.1 h2).1;have:(e.handed σ bs rest).β i=e.β b:=by simp [Env.handed,h2]
   rw [← this];exact .ptr i off (by show i<cb.length;rw [h.len];exact hlt)
 | asl b off n hb =>
  simp only [Zwc]
  cases hi:Zin b bs 0 with
  | none=>exact .undef _
  | some i =>
   obtain ⟨_,h2⟩:=ZcB hi;simp only [Nat.sub_zero] at h2;have hlt:=(Th.1 h2).1;have:(e.handed σ bs rest).β i=e.β b:=by simp [Env.handed,h2]
   rw [← this];exact .asl i off n (by show i<cb.length;rw [h.len];exact hlt)
 | elem r off b o u hc ho hu=>exact .elem r off b o u hc (fun j hj=>Zip hS h (ho j hj)) (fun j x hx=>hd (hu j x hx))
 | sl t el rows v hn hdd ht=>exact .sl t el rows v hn (hd hdd) fun hp=>ht (h.passIn t hp).1
 | nils el=>exact .nils el
 | func f a c va vc ha hc _ _ ih1 ih2 =>
  refine .func f _ _ va vc (by rw [YQ];exact ha) (by rw [YQ];exact hc) (fun i y u hy hu=>?_) (fun i y u hy hu=>?_)
  ·obtain ⟨x,hx,rfl⟩:=Ve i y hy;exact ih1 i x u hx hu
  ·obtain ⟨x,hx,rfl⟩:=Ve i y hy;exact ih2 i x u hx hu
 | iface t x v _ ih=>exact .iface t _ v ih
 | agg cs vs hs _ h1 ih=>exact .agg _ vs (by rw [YQ];exact hs) (fun i y u hy hu=>by obtain ⟨x,hx,rfl⟩:=Ve i y hy;exact ih i x u hx hu) h1
 | tuple cs vs hs _ ih=>exact .tuple _ vs (by rw [YQ];exact hs) (fun i y u hy hu=>by obtain ⟨x,hx,rfl⟩:=Ve i y hy;exact ih i x u hx hu)
 | raw v=>exact .raw _
theorem SRel.ren (hS:SRel G e σ w) (h:Hand σ bs rest pass cb):SRel G (e.handed σ bs rest) ⟨cb,pass,σ.nx⟩ w where
 inj:=fun i j hi hj he=>by
  obtain ⟨b,h1,h2,h3⟩:=h.at (e:=e) (show i<bs.length by rw [← h.len];exact hi);obtain ⟨b',h1',h2',h3'⟩:=h.at (e:=e) (show j<bs.length by rw [← h.len];exact hj);rw [h3,h3'] at he;have:=hS.inj b b' (h.lt h2) (h.lt h2') he;subst this;exact h.nodup i j b h1 h1'
 box:=fun j y hy=>by
  have hj:=(Th.1 hy).1;obtain ⟨b,h1,h2,h3⟩:=h.at (e:=e) (show j<bs.length by rw [← h.len];exact hj);obtain ⟨x,hx,hcb⟩:=h.get j b h1;simp only at hy;rw [hcb] at hy
  cases hy
  have hB:=hS.box b x hx;rw [h3]
  cases x with
  | cells t cs =>
   obtain ⟨vs,g1,g2,g3⟩:=hB;refine ⟨vs,g1,by rw [YQ];exact g2,fun i y u hy hu=>?_⟩;obtain ⟨z,hz,rfl⟩:=Ve i y hy;exact ⟨(g3 i z u hz hu).1.ren hS h,(g3 i z u hz hu).2⟩
  | iter s p=>exact hB
  | loop st pd r=>exact hB
 low:=fun j hj=>by
  obtain ⟨b,h1,h2,h3⟩:=h.at (e:=e) (show j<bs.length by rw [← h.len];exact hj);rw [h3];exact hS.low b (h.lt h2)
 tkn:=fun t ht=>hS.tkn t (h.passIn t ht).1
 own:=fun t ht p hp=>by
  obtain ⟨h1,h2,h3⟩:=hS.own t (h.passIn t ht).1 p hp;refine ⟨h1,fun j hj=>?_,h3⟩;obtain ⟨b,g1,g2,g3⟩:=h.at (e:=e) (show j<bs.length by rw [← h.len];exact hj);rw [g3];exact h2 b (h.lt g2)
 dis:=fun t t' ht ht'=>hS.dis t t' (h.passIn t ht).1 (h.passIn t' ht').1
 xlt:=fun b off hX=>by
  rcases hX with hX | ⟨i,h1,_,h2⟩ | ⟨t,h1,p,h2,h3,h4⟩
  ·exact hS.xlt b off hX
  ·rw [← h2];exact hS.lt h1
  ·obtain ⟨_,_,cs,ty,fz,hh⟩:=hS.own t (h.restIn t h1) p h2;rw [← h3];exact (Tp.1 hh).1
 xown:=fun t ht p hp off hoff hX=>by
  rcases hX with hX | ⟨i,h1,_,h2⟩ | ⟨t',h1,p',h2,h3,h4⟩
  ·exact hS.xown t (h.passIn t ht).1 p hp off hoff hX
  ·exact (hS.own t (h.passIn t ht).1 p hp).2.1 i h1 h2
  ·exact hS.dis t' t (h.restIn t' h1) (h.passIn t ht).1 (fun e=>(h.passIn t ht).2 (e ▸ h1)) p' p h2 hp h3
 glob:=hS.glob
 big:=hS.big
def Env.back (e:Env) (L m nx:Nat) (e3:Env):Env:=⟨fun i=>if i<L then e.β i else e3.β (m+(i - L)),fun t=>if t<nx then e.M t else e3.M (t - nx),e.X⟩
structure Handed (e:Env) (σ:St) (w:World) (bs rest:List Nat) (e2:Env) (σ2:St):Prop where
 nodup:∀(i j b:Nat),bs[i]?=some b→bs[j]?=some b→i=j
 lt:∀b,b∈bs→b<σ.bx.length
 len:σ2.bx.length=bs.length
 beta:∀(j b:Nat),bs[j]?=some b→e2.β j=e.β b
 X:e2.X=Zhb e σ bs rest
 okc:∀b off,okc e σ b off→okc e2 σ2 b off
 tok:∀t,t∈σ2.tk→∀p,e2.M t=some p→∃t0,t0∈σ.tk∧t0∉rest∧e.M t0=some p
 restIn:∀t,t∈rest→t∈σ.tk
variable {e2 e3:Env} {σ2 σ3:St} {w':World} {bx:List Box}
structure Backed (σ:St) (bs:List Nat) (σ3:St) (bx:List Box):Prop where
 le:bs.length≤σ3.bx.length
 len:bx.length=σ.bx.length+(σ3.bx.length - bs.length)
 some:∀(j b:Nat) (x:Box),bs[j]?=some b→σ3.bx[j]?=some x→bx[b]?=some (UW bs bs.length σ.bx.length σ.nx x)
 old:∀i,i<σ.bx.length→i∉bs→bx[i]?=σ.bx[i]?
 new:∀i,σ.bx.length≤i→bx[i]?=σ3.bx[bs.length+(i - σ.bx.length)]?.map (UW bs bs.length σ.bx.length σ.nx)
abbrev VO (σ:St) (rest:List Nat) (σ3:St) (bx:List Box):St:=⟨bx,rest++σ3.tk.map (σ.nx+·),σ.nx+σ3.nx⟩
theorem YZ {t:Nat} (hS:SRel G e σ w) (h:Handed e σ w bs rest e2 σ2) (ht:t∈(VO σ rest σ3 bx).tk):(t∈rest∧t<σ.nx)∨∃t',t'∈σ3.tk∧t=σ.nx+t':=by
 rcases TT.1 ht with h1 | h1
 ·exact .inl ⟨h1,hS.tkn t (h.restIn t h1)⟩
 ·obtain ⟨t',h2,h3⟩:=Sy.1 h1;exact .inr ⟨t',h2,h3.symm⟩
theorem Xs {L m nx t:Nat} (h:t<nx):(e.back L m nx e3).M t=e.M t:=by simp [Env.back,h]
theorem back_M_new {L m nx t:Nat}:(e.back L m nx e3).M (nx+t)=e3.M t:=by
 have:¬nx+t<nx:=by omega
 simp [Env.back,this]
theorem Yo {L m nx i:Nat} (h:i<L):(e.back L m nx e3).β i=e.β i:=by simp [Env.back,h]
theorem Vk {L m nx i:Nat} (h:L≤i):(e.back L m nx e3).β i=e3.β (m+(i - L)):=by
 have:¬i<L:=by omega
 simp [Env.back,this]
theorem Zkn (h:Handed e σ w bs rest e2 σ2) (hL:Later e2 σ2 w e3 σ3 w') {i:Nat} (hi:i<σ.bx.length):(∃j,j<σ2.bx.length∧bs[j]?=some i∧e3.β j=e.β i)∨(i∉bs∧∀off,e3.X (e.β i) off):=by
 by_cases hm:i∈bs
 ·obtain ⟨j,hj,he⟩:=TW hm;have hb:bs[j]?=some i:=by rw [Tg hj,he]
  have hj2:j<σ2.bx.length:=by rw [h.len];exact hj
  exact .inl ⟨j,hj2,hb,(hL.beta j hj2).trans (h.beta j i hb)⟩
 ·exact .inr ⟨hm,fun off=>by rw [hL.X,h.X];exact .inr (.inl ⟨i,hi,hm,rfl⟩)⟩
theorem Zhc (hS:SRel G e σ w) (h:Handed e σ w bs rest e2 σ2) (hL:Later e2 σ2 w e3 σ3 w') (hb:Backed σ bs σ3 bx) {b off:Nat} (ho:okc e3 σ3 b off) :
  okc (e.back σ.bx.length bs.length σ.nx e3) (VO σ rest σ3 bx) b off:=by
 have hX:¬Zhb e σ bs rest b off:=by rw [← h.X,← hL.X];exact ho.1
 refine ⟨fun hx=>hX (.inl hx),fun i hi=>?_,fun t ht p hp hpb=>?_⟩
 ·by_cases hlt:i<σ.bx.length
  ·rw [Yo hlt];rcases Zkn h hL hlt with ⟨j,hj,_,he⟩ | ⟨_,hx⟩
   ·rw [← he];exact ho.2.1 j (TD hj hL.len)
   ·intro e;rw [← e] at ho;exact ho.1 (hx off)
  ·rw [Vk (by omega)];have hlen:=hb.len;have hle:=hb.le;simp only at hi;exact ho.2.1 _ (by omega)
 ·rcases YZ hS h ht with ⟨h1,h2⟩ | ⟨t',h1,rfl⟩
  ·rw [Xs h2] at hp;have:¬p.2≤off:=fun hle=>hX (.inr (.inr ⟨t,h1,p,hp,hpb,hle⟩))
   omega
  ·rw [back_M_new] at hp;exact ho.2.2 t' h1 p hp hpb
theorem VRel.back (hS:SRel G e σ w) (h:Handed e σ w bs rest e2 σ2) (hL:Later e2 σ2 w e3 σ3 w') (hb:Backed σ bs σ3 bx) {x:PV} {v:Value} (hv:VRel G e3 σ3 w' x v) :
  VRel G (e.back σ.bx.length bs.length σ.nx e3) (VO σ rest σ3 bx) w' (Zio bs bs.length σ.bx.length σ.nx x) v:=by
 have hd:∀{x:D} {v:Value},DRel (okc e3 σ3) w' x v→DRel (okc (e.back σ.bx.length bs.length σ.nx e3) (VO σ rest σ3 bx)) w' x v:=fun hd=>hd.mono fun b off u hu ho=>⟨Zhc hS h hL hb ho,hu⟩
 induction hv with
 | d x v hx=>exact .d _ _ (hd hx)
 | undef v=>exact .undef _
 | ptr i off hi =>
  simp only [Zio];have hlen:=hb.len;have hle:=hb.le
  cases hbi:bs[i]? with
  | some b =>
   have hj:=(Th.1 hbi).1;have hlt:=h.lt b (T5 hbi);have:e3.β i=(e.back σ.bx.length bs.length σ.nx e3).β b:=by
    rw [Yo hlt];exact (hL.beta i (by rw [h.len];exact hj)).trans (h.beta i b hbi)
   rw [this];exact .ptr b off (by show b<bx.length;omega)
  | none =>
   have hge:bs.length≤i:=by simpa using hbi
   have:e3.β i=(e.back σ.bx.length bs.length σ.nx e3).β (σ.bx.length+(i - bs.length)):=by
    rw [Vk (by omega)];congr 1;omega
   rw [this];exact .ptr _ off (by show _<bx.length;omega)
 | asl i off n hi =>
  simp only [Zio];have hlen:=hb.len;have hle:=hb.le
  cases hbi:bs[i]? with
  | some b =>
   have hj:=(Th.1 hbi).1;have hlt:=h.lt b (T5 hbi);have:e3.β i=(e.back σ.bx.length bs.length σ.nx e3).β b:=by
    rw [Yo hlt];exact (hL.beta i (by rw [h.len];exact hj)).trans (h.beta i b hbi)
   rw [this];exact .asl b off n (by show b<bx.length;omega)
  | none =>
   have hge:bs.length≤i:=by simpa using hbi
   have:e3.β i=(e.back σ.bx.length bs.length σ.nx e3).β (σ.bx.length+(i - bs.length)):=by
    rw [Vk (by omega)];congr 1;omega
   rw [this];exact .asl _ off n (by show _<bx.length;omega)
 | elem r off b o u hc ho hu=>exact .elem r off b o u hc (fun j hj=>Zhc hS h hL hb (ho j hj)) (fun j x hx=>hd (hu j x hx))
 | sl t el rows v hn hdd ht =>
  refine .sl _ el rows v (by show σ.nx+t<σ.nx+σ3.nx;omega) (hd hdd) fun hp=>?_
  rcases YZ hS h hp with ⟨_,h2⟩ | ⟨t',h1,h2⟩
  ·omega
  ·obtain rfl:t=t':=by omega
   rcases ht h1 with ⟨g1,g2,g3⟩ | ⟨sz,g1,g2,g3,b,off,cap,cs,ty,fz,g4,g5,g6,g7,g8,g9,g10⟩
   ·exact .inl ⟨g1,g2,back_M_new.trans g3⟩
   ·exact .inr ⟨sz,g1,g2,g3,b,off,cap,cs,ty,fz,g4,g5,g6,g7,g8,g9,back_M_new.trans g10⟩
 | nils el=>exact .nils el
 | func f a c va vc ha hc _ _ ih1 ih2 =>
  refine .func f _ _ va vc (by rw [XT];exact ha) (by rw [XT];exact hc) (fun i y u hy hu=>?_) (fun i y u hy hu=>?_)
  ·obtain ⟨x,hx,rfl⟩:=Ut i y hy;exact ih1 i x u hx hu
  ·obtain ⟨x,hx,rfl⟩:=Ut i y hy;exact ih2 i x u hx hu
 | iface t x v _ ih=>exact .iface t _ v ih
 | agg cs vs hs _ h1 ih=>exact .agg _ vs (by rw [XT];exact hs) (fun i y u hy hu=>by obtain ⟨x,hx,rfl⟩:=Ut i y hy;exact ih i x u hx hu) h1
 | tuple cs vs hs _ ih=>exact .tuple _ vs (by rw [XT];exact hs) (fun i y u hy hu=>by obtain ⟨x,hx,rfl⟩:=Ut i y hy;exact ih i x u hx hu)
 | raw v=>exact .raw _
theorem VP (hS:SRel G e σ w) (h:Handed e σ w bs rest e2 σ2) (hS3:SRel G e3 σ3 w') (hL:Later e2 σ2 w e3 σ3 w') (hb:Backed σ bs σ3 bx):Stepped e σ w (e.back σ.bx.length bs.length σ.nx e3) (VO σ rest σ3 bx) w' where
 len:=by show σ.bx.length≤bx.length;rw [hb.len];omega
 beta:=fun i hi=>Yo hi
 X:=rfl
 pres:=fun b off u hu ho=>by
  obtain ⟨h1,h2⟩:=hL.pres b off u hu (h.okc b off ho);exact ⟨Zhc hS h hL hb h1,h2⟩
 blocks:=fun b hlt hn ht=>hL.blocks b hlt (fun j hj=>by
   have hj':j<bs.length:=by rw [← h.len];exact hj
   have hbj:=Tg hj';rw [h.beta j _ hbj];exact hn _ (h.lt _ (TP hj'))) (fun t htm p hp=>by
   obtain ⟨t0,h1,_,h2⟩:=h.tok t htm p hp;exact ht t0 h1 p h2)
 size:=hL.size
 os:=hL.os
 tape:=hL.tape
 output:=hL.output
 fresh:=fun i h1 h2=>by
  rw [Vk h1];have hlen:=hb.len;have hle:=hb.le;have:i<bx.length:=h2;exact hL.fresh _ (by rw [h.len];omega) (by omega)
 ftok:=fun t ht p hp=>by
  rcases YZ hS h ht with ⟨h1,h2⟩ | ⟨t',h1,rfl⟩
  ·rw [Xs h2] at hp;exact .inr ⟨t,h.restIn t h1,p,hp,rfl⟩
  ·rw [back_M_new] at hp;rcases hL.ftok t' h1 p hp with h2 | ⟨t0,h3,p0,h4,h5⟩
   ·exact .inl h2
   ·obtain ⟨t1,g1,_,g2⟩:=h.tok t0 h3 p0 h4;exact .inr ⟨t1,g1,p0,g2,h5⟩
 nx:=Nat.le_add_right _ _
 toks:=fun t hlt ht=>by
  rcases YZ hS h ht with ⟨h1,_⟩ | ⟨t',h1,rfl⟩
  ·exact ⟨h.restIn t h1,Xs hlt⟩
  ·omega
 own:=fun t hlt ht p hp hplt=>by
  rcases YZ hS h ht with ⟨h1,_⟩ | ⟨t',h1,rfl⟩
  ·obtain ⟨_,hnb,_⟩:=hS.own t (h.restIn t h1) p hp;refine hL.blocks p.1 hplt (fun j hj=>?_) (fun t2 ht2 p2 hp2=>?_)
   ·have hj':j<bs.length:=by rw [← h.len];exact hj
    have hbj:=Tg hj';rw [h.beta j _ hbj];exact hnb _ (h.lt _ (TP hj'))
   ·obtain ⟨t0,g1,g2,g3⟩:=h.tok t2 ht2 p2 hp2;exact hS.dis t0 t g1 (h.restIn t h1) (fun e=>g2 (e ▸ h1)) p2 p g3 hp
  ·omega
theorem SRel.back (hS:SRel G e σ w) (h:Handed e σ w bs rest e2 σ2) (hS3:SRel G e3 σ3 w') (hL:Later e2 σ2 w e3 σ3 w') (hb:Backed σ bs σ3 bx):SRel G (e.back σ.bx.length bs.length σ.nx e3) (VO σ rest σ3 bx) w':=by
 have hst:=VP hS h hS3 hL hb;have hlen:=hb.len;have hle:=hb.le;have hbx:(VO σ rest σ3 bx).bx.length=bx.length:=rfl;have hnew:∀i,σ.bx.length≤i→i<bx.length→(e.back σ.bx.length bs.length σ.nx e3).β i=e3.β (bs.length+(i - σ.bx.length))∧bs.length+(i - σ.bx.length)<σ3.bx.length∧w.heap.size≤e3.β (bs.length+(i - σ.bx.length)):=fun i h1 h2=>by
  have:=hst.fresh i h1 h2;rw [Vk h1] at this;exact ⟨Vk h1,by omega,this⟩
 have hrest:∀t,t∈rest→∀p,e.M t=some p→p.1<w.heap.size:=fun t ht p hp=>by
  obtain ⟨_,_,cs,ty,fz,hh⟩:=hS.own t (h.restIn t ht) p hp;exact (Tp.1 hh).1
 constructor
 ·intro i j hi hj he
  by_cases h1:i<σ.bx.length <;> by_cases h2:j<σ.bx.length
  ·rw [Yo h1,Yo h2] at he;exact hS.inj i j h1 h2 he
  ·obtain ⟨g1,g2,g3⟩:=hnew j (by omega) hj;rw [Yo h1,g1] at he;have:=hS.lt h1;omega
  ·obtain ⟨g1,g2,g3⟩:=hnew i (by omega) hi;rw [Yo h2,g1] at he;have:=hS.lt h2;omega
  ·obtain ⟨g1,g2,g3⟩:=hnew i (by omega) hi;obtain ⟨k1,k2,k3⟩:=hnew j (by omega) hj;rw [g1,k1] at he;have:=hS3.inj _ _ g2 k2 he;omega
 ·intro i x hx
  have hi:=(Th.1 hx).1;simp only at hx hi;have hBk:∀(y:Box) (b:Nat),BRel G e3 σ3 w' y b→BRel G (e.back σ.bx.length bs.length σ.nx e3) (VO σ rest σ3 bx) w' (UW bs bs.length σ.bx.length σ.nx y) b:=fun y b hB=>by
   cases y with
   | cells t cs =>
    obtain ⟨vs,g1,g2,g3⟩:=hB;refine ⟨vs,g1,by rw [XT];exact g2,fun k z u hz hu=>?_⟩;obtain ⟨z',hz',rfl⟩:=Ut k z hz;exact ⟨(g3 k z' u hz' hu).1.back hS h hL hb,(g3 k z' u hz' hu).2⟩
   | iter s p=>exact hB
   | loop st pd r=>exact hB
  by_cases h1:i<σ.bx.length
  ·rw [Yo h1];rcases Zkn h hL h1 with ⟨j,hj,hbj,he⟩ | ⟨hni,hX⟩
   ·have hj3:j<σ3.bx.length:=TD hj hL.len;have:=hb.some j i _ hbj (Tg hj3);rw [this] at hx
    cases hx
    rw [← he];exact hBk _ _ (hS3.box j _ (Tg hj3))
   ·rw [hb.old i h1 hni] at hx;refine (hS.box i x hx).step hst (hL.blocks _ (hS.lt h1) (fun j hj=>?_) (fun t ht p hp=>?_))
    ·have hj':j<bs.length:=by rw [← h.len];exact hj
     have hbj:=Tg hj';rw [h.beta j _ hbj];intro he
     have:=hS.inj _ _ (h.lt _ (TP hj')) h1 he;exact hni (this ▸ TP hj')
    ·obtain ⟨t0,g1,_,g2⟩:=h.tok t ht p hp;exact fun he=>(hS.own t0 g1 p g2).2.1 i h1 he.symm
  ·obtain ⟨g1,g2,g3⟩:=hnew i (by omega) hi;rw [hb.new i (by omega),Tg g2] at hx
   cases hx
   rw [g1];exact hBk _ _ (hS3.box _ _ (Tg g2))
 ·intro i hi
  by_cases h1:i<σ.bx.length
  ·rw [Yo h1];exact hS.low i h1
  ·obtain ⟨g1,g2,g3⟩:=hnew i (by omega) hi;rw [g1];exact hS3.low _ g2
 ·intro t ht
  rcases YZ hS h ht with ⟨_,h2⟩ | ⟨t',h1,rfl⟩
  ·show t<σ.nx+σ3.nx;omega
  ·have:=hS3.tkn t' h1;show σ.nx+t'<σ.nx+σ3.nx;omega
 ·intro t ht p hp
  rcases YZ hS h ht with ⟨h1,h2⟩ | ⟨t',h1,rfl⟩
  ·rw [Xs h2] at hp;obtain ⟨g1,g2,cs,ty,fz,g3⟩:=hS.own t (h.restIn t h1) p hp;refine ⟨g1,fun i hi=>?_,cs,ty,fz,(hst.own t h2 ht p hp (hrest t h1 p hp)).trans g3⟩
   by_cases h3:i<σ.bx.length
   ·rw [Yo h3];exact g2 i h3
   ·obtain ⟨k1,k2,k3⟩:=hnew i (by omega) hi;rw [k1];have:=hrest t h1 p hp;omega
  ·rw [back_M_new] at hp;obtain ⟨g1,g2,g3⟩:=hS3.own t' h1 p hp;refine ⟨g1,fun i hi=>?_,g3⟩
   by_cases h3:i<σ.bx.length
   ·rw [Yo h3];rcases Zkn h hL h3 with ⟨j,hj,_,he⟩ | ⟨_,hX⟩
    ·rw [← he];exact g2 j (TD hj hL.len)
    ·intro he
     exact hS3.xown t' h1 p hp p.2 (Tq _) (he ▸ hX p.2)
   ·obtain ⟨k1,k2,k3⟩:=hnew i (by omega) hi;rw [k1];exact g2 _ k2
 ·intro t t' ht ht' hne p p' hp hp'
  have mixed:∀t t',t∈rest→t<σ.nx→t'∈σ3.tk→∀p p',e.M t=some p→e3.M t'=some p'→p.1≠p'.1:=fun t t' h1 h2 h3 p p' hp hp' he=>by
   refine hS3.xown t' h3 p' hp' (max p.2 p'.2) (Nat.le_max_right _ _) ?_;rw [hL.X,h.X];exact .inr (.inr ⟨t,h1,p,hp,he,Nat.le_max_left _ _⟩)
  rcases YZ hS h ht with ⟨h1,h2⟩ | ⟨s,h1,rfl⟩ <;> rcases YZ hS h ht' with ⟨k1,k2⟩ | ⟨s',k1,rfl⟩
  ·rw [Xs h2] at hp;rw [Xs k2] at hp';exact hS.dis t t' (h.restIn t h1) (h.restIn t' k1) hne p p' hp hp'
  ·rw [Xs h2] at hp;rw [back_M_new] at hp';exact mixed t s' h1 h2 k1 p p' hp hp'
  ·rw [back_M_new] at hp;rw [Xs k2] at hp';exact fun he=>mixed t' s k1 k2 h1 p' p hp' hp he.symm
  ·rw [back_M_new] at hp hp';exact hS3.dis s s' h1 k1 (fun e=>hne (by rw [e])) p p' hp hp'
 ·intro b off hX
  exact TD (hS.xlt b off hX) hL.size
 ·intro t ht p hp off hoff hX
  rcases YZ hS h ht with ⟨h1,h2⟩ | ⟨t',h1,rfl⟩
  ·rw [Xs h2] at hp;exact hS.xown t (h.restIn t h1) p hp off hoff hX
  ·rw [back_M_new] at hp;refine hS3.xown t' h1 p hp off hoff ?_;rw [hL.X,h.X];exact .inl hX
 ·exact hS3.glob
 ·exact hS3.big
theorem UY {g:FuncId} {sp:Zr} (hP:PCalls G g sp) {args:List PV} {K:PEnd→St→Prop} (hv:Za3 sp args σ K) :
  Vp G.P g∧∀(ro:Option Nat) (n:Nat) (e:Env) (w:World) (vs:Array Value),SRel G e σ w→ArgsRel G e σ w args vs→CallsIn (fw ro) n G.P g vs w (Zrc G e σ w K):=by
 unfold Za3 at hv
 simp only [Wy] at hv;generalize Zdi σ.bx (σ.bx.length+1) 0 (ZdJ args [])=bs at hv;split at hv
 ·rename_i hnd
  obtain ⟨cb,hv,hcl,hcg⟩:=Zex hv;obtain ⟨args',tk1,as1,hv,hx1,hI1,hal,hav⟩:=Zg3 (as:=[]) (NInv.start σ.tk σ.tk fun _ h=>h) hv;exact m3
 ·exact hv.elim
theorem ZfH {g:FuncId} {sp:Zr} (hP:PCalls G g sp) {args:List PV} {K:PEnd→St→Prop} (hv:ZbD sp args σ K) :
  Vp G.P g∧∀(ro:Option Nat) (n:Nat) (e:Env) (w:World) (vs:Array Value),SRel G e σ w→ArgsRel G e σ w args vs→CallsIn (fw ro) n G.P g vs w (Zrc G e σ w K):=by
 unfold ZbD at hv
 simp only [Wy] at hv;generalize Zdi σ.bx (σ.bx.length+1) 0 (ZdJ args [])=bs at hv;split at hv
 ·rename_i hnd
  obtain ⟨cb,hv,hcl,hcg⟩:=Zex hv;obtain ⟨args',tk1,as1,hv,hx1,hI1,hal,hav⟩:=Zg4 (as:=[]) (NInv.start σ.tk σ.tk fun _ h=>h) hv;exact m3
 ·exact hv.elim
def Za (sp:Zr):Prop:=∀args σ (K K':PEnd→St→Prop),(∀e σ,K e σ→K' e σ)→sp args σ K→sp args σ K'
theorem JH {bs:List Nat} {bx:List Box}:∀{l:List Nat} {K K':List Box→Prop},(∀r,K r→K' r)→ZqZ bs bx l K→ZqZ bs bx l K'
 | [],K,K',hK,h=>hK _ h
 | b::l,K,K',hK,h=>by
  simp only [ZqZ] at h ⊢;split at h
  ·exact JH (fun r hr=>hK _ hr) h
  ·exact JH (fun r hr=>hK _ hr) h
  ·exact h.elim
  ·exact h.elim
theorem ZoK {n:Nat} {tk:List Nat} {k:Nat} {v:PV} {K K':PV→List Nat→Nat→Prop} (hK:∀v t k,K v t k→K' v t k) (h:ZtX n tk k v K):ZtX n tk k v K':=by
 have gen:∀v,(match bnd n v with | true=>ZaR (clean v) fun v=>K v tk k | false=>K .undef tk k:Prop)→(match bnd n v with | true=>ZaR (clean v) fun v=>K' v tk k | false=>K' .undef tk k:Prop):=fun v h=>by
  split at h
  ·rw [Yl] at h ⊢;exact hK _ _ _ h
  ·exact hK _ _ _ h
 cases v with
 | sl t el rows =>
  simp only [ZtX] at h ⊢;split at h <;> exact hK _ _ _ h
 | nils el=>exact hK _ _ _ h
 | d x=>exact gen (.d x) h
 | undef=>exact gen .undef h
 | ptr b o=>exact gen (.ptr b o) h
 | asl b o n=>exact gen (.asl b o n) h
 | elem r o=>exact gen (.elem r o) h
 | func f a c=>exact gen (.func f a c) h
 | iface t v=>exact gen (.iface t v) h
 | agg cs=>exact gen (.agg cs) h
 | tuple cs=>exact gen (.tuple cs) h
 | raw v=>exact gen (.raw v) h
theorem Zey {n:Nat}:∀{vs:List PV} {tk:List Nat} {k:Nat} {K K':List PV→List Nat→Nat→Prop},(∀v t k,K v t k→K' v t k)→ZtY n vs tk k K→ZtY n vs tk k K'
 | [],_,_,_,_,hK,h=>hK _ _ _ h
 | v::vs,_,_,_,_,hK,h=>ZoK (fun v t k h=>Zey (fun vs t k h=>hK _ _ _ h) h) h
theorem Zgl {n:Nat} {tk:List Nat} {k:Nat} {v:PV} {K K':PV→List Nat→Nat→Prop} (hK:∀v t k,K v t k→K' v t k) (h:ZgW n tk k v K):ZgW n tk k v K':=by
 have gen:∀v,(match bnd n v with | true=>ZaR (cleanN v) fun v=>K v tk k | false=>K .undef tk k:Prop)→(match bnd n v with | true=>ZaR (cleanN v) fun v=>K' v tk k | false=>K' .undef tk k:Prop):=fun v h=>by
  split at h
  ·rw [Yl] at h ⊢;exact hK _ _ _ h
  ·exact hK _ _ _ h
 cases v with
 | sl t el rows =>
  simp only [ZgW] at h ⊢;split at h <;> exact hK _ _ _ h
 | nils el=>exact hK _ _ _ h
 | d x=>exact gen (.d x) h
 | undef=>exact gen .undef h
 | ptr b o=>exact gen (.ptr b o) h
 | asl b o n=>exact gen (.asl b o n) h
 | elem r o=>exact gen (.elem r o) h
 | func f a c=>exact gen (.func f a c) h
 | iface t v=>exact gen (.iface t v) h
 | agg cs=>exact gen (.agg cs) h
 | tuple cs=>exact gen (.tuple cs) h
 | raw v=>exact gen (.raw v) h
theorem ZcC {n:Nat}:∀{vs:List PV} {tk:List Nat} {k:Nat} {K K':List PV→List Nat→Nat→Prop},(∀v t k,K v t k→K' v t k)→ZmQ n vs tk k K→ZmQ n vs tk k K'
 | [],_,_,_,_,hK,h=>hK _ _ _ h
 | v::vs,_,_,_,_,hK,h=>Zgl (fun v t k h=>ZcC (fun vs t k h=>hK _ _ _ h) h) h
theorem Uu {n:Nat}:∀{m:Nat} {bs:List Box} {tk:List Nat} {k:Nat} {K K':List Box→List Nat→Nat→Prop},(∀v t k,K v t k→K' v t k)→Zh3 n m bs tk k K→Zh3 n m bs tk k K'
 | 0,_,_,_,_,_,hK,h=>by simp only [Zh3] at h ⊢;exact hK _ _ _ h
 | _+1,[],_,_,_,_,_,h=>h.elim
 | _+1,.cells t cs::bs,_,_,_,_,hK,h=>by
  simp only [Zh3] at h ⊢;exact Zey (fun v t k h=>Uu (fun _ _ _ h=>hK _ _ _ h) h) h
 | _+1,.iter s p::bs,_,_,K,K',hK,h=>by
  simp only [Zh3] at h ⊢;exact Uu (K:=fun l tk k=>K (.iter s p::l) tk k) (K':=fun l tk k=>K' (.iter s p::l) tk k) (fun _ _ _ h=>hK _ _ _ h) h
 | _+1,.loop st pd r::bs,_,_,K,K',hK,h=>by
  simp only [Zh3] at h ⊢;exact Uu (K:=fun l tk k=>K (.loop st pd r::l) tk k) (K':=fun l tk k=>K' (.loop st pd r::l) tk k) (fun _ _ _ h=>hK _ _ _ h) h
theorem Zac {bb:Box→Box}:∀{bs:List Nat} {xs acc:List Box} {K K':List Box→Prop},(∀r,K r→K' r)→ZcA bb bs xs acc K→ZcA bb bs xs acc K'
 | [],_,_,_,_,hK,h=>by simp only [ZcA] at h ⊢;exact hK _ h
 | _::_,[],_,_,_,_,h=>h.elim
 | b::bs,x::xs,_,_,_,hK,h=>by simp only [ZcA] at h ⊢;exact Zac hK h
theorem JI {sp:Zr} (hsp:Za sp):Za (Za3 sp):=fun args σ K K' hK h=>by
 unfold Za3 at h ⊢
 simp only [Wy] at h ⊢;split at h
 ·exact JH (fun cb h=>Zey (fun a t k h=>Uu (fun cb' r k h=>hsp _ _ _ _ (fun pe σ3 h=>Zac (fun bx h=>hK _ _ h) h) h) h) h) h
 ·exact h.elim
theorem Zhd {sp:Zr} (hsp:Za sp):Za (ZbD sp):=fun args σ K K' hK h=>by
 unfold ZbD at h ⊢
 simp only [Wy] at h ⊢;split at h
 ·exact JH (fun cb h=>ZcC (fun a t k h=>Uu (fun cb' r k h=>hsp _ _ _ _ (fun pe σ3 h=>Zac (fun bx h=>hK _ _ h) h) h) h) h) h
 ·exact h.elim
end
end Go.PM
end

section
namespace Go.PM
abbrev Tbl:=List (Nat×Zr)
def ZAo:Tbl→Nat→List PV→St→(PEnd→St→Prop)→Prop
 | [],_,_,_,_=>False
 | (g,sp)::l,n,args,σ,K=>match Nat.beq g n with
  | true=>Za3 sp args σ K
  | false=>ZAo l n args σ K
def TblOK (G:GE):Tbl→Prop
 | []=>True
 | (g,sp)::l=>(PCalls G g sp∧Za sp)∧TblOK G l
theorem TblOK.sem {G:GE}:∀{l:Tbl},TblOK G l→ZgZ G (ZAo l)
 | [],_=>fun _ _ _ _ h=>h.elim
 | (g,sp)::l,⟨⟨h1,_⟩,h2⟩=>fun n args σ K h=>by
  simp only [ZAo] at h;split at h
  ·rename_i hb
   cases Tm hb
   exact UY h1 h
  ·exact TblOK.sem h2 n args σ K h
theorem TblOK.mono {G:GE}:∀{l:Tbl},TblOK G l→∀n args σ (K K':PEnd→St→Prop),(∀e σ,K e σ→K' e σ)→ZAo l n args σ K→ZAo l n args σ K'
 | [],_=>fun _ _ _ _ _ _ h=>h.elim
 | (g,sp)::l,⟨⟨_,h1⟩,h2⟩=>fun n args σ K K' hK h=>by
  simp only [ZAo] at h ⊢;split at h
  ·exact JI h1 _ _ _ _ hK h
  ·exact TblOK.mono h2 n args σ K K' hK h
def ZAp (nl:Nat→Bool) (tbl:Tbl):Tbl→Nat→List PV→St→(PEnd→St→Prop)→Prop
 | [],_,_,_,_=>False
 | (g,sp)::l,n,args,σ,K=>match Nat.beq g n with
  | true=>match nl n with | true=>ZbD sp args σ K | false=>Za3 sp args σ K
  | false=>ZAp nl tbl l n args σ K
theorem TblOK.semN {G:GE} {nl:Nat→Bool} {tbl:Tbl}:∀{l:Tbl},TblOK G l→ZgZ G (ZAp nl tbl l)
 | [],_=>fun _ _ _ _ h=>h.elim
 | (g,sp)::l,⟨⟨h1,_⟩,h2⟩=>fun n args σ K h=>by
  simp only [ZAp] at h;split at h
  ·rename_i hb
   cases Tm hb
   split at h
   ·exact ZfH h1 h
   ·exact UY h1 h
  ·exact TblOK.semN h2 n args σ K h
theorem TblOK.monoN {G:GE} {nl:Nat→Bool} {tbl:Tbl}:∀{l:Tbl},TblOK G l→∀n args σ (K K':PEnd→St→Prop),(∀e σ,K e σ→K' e σ)→ZAp nl tbl l n args σ K→ZAp nl tbl l n args σ K'
 | [],_=>fun _ _ _ _ _ _ h=>h.elim
 | (g,sp)::l,⟨⟨_,h1⟩,h2⟩=>fun n args σ K K' hK h=>by
  simp only [ZAp] at h ⊢;split at h
  ·split at h
   ·exact Zhd h1 _ _ _ _ hK h
   ·exact JI h1 _ _ _ _ hK h
  ·exact TblOK.monoN h2 n args σ K K' hK h
def ZoL:Value→List PV→St→(PEnd→St→Prop)→Prop:=fun _ _ _ _=>False
abbrev Raw:=Value→List PV→St→(PEnd→St→Prop)→Prop
abbrev Zm9:=FuncId→List PV→Raw→St→(PEnd→St→Prop)→Prop
def WJ:Zm9:=fun _ _ _ _ _=>False
def Zwr:LoopAnn:=⟨[],[],fun _ _=>False,fun _ _=>0⟩
def Zb:List (Nat×LoopAnn)→Nat→LoopAnn
 | [],_=>Zwr
 | (k,a)::l,n=>match Nat.beq k n with | true=>a | false=>Zb l n
def ctx (T:Tab) (tbl:Tbl) (loops:Nat→LoopAnn):Cx:=⟨T,ZAo tbl,ZoL,WJ,loops,fun _=>0,fun _=>false,fun _=>false,true,fun _=>none,fun _=>false⟩
def ZzB (T:Tab) (tbl:Tbl) (it:Zm9) (loops:Nat→LoopAnn):Cx:=⟨T,ZAo tbl,ZoL,it,loops,fun _=>0,fun _=>false,fun _=>false,true,fun _=>none,fun _=>false⟩
def Zna (T:Tab) (tbl:Tbl) (it:Zm9) (loops:Nat→LoopAnn) (unr:Nat→Nat) (ties:Nat→Bool):Cx:=⟨T,ZAo tbl,ZoL,it,loops,unr,ties,fun _=>false,true,fun _=>none,fun _=>false⟩
def ZzC (T:Tab) (tbl:Tbl) (it:Zm9) (loops:Nat→LoopAnn) (unr:Nat→Nat) (ties:Nat→Bool) (bsl nl:Nat→Bool):Cx:=⟨T,ZAp nl tbl tbl,ZoL,it,loops,unr,ties,bsl,true,fun _=>none,fun _=>false⟩
def Yu:List Nat→Nat→Bool
 | [],_=>false
 | k::l,n=>match Nat.beq k n with | true=>true | false=>Yu l n
def W4:List (Nat×Nat)→Nat→Nat
 | [],_=>0
 | (k,a)::l,n=>match Nat.beq k n with | true=>a | false=>W4 l n
def ZoM (T:Tab) (tbl:Tbl) (it:Zm9) (gid:FuncId) (fn:Func) (loops:Nat→LoopAnn):Zm9:=fun g args raw σ K=>match Nat.beq gid g with
 | true=>Nat.ble args.length fn.ntmps=true∧W ⟨T,ZAo tbl,raw,it,loops,fun _=>0,fun _=>false,fun _=>false,true,fun _=>none,fun _=>false⟩ (Ww fn) (fun e f σ'=>match e with
   | .normal | .ret=>pres T f σ'.bx fn.results.toList fun vs=>K (.ret (Ju vs)) σ'
   | .panic v=>K (.panic v) σ'
   | _=>False) (Zee 0 args) σ
 | false=>False
theorem Y0 {G:GE}:US G WJ:=fun _ _ _ _ _ h=>h.elim
theorem Znb {G : GE} {T : Tab} {tbl : Tbl} (hT : TabOK T G.P) (hmix : G.P.follows .mixedOrders = true) (ht : TblOK G tbl) {it : Zm9} (hit : US G it) {gid : FuncId} {fn : Func} {c : Code} (hf : G.P.funcs[gid]? = some fn) (hb : fn.body = some c) (hname : (fn.name == "runtime.NumGoroutine") = false)
  (hok:ZL fn.ntmps c=true) (loops:Nat→LoopAnn):US G (ZoM T tbl it gid fn loops):=fun g args raw σ K h=>by
 unfold ZoM at h
 split at h
 ·rename_i hbq
  cases Tm hbq
  refine ⟨Zo hf hname hb,fun n e w vs hS hargs hraw=>?_⟩;have hbo:Ww fn=c:=by simp [Ww,hb]
  rw [hbo] at h;have presM:∀{T:Tab} {f:Frame} {bx:List Box} {l:List ResultVar} {K K':List PV→Prop},(∀vs,K vs→K' vs)→pres T f bx l K→pres T f bx l K':=by
   intro T f bx l
   induction l with
   | nil=>exact fun hK h=>hK _ h
   | cons r l ih =>
    intro K K' hK h
    exact m58
  refine Za2 hmix (C:=⟨T,ZAo tbl,raw,it,loops,fun _=>0,fun _=>false,fun _=>false,true,fun _=>none,fun _=>false⟩) ⟨hT,ht.sem,hraw,hit,.inl rfl⟩ ⟨fun _ h1 h2=>hT.one h1 h2,ht.mono,fun _ _ _ _ h=>h.elim,rfl⟩ hf hb hok (Ta h.1) h.2 (fun pe f' σ' hq=>?_) hS hargs
  cases pe with
  | normal=>exact presM (fun vs hK e' w' v h1 h2 h3=>⟨.ret (Ju vs),σ',e',hK,⟨v,rfl,h2⟩,h1,h3⟩) hq
  | ret=>exact presM (fun vs hK e' w' v h1 h2 h3=>⟨.ret (Ju vs),σ',e',hK,⟨v,rfl,h2⟩,h1,h3⟩) hq
  | panic p=>exact fun e' w' v h1 h2 h3=>⟨.panic p,_,e',hq,⟨v,rfl,h2⟩,h1,h3⟩
  | exit id=>exact hq.elim
  | goto l=>exact hq.elim
 ·exact h.elim
theorem ZoN {G : GE} {T : Tab} {tbl : Tbl} (hT : TabOK T G.P) (hmix : G.P.follows .mixedOrders = true) (ht : TblOK G tbl) {it : Zm9} (hit : US G it) {g : FuncId} {fn : Func} {c : Code} (hf : G.P.funcs[g]? = some fn) (hb : fn.body = some c) (hname : (fn.name == "runtime.NumGoroutine") = false)
  (hok:ZL fn.ntmps c=true) {sp:Zr}
  (h:∀args σ K,sp args σ K→∃loops keep own,σ.bx.length≤keep∧args.length≤fn.ntmps∧WF (ZzB T tbl it loops) fn keep own args σ K):PCalls G g sp where
 enters:=Zo hf hname hb
 calls:=fun args σ K hs n e w vs hS ha=>by
  obtain ⟨loops,keep,own,h1,h2,h3⟩:=h args σ K hs;exact JG hmix (C:=ZzB T tbl it loops) ⟨hT,ht.sem,fun _ _ _ _ h=>h.elim,hit,.inl rfl⟩ ⟨fun _ h1 h2=>hT.one h1 h2,ht.mono,fun _ _ _ _ h=>h.elim,rfl⟩ hf hb hok h1 h2 h3 hS ha
theorem ZoO {G : GE} {T : Tab} {tbl : Tbl} (hT : TabOK T G.P) (hmix : G.P.follows .mixedOrders = true) (ht : TblOK G tbl) {it : Zm9} (hit : US G it) {g : FuncId} {fn : Func} {c : Code} (hf : G.P.funcs[g]? = some fn) (hb : fn.body = some c) (hname : (fn.name == "runtime.NumGoroutine") = false)
  (hok:ZL fn.ntmps c=true) {sp:Zr}
  (h:∀args σ K,sp args σ K→∃loops unr ties keep own,σ.bx.length≤keep∧args.length≤fn.ntmps∧WF (Zna T tbl it loops unr ties) fn keep own args σ K):PCalls G g sp where
 enters:=Zo hf hname hb
 calls:=fun args σ K hs n e w vs hS ha=>by
  obtain ⟨loops,unr,ties,keep,own,h1,h2,h3⟩:=h args σ K hs;exact JG hmix (C:=Zna T tbl it loops unr ties) ⟨hT,ht.sem,fun _ _ _ _ h=>h.elim,hit,.inl rfl⟩ ⟨fun _ h1 h2=>hT.one h1 h2,ht.mono,fun _ _ _ _ h=>h.elim,rfl⟩ hf hb hok h1 h2 h3 hS ha
theorem Zez {G : GE} {T : Tab} {tbl : Tbl} (hT : TabOK T G.P) (hmix : G.P.follows .mixedOrders = true) (ht : TblOK G tbl) {g : FuncId} {fn : Func} {c : Code} (hf : G.P.funcs[g]? = some fn) (hb : fn.body = some c) (hname : (fn.name == "runtime.NumGoroutine") = false)
  (hok:ZL fn.ntmps c=true) {sp:Zr}
  (h:∀args σ K,sp args σ K→∃loops unr ties bsl nl keep own,σ.bx.length≤keep∧args.length≤fn.ntmps∧WF (ZzC T tbl WJ loops unr ties bsl nl) fn keep own args σ K):PCalls G g sp where
 enters:=Zo hf hname hb
 calls:=fun args σ K hs n e w vs hS ha=>by
  obtain ⟨loops,unr,ties,bsl,nl,keep,own,h1,h2,h3⟩:=h args σ K hs;exact JG hmix (C:=ZzC T tbl WJ loops unr ties bsl nl) ⟨hT,ht.semN,fun _ _ _ _ h=>h.elim,Y0,.inl rfl⟩ ⟨fun _ h1 h2=>hT.one h1 h2,ht.monoN,fun _ _ _ _ h=>h.elim,rfl⟩ hf hb hok h1 h2 h3 hS ha
theorem V7 {G : GE} {T : Tab} {tbl : Tbl} (hT : TabOK T G.P) (hmix : G.P.follows .mixedOrders = true) (ht : TblOK G tbl) {g : FuncId} {fn : Func} {c : Code} (hf : G.P.funcs[g]? = some fn) (hb : fn.body = some c) (hname : (fn.name == "runtime.NumGoroutine") = false)
  (hok:ZL fn.ntmps c=true) {sp:Zr}
  (h:∀args σ K,sp args σ K→∃loops unr ties keep own,σ.bx.length≤keep∧args.length≤fn.ntmps∧WF (Zna T tbl WJ loops unr ties) fn keep own args σ K):PCalls G g sp :=
 ZoO hT hmix ht Y0 hf hb hname hok h
theorem ZbE {G : GE} {T : Tab} {tbl : Tbl} (hT : TabOK T G.P) (hmix : G.P.follows .mixedOrders = true) (ht : TblOK G tbl) {g : FuncId} {fn : Func} {c : Code} (hf : G.P.funcs[g]? = some fn) (hb : fn.body = some c) (hname : (fn.name == "runtime.NumGoroutine") = false)
  (hok:ZL fn.ntmps c=true) {sp:Zr}
  (h:∀args σ K,sp args σ K→∃loops keep own,σ.bx.length≤keep∧args.length≤fn.ntmps∧WF (ctx T tbl loops) fn keep own args σ K):PCalls G g sp :=
 ZoN hT hmix ht Y0 hf hb hname hok h
theorem CondP.tt {X Y:Prop} (h:X):CondP true X Y:=h
theorem ZAf {p:Prop} [Decidable p] {X Y:Prop} (h1:p→X) (h2:¬p→Y):CondP (decide p) X Y:=by
 by_cases h:p
 ·simp only [h,decide_true];exact h1 h
 ·simp only [h,decide_false];exact h2 h
theorem ZAh {p:Prop} [Decidable p] {X Y:Prop} (h1:¬p→X) (h2:p→Y):CondP (!decide p) X Y:=by
 by_cases h:p
 ·simp only [h,decide_true];exact h2 h
 ·simp only [h,decide_false];exact h1 h
theorem InR.i64 {n:Int} (h1:-9223372036854775808≤n) (h2:n≤9223372036854775807):InR .i64 n:=by
 unfold InR IntKind.wrap
 exact m173
theorem InR.i32 {n:Int} (h1:-2147483648≤n) (h2:n≤2147483647):InR .i32 n:=by
 unfold InR IntKind.wrap
 simp only [show IntKind.i32.bits=32 from rfl,show IntKind.i32.signed=true from rfl,TE];split <;> simp at * <;> omega
theorem InR.u8 {n:Int} (h1:0≤n) (h2:n≤255):InR .u8 n:=by
 unfold InR IntKind.wrap
 simp only [show IntKind.u8.bits=8 from rfl,show IntKind.u8.signed=false from rfl,Sc];simp;omega
theorem InR.u32 {n:Int} (h1:0≤n) (h2:n≤4294967295):InR .u32 n:=by
 unfold InR IntKind.wrap
 simp only [show IntKind.u32.bits=32 from rfl,show IntKind.u32.signed=false from rfl,Sc];simp;omega
theorem InR.u64 {n:Int} (h1:0≤n) (h2:n≤18446744073709551615):InR .u64 n:=by
 unfold InR IntKind.wrap
 simp only [show IntKind.u64.bits=64 from rfl,show IntKind.u64.signed=false from rfl,Sc];simp;omega
theorem oiO {n:Int} {K X:Prop} (q:K) (h1:-9223372036854775808≤n:=by omega) (h2:n≤9223372036854775807:=by omega):InR .i64 n∧K∨X:=.inl ⟨InR.i64 h1 h2,q⟩
theorem oiD {n:Int} {K X:Prop} (q:K) (h1:-9223372036854775808≤n:=by decide) (h2:n≤9223372036854775807:=by decide):InR .i64 n∧K∨X:=.inl ⟨InR.i64 h1 h2,q⟩
theorem oiB {n:Int} {K X:Prop} (q:K) (h1:0≤n:=by omega) (h2:n≤255:=by omega):InR .u8 n∧K∨X:=.inl ⟨InR.u8 h1 h2,q⟩
theorem oiU {n:Int} {K X:Prop} (q:K) (h1:0≤n:=by omega) (h2:n≤18446744073709551615:=by omega):InR .u64 n∧K∨X:=.inl ⟨InR.u64 h1 h2,q⟩
theorem Zq0 {K:PEnd→St→Prop} {p p':PEnd} {σ σ':St} (h:K p σ) (h1:p=p') (h2:σ=σ'):K p' σ':=by subst h1;subst h2;exact h
end Go.PM
end

section
namespace Go.PM
structure PDef (G:GE) (g:FuncId) (spR:List PV→St→(St→Prop)→Prop) (spP:PV→List PV→St→(St→Prop)→Prop):Prop where
 enters:Vp G.P g
 ret:∀args σ K,spR args σ K→∀(n:Nat) (e:Env) (w:World) (vs:Array Value),SRel G e σ w→ArgsRel G e σ w args vs →
  CallsDIn (fw none) n G.P g vs .returning w fun en u' w'=>u'=.returning∧(∃r,en=.returned r)∧∃σ' e',K σ'∧SRel G e' σ' w'∧Later e σ w e' σ' w'
 pan:∀pv args σ K,spP pv args σ K→∀(n:Nat) (e:Env) (w:World) (vs:Array Value) (v:Value),SRel G e σ w→ArgsRel G e σ w args vs→VRel G e σ w pv v →
  CallsDIn (fw none) n G.P g vs (.panicking [{ v:=v,recovered:=false }]) w fun en u' w'=>u'=.panicking [{ v:=v,recovered:=true }]∧(∃r,en=.returned r)∧∃σ' e',K σ'∧SRel G e' σ' w'∧Later e σ w e' σ' w'
def Zx5 (c:Code):Option (Nat×Nat×Code):=match c with
 | .seq (.region _ ops false) rest=>match ops.toList with
  | [o1,o2]=>match o1.op,o1.dst,o1.guard,o2.op,o2.dst,o2.guard with
   | .call { callee:=.builtin .recover,args,.. },some a,none,.assign (.tmp a'),some b,none=>match args.toList,Nat.beq a a' with
    | [],true=>some (a,b,rest)
    | _,_=>none
   | _,_,_,_,_,_=>none
  | _=>none
 | _=>none
theorem Zpi {c:Code} {a b:Nat} {rest:Code} (h:Zx5 c=some (a,b,rest)):∃id ops o1 o2 at',c=.seq (.region id ops false) rest∧ops=#[o1,o2]∧o1.op=.call { callee:=.builtin .recover,args:=#[],argTypes:=at' }∧o1.dst=some a∧o1.guard=none∧o2.op=.assign (.tmp a)∧o2.dst=some b∧o2.guard=none:=by
 unfold Zx5 at h
 split at h
 ·rename_i id ops rest'
  split at h
  ·rename_i o1 o2 hops
   split at h
   ·rename_i args at' a1 a2 b1 h1 h2 h3 h4 h5 h6
    split at h
    ·rename_i h7 h8
     cases h
     have:=Tm h8;subst this;have ha:args=#[]:=by apply Array.ext';simpa using h7
     subst ha;exact ⟨id,ops,o1,o2,at',rfl,by apply Array.ext';simpa using hops,h1,h2,h3,h4,h5,h6⟩
    ·cases h
   ·cases h
  ·cases h
 ·cases h
section
variable {G:GE}
def ZwI (T:Tab) (fn:Func) (keep:Nat) (K:St→Prop):PQ:=fun e f σ=>match e with
 | .normal | .ret=>pres T f σ.bx fn.results.toList fun vs=>ZaS keep false (Ju vs) σ fun _ σ'=>K σ'
 | _=>False
theorem Zux {T : Tab} {tbl : Tbl} (hT : TabOK T G.P) (hmix : G.P.follows .mixedOrders = true) (ht : TblOK G tbl) {g : FuncId} {fn : Func} {c : Code} (hf : G.P.funcs[g]? = some fn) (hb : fn.body = some c) (hname : (fn.name == "runtime.NumGoroutine") = false)
  {a b:Nat} {rest:Code} (hrec:Zx5 c=some (a,b,rest)) (hok:ZL fn.ntmps c=true) {spR:List PV→St→(St→Prop)→Prop} {spP:PV→List PV→St→(St→Prop)→Prop}
  (hr:∀args σ K,spR args σ K→∃loops keep,σ.bx.length≤keep∧args.length≤fn.ntmps∧W (ctx T tbl loops) rest (ZwI T fn keep K) (Zay (Zay (Zee 0 args) a (.d .nili)) b (.d .nili)) σ)
  (hp:∀pv args σ K,spP pv args σ K→∃loops keep,σ.bx.length≤keep∧args.length≤fn.ntmps∧W (ctx T tbl loops) rest (ZwI T fn keep K) (Zay (Zay (Zee 0 args) a pv) b pv) σ):PDef G g spR spP:=by
 obtain ⟨id,ops,o1,o2,at',rfl,rfl,q1,q2,q3,q4,q5,q6⟩:=Zpi hrec;simp only [ZL,Tl,ZoJ,q2,q5] at hok;have ha:a<fn.ntmps:=by have:=Ta hok.1.1.1;omega
 have hbN:b<fn.ntmps:=by have:=Ta hok.1.1.2.1;omega
 have walk:∀(pv:PV) (v:Value) (u u':FrameMode) (args:List PV) (σ:St) (K:St→Prop) (loops:Nat→LoopAnn) (keep:Nat),σ.bx.length≤keep→args.length≤fn.ntmps→W (ctx T tbl loops) rest (ZwI T fn keep K) (Zay (Zay (Zee 0 args) a pv) b pv) σ →
   (∀(c₀:Go.Frame) (cs:List Go.Frame),c₀.mode=u→match recoverD (c₀::cs) with | some (x,cs')=>x=v∧cs'={ c₀ with mode:=u' }::cs | none=>v=.nilIface∧u'=u) →
   ∀(n:Nat) (e:Env) (w:World) (vs:Array Value),SRel G e σ w→ArgsRel G e σ w args vs→VRel G e σ w pv v →
   CallsDIn (fw none) n G.P g vs u w fun en u2 w'=>u2=u'∧(∃r,en=.returned r)∧∃σ' e',K σ'∧SRel G e' σ' w'∧Later e σ w e' σ' w':=by
  intro pv v u u' args σ K loops keep hk hlen hW hrc n e w vs hS hargs hv
  refine callsDIn_of_wpSIn hf hb trivial fun c₀ cs hu=>?_
  have hsz:vs.size=args.length:=hargs.1;have hF:FRel G e σ w (Zee 0 args) (vs++Array.replicate (fn.ntmps - vs.size) undef):=Zab args 0 fun k x hx=>by
   exact m30
  refine wpSIn_seq (wpSIn_region ?_)
  let A0:Act:={ tmps:=vs++Array.replicate (fn.ntmps - vs.size) undef,defers:=[] }
  have hA0:A0.tmps.size=fn.ntmps:=by simp [A0];omega
  have s0:(#[o1,o2]:Array Oper)[0]?=some o1:=rfl;have s1:(#[o1,o2]:Array Oper)[1]?=some o2:=rfl;have w1:∀t,Region.wanted o1 (yielded #[o1,o2] t)=true:=fun t=>by simp [Region.wanted,q3]
  have w2:∀t,Region.wanted o2 (yielded #[o1,o2] t)=true:=fun t=>by simp [Region.wanted,q6]
  have x1:∀A:Act,(execOp A.eval o1).run G.P w=.ok .recover w:=fun A=>by
   unfold execOp
   simp only [q1,resolve,Sem.run_bind,Sem.run_pure,Result.andThen,invoke,builtin]
  have x2:∀A:Act,(execOp A.eval o2).run G.P w=.ok (.value (A.eval (.tmp a))) w:=fun A=>by
   unfold execOp
   simp only [q4,Sem.run_pure]
  have y2:(A0.put (some a) v).eval (.tmp a)=v:=by
   simp [Act.put,Act.eval,TZ,hA0,ha]
  have tail:rest.wpSIn (fw none) n G.P (bodyPostS G.P fn c₀ cs fun en u2 w'=>u2=u'∧(∃r,en=.returned r)∧∃σ' e',K σ'∧SRel G e' σ' w'∧Later e σ w e' σ' w') ((A0.put (some a) v).put (some b) v) ({ c₀ with mode:=u' }::cs) w:=by
   have hF1:FRel G e σ w (Zay (Zee 0 args) a pv) (A0.put (some a) v).tmps:=FRel.put (a:=A0) (d:=some a) hF hv (fun i hi=>by cases hi;rw [hA0];exact ha);have hF2:FRel G e σ w (Zay (Zay (Zee 0 args) a pv) b pv) ((A0.put (some a) v).put (some b) v).tmps:=FRel.put (a:=A0.put (some a) v) (d:=some b) hF1 hv (fun i hi=>by cases hi;rw [Y4,hA0];exact hbN);refine wpSIn_of_wpIn rfl (wpIn_mono (JE (n:=n) (ro:=none) (ds:=(w.heap.size,[],true)) hmix rest (C:=ctx T tbl loops) ⟨hT,ht.sem,fun _ _ _ _ h=>h.elim,Y0,.inl rfl⟩ ⟨fun _ h1 h2=>hT.one h1 h2,ht.mono,fun _ _ _ _ h=>h.elim,rfl⟩ (fun _ _ _ _ _ _ h=>h) hok.2 [] #[] (Yx _) _
    (a:=(A0.put (some a) v).put (some b) v) hS hF2 (Later.refl e σ w) (by rw [Y4,Y4,hA0]) (by rw [Wg,Wg];exact Marks.nil e σ (Tq _)) (fun i hi=>by cases hi) hW) fun x a' w' hp=>?_)
   obtain ⟨pe,f',e',σ',hq,hx,h1,h2,h3,h4,⟨_,rs,h5,h5f,_⟩,h6⟩:=hp;have hd0:a'.defers=[]:=by rw [h5,h5f rfl];rfl
   have done:(pres T f' σ'.bx fn.results.toList fun vs=>ZaS keep false (Ju vs) σ' fun _ σ''=>K σ'')→∃r,(results fn a'.tmps).run G.P w'=.ok r w'∧u'=u'∧(∃r',Ending.returned r=.returned r')∧∃σ' e',K σ'∧SRel G e' σ' w'∧Later e σ w e' σ' w':=fun hl=>by
    obtain ⟨pvs,r,hlv,hr,hvr⟩:=X7 (C:=ctx T tbl loops) hT h1 h2 hl;exact m172
   cases pe with
   | normal=>obtain rfl:x=.normal:=hx;obtain ⟨r,hr,hR⟩:=done hq;exact ⟨hd0,u',rfl,r,hr,hR⟩
   | ret=>obtain rfl:x=.ret:=hx;obtain ⟨r,hr,hR⟩:=done hq;exact ⟨hd0,u',rfl,r,hr,hR⟩
   | exit id=>exact hq.elim
   | goto l=>exact hq.elim
   | panic p=>exact hq.elim
  show wpOpsSIn (fw none) n G.P #[o1,o2] _ [0,1] A0 (c₀::cs) w;simp only [wpOpsSIn,s0,s1,w1,w2,if_true,x1,x2,q2,q5];refine ⟨fun _ _=>trivial,?_⟩;have hh:=hrc c₀ cs hu
  cases hrd:recoverD (c₀::cs) with
  | none =>
   rw [hrd] at hh;obtain ⟨rfl,rfl⟩:=hh;have hc0:({ c₀ with mode:=u' }:Go.Frame)=c₀:=by subst hu;rfl
   rw [hc0] at tail;simp only [y2];exact ⟨fun _ _=>trivial,tail⟩
  | some p =>
   obtain ⟨x,cs'⟩:=p;rw [hrd] at hh;obtain ⟨rfl,rfl⟩:=hh;simp only [y2];exact ⟨fun _ _=>trivial,tail⟩
 refine ⟨Zo hf hname hb,fun args σ K hs n e w vs hS hargs=>?_,fun pv args σ K hs n e w vs v hS hargs hv=>?_⟩
 ·obtain ⟨loops,keep,h1,h2,h3⟩:=hr args σ K hs;exact walk (.d .nili) .nilIface .returning .returning args σ K loops keep h1 h2 h3 (fun c₀ cs hu=>by simp [recoverD,hu]) n e w vs hS hargs (.d _ _ .nili)
 ·obtain ⟨loops,keep,h1,h2,h3⟩:=hp pv args σ K hs;exact walk pv v _ _ args σ K loops keep h1 h2 h3 (fun c₀ cs hu=>by simp [recoverD,hu]) n e w vs hS hargs hv
end
def ZbU:List Oper→Option (List Oper×Oper)
 | []=>none
 | [o]=>some ([],o)
 | o::p::l=>match ZbU (p::l) with | some (a,b)=>some (o::a,b) | none=>none
theorem Ua:∀{l:List Oper} {i:List Oper} {o:Oper},ZbU l=some (i,o)→l=i++[o]
 | [],i,o,h=>by cases h
 | [x],i,o,h=>by cases h;rfl
 | x::p::l,i,o,h=>by
  simp only [ZbU] at h;split at h
  ·rename_i a b hs
   cases h
   rw [Ua hs];rfl
  ·cases h
def ZeR (o:Oper):Option (Operand×List Operand):=match o.op,o.guard,o.dst with
 | .defer { callee:=.value x,args,.. },none,none=>some (x,args.toList)
 | _,_,_=>none
theorem ZaK {o:Oper} {x:Operand} {args:List Operand} (h:ZeR o=some (x,args)):∃as at',o.op=.defer { callee:=.value x,args:=as,argTypes:=at' }∧as.toList=args∧o.guard=none∧o.dst=none:=by
 unfold ZeR at h
 split at h
 ·rename_i x' as at' h1 h2 h3;cases h;exact ⟨as,at',h1,rfl,h2,h3⟩
 ·cases h
def ZeS (c:Code):Option (List Oper×List Oper×Operand×List Operand):=match c with
 | .region _ ops false=>match ZbU ops.toList with
  | some (init,last)=>match ZeR last with
   | some (x,args)=>some (ops.toList,init,x,args)
   | none=>none
  | none=>none
 | _=>none
def WD (C:Cx) (g0:FuncId) (Q0:PQ) (Q1:List PV→PQ):Code→Frame→St→Prop
 | .seq a b,f,σ=>match ZeS a with
  | some (all,init,x,args)=>Ztk C all (fun e f σ=>match e with
    | .normal=>(match ev f x with
     | .func g first caps=>(match Nat.beq g g0 with
      | true=>W C b (Q1 (XR (first++args.map (ev f)++caps))) f σ
      | false=>False)
     | _=>False)
    | e=>Q0 e f σ) init f σ
  | none=>W C a (fun e f σ=>match e with | .normal=>WD C g0 Q0 Q1 b f σ | e=>Q0 e f σ) f σ
 | c,f,σ=>W C c Q0 f σ
section
variable {G:GE} {C:Cx} {e0:Env} {σ0:St} {w0:World} {n N:Nat} {ds:Nat×List Deferred×Bool} {Z:Array Value→Prop} {Q:PQ}
theorem Za7 (hC:CxOK G C none e0 σ0 w0) {ops:Array Oper} {rest:List Nat} {QQ:Exit→Act→World→Prop} (hd:∀o,o∈ops→∀d,o.dst=some d→d<N∧∀t v,Z t→Z (t.setIfInBounds d v))
  (hQQ:∀x a w,x≠.normal→Yb G e0 σ0 w0 ds N Z Q x a w→QQ x a w) (hend:∀a w,Yb G e0 σ0 w0 ds N Z Q .normal a w→wpOpsIn (fw none) n G.P ops QQ rest a w) :
  ∀(l:List Oper) (k:Nat),(∀j,j<l.length→l[j]?=ops[k+j]?)→∀{e:Env} {σ:St} {w:World} {a:Act} {f:Frame},
  SRel G e σ w→FRel G e σ w f a.tmps→Later e0 σ0 w0 e σ w→a.tmps.size=N→Marks ds e σ w a.defers→Z a.tmps→Ztk C ops.toList Q l f σ→wpOpsIn (fw none) n G.P ops QQ (List.range' k l.length++rest) a w
 | [],k,_,e,σ,w,a,f,hS,hF,hL,hN,hds,hZ,h=>hend a w ⟨.normal,f,e,σ,h,rfl,hS,hF,hL,hN,hds,hZ⟩
 | o::l,k,hl,e,σ,w,a,f,hS,hF,hL,hN,hds,hZ,h=>by
  have h0:ops[k]?=some o:=by simpa using (hl 0 (by simp)).symm
  have hstep:=Zdc (ro:=none) (n:=n) hC hS hF hL hN hds hZ (ops:=ops) (hd o (T8 h0)) h;have next:∀a' w',KRel G e0 σ0 w0 ds N Z (Ztk C ops.toList Q l) a' w'→wpOpsIn (fw none) n G.P ops QQ (List.range' (k+1) l.length++rest) a' w':=fun a' w' ⟨f',e',σ',h1,h2,h3,h4,h5,h6,h7⟩ =>
   Za7 hC hd hQQ hend l (k+1) (fun j hj=>by have:=hl (j+1) (by simp;omega);simpa [Sb,Nat.add_comm 1 j] using this) h2 h3 h4 h5 h6 h7 h1
  rw [Td,List.range'_succ,SB];simp only [wpOpsIn,h0];split at hstep
  ·rename_i hw
   rw [Tf hw];exact ZAs hQQ (Oper.wpIn_mono next hstep)
  ·rename_i hw
   rw [Tc hw];exact ⟨fun _ _=>trivial,next _ _ hstep⟩
def ZR (g0:FuncId) (va vc:Array Value):Deferred:={ target:=.fn (.func g0) vc,args:=va }
def Znm (G:GE) (g0:FuncId) (e0:Env) (σ0:St) (w0:World) (N:Nat) (Q0:PQ) (Q1:List PV→PQ):Exit→Act→World→Prop:=fun x a w =>
 Yb G e0 σ0 w0 (0,[],true) N (Kept [] #[]) Q0 x a w ∨
 ∃fa va vc e1 σ1 w1,Later e0 σ0 w0 e1 σ1 w1∧ArgsRel G e1 σ1 w1 fa (va++vc)∧Yb G e1 σ1 w1 (0,[ZR g0 va vc],true) N (Kept [] #[]) (Q1 (XR fa)) x a w
theorem ZrI {g0:FuncId} {Q0:PQ} {Q1:List PV→PQ} (hmix:G.P.follows .mixedOrders=true) (hC:∀e σ w,CxOK G C none e σ w) (hM:CxMono C.calm) (hI:∀g args raw σ K,¬C.iter g args raw σ K) :
  ∀(c:Code),ZL N c=true→∀{e:Env} {σ:St} {w:World} {a:Act} {f:Frame},SRel G e σ w→FRel G e σ w f a.tmps→Later e0 σ0 w0 e σ w→a.tmps.size=N→a.defers=[]→WD C g0 Q0 Q1 c f σ →
   c.wpIn (fw none) n G.P (Znm G g0 e0 σ0 w0 N Q0 Q1) a w:=by
 have plain:∀(c:Code),ZL N c=true→∀{e:Env} {σ:St} {w:World} {a:Act} {f:Frame},SRel G e σ w→FRel G e σ w f a.tmps→Later e0 σ0 w0 e σ w→a.tmps.size=N→a.defers=[]→W C c Q0 f σ→c.wpIn (fw none) n G.P (Znm G g0 e0 σ0 w0 N Q0 Q1) a w :=
  fun c hok {e σ w a f} hS hF hL hN hd h=>wpIn_mono (JE (n:=n) (ro:=none) (ds:=(0,[],true)) hmix c (hC _ _ _) hM (fun _=>hI) hok [] #[] (Yx _) _ hS hF hL hN (by rw [hd];exact Marks.nil e σ (T3 _)) (fun i hi=>by cases hi) h) fun x a w hp=>.inl hp
 intro c
 induction c with
 | seq c1 c2 ih1 ih2 =>
  intro hok e σ w a f hS hF hL hN hd h
  have hok':=hok;simp only [ZL,Tl] at hok';have hM0:Marks (0,[],true) e σ w a.defers:=by rw [hd];exact Marks.nil e σ (T3 _)
  simp only [WD] at h;split at h
  ·rename_i all init x args hdi
   unfold ZeS at hdi
   split at hdi
   ·rename_i id ops
    split at hdi
    ·rename_i init' last hsl
     split at hdi
     ·rename_i x' args' hdc
      cases hdi
      have hops:=Ua hsl;obtain ⟨as,at',hop,has,hg,hdst⟩:=ZaK hdc;have hsize:ops.size=init.length+1:=by rw [← Sf,hops];simp
      have hlast:ops[init.length]?=some last:=by rw [← Tx,hops];simp
      have hopsOK:=hok'.1;simp only [ZL,Tl] at hopsOK;have hd2:∀o,o∈ops→∀d,o.dst=some d→d<N∧∀t v,Kept [] #[] t→Kept [] #[] (t.setIfInBounds d v):=fun o ho d hdd=>⟨Zaa hopsOK.1 o (TH.1 ho) d hdd,fun t v _ i hi=>by cases hi⟩
      refine wpIn_seq (wpIn_region ?_);rw [show List.range ops.size=List.range' 0 init.length++[init.length] from by rw [hsize,List.range_succ,List.range_eq_range']];refine Za7 (N:=N) (Z:=Kept [] #[]) (ds:=(0,[],true)) (hC e0 σ0 w0) hd2 (fun x a w hx hp=>?_) (fun a1 w1 hp=>?_) init 0 (fun j hj=>?_) hS hF hL hN hM0 (fun i hi=>by cases hi) h
      ·exact m93
      ·obtain ⟨pe,f',e',σ',hq,hxr,h1,h2,h3,h4,⟨_,rs,h5,h5f,_⟩,h6⟩:=hp
       cases pe with
       | normal =>
        simp only at hq;have hv:=ZaB h2 x;split at hq
        ·rename_i g first caps heq
         split at hq
         ·rename_i hgb
          cases Tm hgb
          rw [heq] at hv;generalize hgv:a1.eval x=v at hv
          cases hv with
          | func _ _ _ va vc ha hc k1 k2 =>
           have hd0:a1.defers=[]:=by rw [h5,h5f rfl];rfl
           have hargs:ArgsRel G e' σ' w1 (first++args.map (ev f')++caps) (va++as.map a1.eval++vc):=by
            exact m122
           have hw:Region.wanted last (yielded ops a1.tmps)=true:=by simp [Region.wanted,hg]
           simp only [wpOpsIn,hlast,hw,if_true];have hrun:(execOp a1.eval last).run G.P w1=.ok (.defer (ZR g0 (va++as.map a1.eval) vc)) w1:=by
            exact m181
           refine ⟨fun _ _=>trivial,?_⟩;rw [show (fw none).round=none from rfl,Oper.semAt_none,hrun,Oper.uponIn_defer];rw [hdst];show c2.wpIn (fw none) n G.P (Znm G g0 e0 σ0 w0 N Q0 Q1) { a1 with defers:=ZR g0 (va++as.map a1.eval) vc::a1.defers } w1;rw [hd0];refine wpIn_mono (JE (n:=n) (ro:=none) (ds:=(0,[ZR g0 (va++as.map a1.eval) vc],true)) hmix c2 (hC e' σ' w1) hM (fun _=>hI) hok'.2 [] #[] (Yx _) _ (a:={ a1 with defers:=[ZR g0 (va++as.map a1.eval) vc] }) h1 h2 (Later.refl _ _ _) h4
            ⟨T3 _,[],rfl,fun _=>rfl,List.nodup_nil,fun r h=>by cases h⟩ (fun i hi=>by cases hi) hq) fun x a w hp=>.inr ⟨_,_,_,e',σ',w1,h3,hargs,hp⟩
         ·exact hq.elim
        ·exact hq.elim
       | exit id=>cases hxr
       | goto l=>cases hxr
       | ret=>cases hxr
       | panic p=>obtain ⟨_,hxr,_⟩:=hxr;cases hxr
      ·rw [← Tx,hops,T7,TF hj]
     ·cases hdi
    ·cases hdi
   ·cases hdi
  ·refine wpIn_seq (wpIn_mono (JE (n:=n) (ro:=none) (ds:=(0,[],true)) hmix c1 (hC _ _ _) hM (fun _=>hI) hok'.1 [] #[] (Yx _) _ hS hF hL hN hM0 (fun i hi=>by cases hi) h) fun x a1 w1 hp=>?_);obtain ⟨pe,f',e',σ',hq,hxr,h1,h2,h3,h4,h5,h6⟩:=hp
   cases pe with
   | normal =>
    obtain rfl:x=.normal:=hxr;obtain ⟨_,rs,h5,h5f,_⟩:=h5;exact ih2 hok'.2 h1 h2 h3 h4 (by rw [h5,h5f rfl];rfl) hq
   | exit id=>obtain rfl:x=.exit id:=hxr;exact .inl ⟨.exit id,f',e',σ',hq,rfl,h1,h2,h3,h4,h5,h6⟩
   | goto l=>obtain rfl:x=.goto l:=hxr;exact .inl ⟨.goto l,f',e',σ',hq,rfl,h1,h2,h3,h4,h5,h6⟩
   | ret=>obtain rfl:x=.ret:=hxr;exact .inl ⟨.ret,f',e',σ',hq,rfl,h1,h2,h3,h4,h5,h6⟩
   | panic p=>obtain ⟨v,rfl,hv⟩:=hxr;exact .inl ⟨.panic p,f',e',σ',hq,⟨v,rfl,hv⟩,h1,h2,h3,h4,h5,h6⟩
 | _=>intro hok e σ w a f hS hF hL hN hd h;exact plain _ hok hS hF hL hN hd h
end
def Zuy (T:Tab) (fn:Func) (keep:Nat) (own:Bool) (spR:List PV→St→(St→Prop)→Prop) (spP:PV→List PV→St→(St→Prop)→Prop) (R:PEnd→St→Prop) (fa:List PV):PQ:=fun e f σ=>match e with
 | .normal | .ret=>spR fa σ fun σ2=>pres T (Jk f) σ2.bx fn.results.toList fun vs=>ZaS keep own (Ju vs) σ2 fun v σ'=>R (.ret v) σ'
 | .panic pv=>spP pv fa σ fun σ2=>pres T (Jk f) σ2.bx fn.results.toList fun vs=>ZaS keep own (Ju vs) σ2 fun v σ'=>R (.ret v) σ'
 | _=>False
theorem ArgsRel.clean {G:GE} {e e':Env} {σ σ':St} {w w':World} {fa:List PV} {vs:Array Value} (h:ArgsRel G e σ w fa vs) (hL:Later e σ w e' σ' w'):ArgsRel G e' σ' w' (XR fa) vs:=by
 refine ⟨by rw [Xr];exact h.1,fun i y u hy hu=>?_⟩;obtain ⟨x,hx,rfl⟩:=Vj i y hy;have hv:=h.2 i x u hx hu;exact VRel.clean hL.len hL.beta hL.pres hv hv.bnd
theorem CallsDIn.mono {F:Fence} {n:Nat} {P:Program} {f:FuncId} {args:Array Value} {u:FrameMode} {w:World} {R R':Ending→FrameMode→World→Prop} (h:CallsDIn F n P f args u w R) (hR:∀e u w,R e u w→R' e u w):CallsDIn F n P f args u w R' :=
 ⟨h.1,fun c cs hu hr=>let ⟨e,u',w',fr,h1,h2⟩:=h.2 c cs hu hr;⟨e,u',w',fr,hR _ _ _ h1,h2⟩⟩
theorem Zpj {G : GE} {T : Tab} {tbl : Tbl} (hT : TabOK T G.P) (hmix : G.P.follows .mixedOrders = true) (ht : TblOK G tbl) {g : FuncId} {fn : Func} {c : Code} (hf : G.P.funcs[g]? = some fn) (hb : fn.body = some c) (hname : (fn.name == "runtime.NumGoroutine") = false)
  (hok:ZL fn.ntmps c=true) {g0:FuncId} {spR:List PV→St→(St→Prop)→Prop} {spP:PV→List PV→St→(St→Prop)→Prop} (hd:PDef G g0 spR spP) {sp:Zr}
  (h:∀args σ K,sp args σ K→∃loops unr ties keep own,σ.bx.length≤keep∧args.length≤fn.ntmps∧WD (Zna T tbl WJ loops unr ties) g0 (Zq9 T fn keep own K) (Zuy T fn keep own spR spP K) (Ww fn) (Zee 0 args) σ):PCalls G g sp where
 enters:=Zo hf hname hb
 calls:=fun args σ K hs n e w vs hS hargs=>by
  obtain ⟨loops,unr,ties,keep,own,hk,hlen,hW⟩:=h args σ K hs;have hbo:Ww fn=c:=by simp [Ww,hb]
  rw [hbo] at hW;have hsz:vs.size=args.length:=hargs.1;have hF:FRel G e σ w (Zee 0 args) (vs++Array.replicate (fn.ntmps - vs.size) undef):=Zab args 0 fun k x hx=>by
   exact m30
  refine callsIn_of_wp_defers hf hb trivial (wpIn_mono (ZrI (n:=n) (e0:=e) (σ0:=σ) (w0:=w) hmix (C:=Zna T tbl WJ loops unr ties) (fun _ _ _=>⟨hT,ht.sem,fun _ _ _ _ h=>h.elim,Y0,.inl rfl⟩) ⟨fun _ h1 h2=>hT.one h1 h2,ht.mono,fun _ _ _ _ h=>h.elim,rfl⟩ (fun _ _ _ _ _ h=>h) c hok
   (a:={ tmps:=vs++Array.replicate (fn.ntmps - vs.size) undef,defers:=[] }) hS hF (Later.refl e σ w) (by simp;omega) rfl hW) fun x a' w' hp=>?_)
  exact m10
end Go.PM
end

section
namespace Go.PM
def Zxl (T:Tab) (fn:Func) (keep:Nat) (K:St→Prop):PQ:=fun e f σ=>match e with
 | .normal | .ret=>pres T f σ.bx fn.results.toList fun vs=>ZaS keep true (Ju vs) σ fun _ σ'=>K σ'
 | _=>False
section
variable {G:GE}
theorem ZnE {T : Tab} {tbl : Tbl} (hT : TabOK T G.P) (hmix : G.P.follows .mixedOrders = true) (ht : TblOK G tbl) {g : FuncId} {fn : Func} {c : Code} (hf : G.P.funcs[g]? = some fn) (hb : fn.body = some c) (hname : (fn.name == "runtime.NumGoroutine") = false)
  (hok:ZL fn.ntmps c=true) {spR:List PV→St→(St→Prop)→Prop}
  (hr:∀args σ K,spR args σ K→∃loops unr keep,σ.bx.length≤keep∧args.length≤fn.ntmps∧W (Zna T tbl WJ loops unr (fun _=>false)) c (Zxl T fn keep K) (Zee 0 args) σ):PDef G g spR (fun _ _ _ _=>False):=by
 refine ⟨Zo hf hname hb,fun args σ K hs n e w vs hS hargs=>?_,fun pv args σ K hs=>hs.elim⟩;obtain ⟨loops,unr,keep,hk,hlen,hW⟩:=hr args σ K hs;refine callsDIn_of_wpSIn hf hb trivial fun c₀ cs hu=>?_
 have hsz:vs.size=args.length:=hargs.1;have hF:FRel G e σ w (Zee 0 args) (vs++Array.replicate (fn.ntmps - vs.size) undef):=Zab args 0 fun k x hx=>by
  exact m30
 refine wpSIn_of_wpIn rfl (wpIn_mono (JE (n:=n) (ro:=none) (ds:=(0,[],true)) hmix c (C:=Zna T tbl WJ loops unr (fun _=>false)) ⟨hT,ht.sem,fun _ _ _ _ h=>h.elim,Y0,.inl rfl⟩ ⟨fun _ h1 h2=>hT.one h1 h2,ht.mono,fun _ _ _ _ h=>h.elim,rfl⟩ (fun _ _ _ _ _ _ h=>h) hok [] #[] (Yx _) _
  (a:={ tmps:=vs++Array.replicate (fn.ntmps - vs.size) undef,defers:=[] }) hS hF (Later.refl e σ w) (by simp;omega) (Marks.nil e σ (T3 _)) (fun i hi=>by cases hi) hW) fun x a' w' hp=>?_)
 obtain ⟨pe,f',e',σ',hq,hx,h1,h2,h3,h4,⟨_,rs,h5,h5f,_⟩,h6⟩:=hp;have hd0:a'.defers=[]:=by rw [h5,h5f rfl];rfl
 have done:(pres T f' σ'.bx fn.results.toList fun vs=>ZaS keep true (Ju vs) σ' fun _ σ''=>K σ'')→∃r,(results fn a'.tmps).run G.P w'=.ok r w'∧FrameMode.returning=.returning∧(∃r',Ending.returned r=.returned r')∧∃σ' e',K σ'∧SRel G e' σ' w'∧Later e σ w e' σ' w':=fun hl=>by
  obtain ⟨pvs,r,hlv,hr,hvr⟩:=X7 (C:=Zna T tbl WJ loops unr (fun _=>false)) hT h1 h2 hl;exact m172
 cases pe with
 | normal=>obtain rfl:x=.normal:=hx;obtain ⟨r,hr,hR⟩:=done hq;exact ⟨hd0,.returning,by rw [← hu],r,hr,hR⟩
 | ret=>obtain rfl:x=.ret:=hx;obtain ⟨r,hr,hR⟩:=done hq;exact ⟨hd0,.returning,by rw [← hu],r,hr,hR⟩
 | exit id=>exact hq.elim
 | goto l=>exact hq.elim
 | panic p=>exact hq.elim
end
def Zxm:Code→Bool
 | .seq a b=>Zxm a || Zxm b
 | .cond _ a b=>Zxm a || Zxm b
 | .region id ops d=>(ZeS (.region id ops d)).isSome
 | _=>false
def WL (C:Cx) (Q:PQ):List Code→Frame→St→Prop
 | [],f,σ=>Q .normal f σ
 | c::l,f,σ=>W C c (fun e f σ=>match e with | .normal=>WL C Q l f σ | e=>Q e f σ) f σ
def WDl (C:Cx) (g0:FuncId) (Q0:PQ) (Q1:List PV→PQ):Nat→List Code→Frame→St→Prop
 | 0,_,_,_=>False
 | _+1,[],f,σ=>Q0 .normal f σ
 | n+1,c::l,f,σ=>match Zxm c with
  | false=>W C c (fun e f σ=>match e with | .normal=>WDl C g0 Q0 Q1 n l f σ | e=>Q0 e f σ) f σ
  | true=>match c with
   | .seq a b=>WDl C g0 Q0 Q1 n (a::b::l) f σ
   | .cond x a b=>match ev f x with | .d (.bool t)=>CondP t (WDl C g0 Q0 Q1 n (a::l) f σ) (WDl C g0 Q0 Q1 n (b::l) f σ) | _=>False
   | c=>match ZeS c with
    | some (all,init,x,args)=>Ztk C all (fun e f σ=>match e with
      | .normal=>(match ev f x with
       | .func g first caps=>(match Nat.beq g g0 with
        | true=>WL C (Q1 (XR (first++args.map (ev f)++caps))) l f σ
        | false=>False)
       | _=>False)
      | e=>Q0 e f σ) init f σ
    | none=>False
section
variable {G:GE} {C:Cx} {e0:Env} {σ0:St} {w0:World} {n N:Nat}
def wpl (n:Nat) (P:Program) (Q:Exit→Act→World→Prop):List Code→Act→World→Prop
 | [],a,w=>Q .normal a w
 | c::l,a,w=>c.wpIn (fw none) n P (Exit.then (wpl n P Q l) Q) a w
theorem Zmh (hmix:G.P.follows .mixedOrders=true) (hC:∀e σ w,CxOK G C none e σ w) (hM:CxMono C.calm) (hI:∀g args raw σ K,¬C.iter g args raw σ K) {ds:Nat×List Deferred×Bool} {Q:PQ} :
  ∀(l:List Code),(∀c∈l,ZL N c=true)→∀{e:Env} {σ:St} {w:World} {a:Act} {f:Frame},SRel G e σ w→FRel G e σ w f a.tmps→Later e0 σ0 w0 e σ w→a.tmps.size=N→Marks ds e σ w a.defers→WL C Q l f σ →
   wpl n G.P (Yb G e0 σ0 w0 ds N (Kept [] #[]) Q) l a w
 | [],_,e,σ,w,a,f,hS,hF,hL,hN,hds,h=>⟨.normal,f,e,σ,h,rfl,hS,hF,hL,hN,hds,fun i hi=>by cases hi⟩
 | c::l,hok,e,σ,w,a,f,hS,hF,hL,hN,hds,h=>by
  refine wpIn_mono (JE (n:=n) (ro:=none) hmix c (hC _ _ _) hM (fun _=>hI) (hok c (by simp)) [] #[] (Yx _) _ hS hF hL hN hds (fun i hi=>by cases hi) h) fun x a' w' hp=>?_
  obtain ⟨pe,f',e',σ',hq,hx,h1,h2,h3,h4,h5,h6⟩:=hp
  cases pe with
  | normal=>obtain rfl:x=.normal:=hx;exact Zmh hmix hC hM hI l (fun c hc=>hok c (Tw _ hc)) h1 h2 h3 h4 h5 hq
  | exit id=>obtain rfl:x=.exit id:=hx;exact ⟨.exit id,f',e',σ',hq,rfl,h1,h2,h3,h4,h5,h6⟩
  | goto l=>obtain rfl:x=.goto l:=hx;exact ⟨.goto l,f',e',σ',hq,rfl,h1,h2,h3,h4,h5,h6⟩
  | ret=>obtain rfl:x=.ret:=hx;exact ⟨.ret,f',e',σ',hq,rfl,h1,h2,h3,h4,h5,h6⟩
  | panic p=>obtain ⟨v,rfl,hv⟩:=hx;exact ⟨.panic p,f',e',σ',hq,⟨v,rfl,hv⟩,h1,h2,h3,h4,h5,h6⟩
theorem Zmi {P:Program} {Q Q':Exit→Act→World→Prop} (hQ:∀x a w,Q x a w→Q' x a w):∀{l:List Code} {a:Act} {w:World},wpl n P Q l a w→wpl n P Q' l a w
 | [],a,w,h=>hQ _ _ _ h
 | c::l,a,w,h=>wpIn_mono h fun x a' w' hp=>by
  cases x with
  | normal=>exact Zmi hQ hp
  | _=>exact hQ _ _ _ hp
theorem ZpW {g0:FuncId} {Q0:PQ} {Q1:List PV→PQ} (hmix:G.P.follows .mixedOrders=true) (hC:∀e σ w,CxOK G C none e σ w) (hM:CxMono C.calm) (hI:∀g args raw σ K,¬C.iter g args raw σ K) :
  ∀(k:Nat) (l:List Code),(∀c∈l,ZL N c=true)→∀{e:Env} {σ:St} {w:World} {a:Act} {f:Frame},SRel G e σ w→FRel G e σ w f a.tmps→Later e0 σ0 w0 e σ w→a.tmps.size=N→a.defers=[]→WDl C g0 Q0 Q1 k l f σ →
   wpl n G.P (Znm G g0 e0 σ0 w0 N Q0 Q1) l a w:=by
 intro k
 induction k with
 | zero=>intro l hok e σ w a f hS hF hL hN hd h;exact h.elim
 | succ k ih =>
  intro l hok e σ w a f hS hF hL hN hd h
  have hM0:Marks (0,[],true) e σ w a.defers:=by rw [hd];exact Marks.nil e σ (T3 _)
  cases l with
  | nil=>exact .inl ⟨.normal,f,e,σ,h,rfl,hS,hF,hL,hN,hM0,fun i hi=>by cases hi⟩
  | cons c l =>
   have hokc:=hok c (by simp);have hokl:∀c∈l,ZL N c=true:=fun c hc=>hok c (Tw _ hc)
   simp only [WDl] at h;split at h
   ·show c.wpIn (fw none) n G.P _ a w;refine wpIn_mono (JE (n:=n) (ro:=none) (ds:=(0,[],true)) hmix c (hC _ _ _) hM (fun _=>hI) hokc [] #[] (Yx _) _ hS hF hL hN hM0 (fun i hi=>by cases hi) h) fun x a1 w1 hp=>?_
    obtain ⟨pe,f',e',σ',hq,hxr,h1,h2,h3,h4,h5,h6⟩:=hp
    cases pe with
    | normal =>
     obtain rfl:x=.normal:=hxr;obtain ⟨_,rs,h5,h5f,_⟩:=h5;exact ih l hokl h1 h2 h3 h4 (by rw [h5,h5f rfl];rfl) hq
    | exit id=>obtain rfl:x=.exit id:=hxr;exact .inl ⟨.exit id,f',e',σ',hq,rfl,h1,h2,h3,h4,h5,h6⟩
    | goto l=>obtain rfl:x=.goto l:=hxr;exact .inl ⟨.goto l,f',e',σ',hq,rfl,h1,h2,h3,h4,h5,h6⟩
    | ret=>obtain rfl:x=.ret:=hxr;exact .inl ⟨.ret,f',e',σ',hq,rfl,h1,h2,h3,h4,h5,h6⟩
    | panic p=>obtain ⟨v,rfl,hv⟩:=hxr;exact .inl ⟨.panic p,f',e',σ',hq,⟨v,rfl,hv⟩,h1,h2,h3,h4,h5,h6⟩
   ·split at h
    ·rename_i x y hD
     simp only [ZL,Tl] at hokc;have:=ih (x::y::l) (fun c hc=>by
      rcases Tt.1 hc with rfl | hc
      ·exact hokc.1
      ·rcases Tt.1 hc with rfl | hc
       ·exact hokc.2
       ·exact hokl c hc) hS hF hL hN hd h
     refine wpIn_seq (wpIn_mono (show x.wpIn (fw none) n G.P _ a w from this) fun z a' w' hp=>?_)
     cases z with
     | normal=>exact hp
     | _=>exact hp
    ·rename_i x y z hD
     simp only [ZL,Tl] at hokc;have hv:=ZaB hF x;split at h
     ·rename_i t hc
      rw [hc] at hv
      cases t with
      | true=>exact wpIn_cond_true hv.dbool (ih (y::l) (fun c hc=>by
        rcases Tt.1 hc with rfl | hc
        ·exact hokc.1
        ·exact hokl c hc) hS hF hL hN hd h)
      | false=>exact wpIn_cond_false hv.dbool (ih (z::l) (fun c hc=>by
        rcases Tt.1 hc with rfl | hc
        ·exact hokc.2
        ·exact hokl c hc) hS hF hL hN hd h)
     ·exact h.elim
    ·split at h
     ·rename_i all init x args hdi
      unfold ZeS at hdi
      split at hdi
      ·rename_i id ops hD hD1 hD2
       split at hdi
       ·rename_i init' last hsl
        split at hdi
        ·rename_i x' args' hdc
         cases hdi
         have hops:=Ua hsl;obtain ⟨as,at',hop,has,hg,hdst⟩:=ZaK hdc;have hsize:ops.size=init.length+1:=by rw [← Sf,hops];simp
         have hlast:ops[init.length]?=some last:=by rw [← Tx,hops];simp
         simp only [ZL,Tl] at hokc;have hd2:∀o,o∈ops→∀d,o.dst=some d→d<N∧∀t v,Kept [] #[] t→Kept [] #[] (t.setIfInBounds d v):=fun o ho d hdd=>⟨Zaa hokc.1 o (TH.1 ho) d hdd,fun t v _ i hi=>by cases hi⟩
         refine wpIn_region ?_;rw [show List.range ops.size=List.range' 0 init.length++[init.length] from by rw [hsize,List.range_succ,List.range_eq_range']];refine Za7 (N:=N) (Z:=Kept [] #[]) (ds:=(0,[],true)) (hC e0 σ0 w0) hd2 (fun x a w hx hp=>?_) (fun a1 w1 hp=>?_) init 0 (fun j hj=>?_) hS hF hL hN hM0 (fun i hi=>by cases hi) h
         ·exact m93
         ·obtain ⟨pe,f',e',σ',hq,hxr,h1,h2,h3,h4,⟨_,rs,h5,h5f,_⟩,h6⟩:=hp
          cases pe with
          | normal =>
           simp only at hq;have hv:=ZaB h2 x;split at hq
           ·rename_i g first caps heq
            split at hq
            ·rename_i hgb
             cases Tm hgb
             rw [heq] at hv;generalize hgv:a1.eval x=v at hv
             cases hv with
             | func _ _ _ va vc ha hc k1 k2 =>
              have hd0:a1.defers=[]:=by rw [h5,h5f rfl];rfl
              have hargs:ArgsRel G e' σ' w1 (first++args.map (ev f')++caps) (va++as.map a1.eval++vc):=by
               exact m122
              have hw:Region.wanted last (yielded ops a1.tmps)=true:=by simp [Region.wanted,hg]
              simp only [wpOpsIn,hlast,hw,if_true];have hrun:(execOp a1.eval last).run G.P w1=.ok (.defer (ZR g0 (va++as.map a1.eval) vc)) w1:=by
               exact m181
              refine ⟨fun _ _=>trivial,?_⟩;rw [show (fw none).round=none from rfl,Oper.semAt_none,hrun,Oper.uponIn_defer];rw [hdst];show wpl n G.P (Znm G g0 e0 σ0 w0 N Q0 Q1) l { a1 with defers:=ZR g0 (va++as.map a1.eval) vc::a1.defers } w1;rw [hd0];exact Zmi (fun x a w hp=>.inr ⟨_,_,_,e',σ',w1,h3,hargs,hp⟩) (Zmh (n:=n) (e0:=e') (σ0:=σ') (w0:=w1) hmix hC hM hI (ds:=(0,[ZR g0 (va++as.map a1.eval) vc],true)) l hokl
               (a:={ a1 with defers:=[ZR g0 (va++as.map a1.eval) vc] }) h1 h2 (Later.refl _ _ _) h4 ⟨T3 _,[],rfl,fun _=>rfl,List.nodup_nil,fun r h=>by cases h⟩ hq)
            ·exact hq.elim
           ·exact hq.elim
          | exit id=>cases hxr
          | goto l=>cases hxr
          | ret=>cases hxr
          | panic p=>obtain ⟨_,hxr,_⟩:=hxr;cases hxr
         ·rw [← Tx,hops,T7,TF hj]
        ·cases hdi
       ·cases hdi
      ·cases hdi
     ·exact h.elim
end
theorem Zr2 {G : GE} {T : Tab} {tbl : Tbl} (hT : TabOK T G.P) (hmix : G.P.follows .mixedOrders = true) (ht : TblOK G tbl) {g : FuncId} {fn : Func} {c : Code} (hf : G.P.funcs[g]? = some fn) (hb : fn.body = some c) (hname : (fn.name == "runtime.NumGoroutine") = false)
  (hok:ZL fn.ntmps c=true) {g0:FuncId} {spR:List PV→St→(St→Prop)→Prop} {spP:PV→List PV→St→(St→Prop)→Prop} (hd:PDef G g0 spR spP) {sp:Zr}
  (h:∀args σ K,sp args σ K→∃loops unr ties keep own,σ.bx.length≤keep∧args.length≤fn.ntmps∧WDl (Zna T tbl WJ loops unr ties) g0 (Zq9 T fn keep own K) (Zuy T fn keep own spR spP K) 99 [Ww fn] (Zee 0 args) σ):PCalls G g sp where
 enters:=Zo hf hname hb
 calls:=fun args σ K hs n e w vs hS hargs=>by
  obtain ⟨loops,unr,ties,keep,own,hk,hlen,hW⟩:=h args σ K hs;have hbo:Ww fn=c:=by simp [Ww,hb]
  rw [hbo] at hW;have hsz:vs.size=args.length:=hargs.1;have hF:FRel G e σ w (Zee 0 args) (vs++Array.replicate (fn.ntmps - vs.size) undef):=Zab args 0 fun k x hx=>by
   exact m30
  have hwp:=ZpW (n:=n) (N:=fn.ntmps) (e0:=e) (σ0:=σ) (w0:=w) hmix (C:=Zna T tbl WJ loops unr ties) (fun _ _ _=>⟨hT,ht.sem,fun _ _ _ _ h=>h.elim,Y0,.inl rfl⟩) ⟨fun _ h1 h2=>hT.one h1 h2,ht.mono,fun _ _ _ _ h=>h.elim,rfl⟩ (fun _ _ _ _ _ h=>h) 99 [c] (fun c' hc'=>by cases List.mem_singleton.1 hc';exact hok)
   (a:={ tmps:=vs++Array.replicate (fn.ntmps - vs.size) undef,defers:=[] }) hS hF (Later.refl e σ w) (by simp;omega) rfl hW
  have hwp:c.wpIn (fw none) n G.P (Znm G g0 e σ w fn.ntmps (Zq9 T fn keep own K) (Zuy T fn keep own spR spP K)) { tmps:=vs++Array.replicate (fn.ntmps - vs.size) undef,defers:=[] } w:=wpIn_mono hwp fun x a' w' hp=>by
   cases x with
   | normal=>exact hp
   | _=>exact hp
  refine callsIn_of_wp_defers hf hb trivial (wpIn_mono hwp fun x a' w' hp=>?_);exact m10
end Go.PM
end
