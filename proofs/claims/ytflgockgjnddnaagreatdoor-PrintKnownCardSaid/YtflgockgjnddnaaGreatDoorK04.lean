/- A part of the proof: plain logic, contracts and laws over the given program. -/
import Derived.RangeFuncCalls
import Derived.RangeFuncLeaves
import Derived.Laws.Sem
import Derived.RecoverIn
import Derived.Test.YtflgockgjnddnaaGreatDoorK03
set_option linter.unusedVariables false
set_option linter.unusedSimpArgs false
set_option linter.all false
set_option maxRecDepth 100000
set_option maxHeartbeats 16000000
section
namespace Go.PM
abbrev Zu:=List PV→St→(PEnd→St→Prop)→Prop
structure PCalls (G:GE) (g:FuncId) (sp:Zu):Prop where
 enters:WZ G.P g
 calls:∀args σ K,sp args σ K→∀(n:Nat) (e:Env) (w:World) (vs:Array Value),SRel G e σ w→ArgsRel G e σ w args vs→CallsIn (fw none) n G.P g vs w (YA G e σ w K)
theorem Zj {P : Program} {f : FuncId} {fn : Func} {c : Code} (hf : P.funcs[f]? = some fn) (hname : (fn.name == "runtime.NumGoroutine") = false) (hb : fn.body = some c) : WZ P f := fun args w => by
 have h1 : fn.name ≠ "runtime.NumGoroutine" := by simpa using hname
 simp [callFunc,hf,h1,hb]
section
variable {G:GE} {C:Cx} {e:Env} {σ:St} {w:World} {f:Frame} {n:Nat} {tm:Array Value}
def Ztv (tm:Array Value):ResultVar→Sem Value
 | .tmp t=>pure (tm.getD t Go.undef)
 | .cell a t=>do loadVar t (← asAddr (tm.getD a Go.undef))
theorem ZeU {P:Program} {t:TypeId} {v u:Value} (hv:∃a,v=.pointer (some a)) (h:(Instr.loadAt t v).run P w=.ok u w):(do loadVar t (← asAddr v):Sem Value).run P w=.ok u w:=by
 obtain ⟨a,rfl⟩:=hv
 simpa [Instr.loadAt,Instr.sureAddr,asAddr] using h
theorem ZaT (hT:TabOK C.T G.P) (hS:SRel G e σ w) (hF:FRel G e σ w f tm):∀{l:List ResultVar} {K:List PV→Prop},pres C.T f σ.bx l K →
  ∃pvs vs,K pvs∧(l.mapM (Ztv tm)).run G.P w=.ok vs w∧vs.length=pvs.length∧∀(i:Nat) (x:PV) (u:Value),pvs[i]?=some x→vs[i]?=some u→VRel G e σ w x u
 | [],K,h=>⟨[],[],h,rfl,rfl,fun i x u hx=>by simp at hx⟩
 | .tmp t::l,K,h=>by
  simp only [pres,Yb] at h
  obtain ⟨pvs,vs,hK,hr,hl,hv⟩:=ZaT hT hS hF h
  refine ⟨f t::pvs,tm.getD t Go.undef::vs,hK,?_,by simp [hl],fun i x u hx hu=>?_⟩
  ·rw [List.mapM_cons]
   simp only [Ztv,Sem.run_bind,Sem.run_pure,Result.andThen,hr]
  ·cases i with
   | zero=>simp only [List.getElem?_cons_zero,Option.some.injEq] at hx hu;subst hx;subst hu;exact hF t
   | succ i=>exact hv i x u (by simpa using hx) (by simpa using hu)
 | .cell a t::l,K,h=>by
  simp only [pres] at h
  have hptr:∃a',tm.getD a Go.undef=.pointer (some a'):=by
   have:=hF a
   generalize tm.getD a Go.undef=v at this
   generalize f a=x at this h
   cases this with
   | ptr b off _=>exact ⟨_,rfl⟩
   | elem r off b o u _ _ _=>exact ⟨_,rfl⟩
   | _=>exact h.elim
  obtain ⟨pv,u0,hk,hr0,hrun⟩:=Zd8 hT hS (hF a) h
  rw [Yb] at hk
  obtain ⟨pvs,vs,hK,hr,hl,hv⟩:=ZaT hT hS hF hk
  refine ⟨pv::pvs,u0::vs,hK,?_,by simp [hl],fun i x u hx hu=>?_⟩
  ·rw [List.mapM_cons]
   have:=ZeU hptr hrun
   simp only [Ztv]
   rw [Sem.run_bind,this]
   simp only [Sem.run_bind,Sem.run_pure,Result.andThen,hr]
  ·cases i with
   | zero=>simp only [List.getElem?_cons_zero,Option.some.injEq] at hx hu;subst hx;subst hu;exact hr0
   | succ i=>exact hv i x u (by simpa using hx) (by simpa using hu)
theorem Xv (hT:TabOK C.T G.P) (hS:SRel G e σ w) (hF:FRel G e σ w f tm) {fn:Func} {K:List PV→Prop} (h:pres C.T f σ.bx fn.results.toList K) :
  ∃pvs v,K pvs∧(results fn tm).run G.P w=.ok v w∧VRel G e σ w (Uh pvs) v:=by
 obtain ⟨pvs,vs,hK,hr,hl,hv⟩:=ZaT hT hS hF h
 have hres:(results fn tm).run G.P w=.ok (if h:vs.toArray.size=1 then vs.toArray[0] else .tuple vs.toArray) w:=by
  have hfun:results fn tm=(do let vs ← fn.results.mapM (Ztv tm);pure (if h:vs.size=1 then vs[0] else .tuple vs)):=by
   unfold results
   congr 1
  have h1:fn.results.mapM (Ztv tm)=List.toArray <$> fn.results.toList.mapM (Ztv tm):=by
   conv=>lhs;rw [show fn.results=fn.results.toList.toArray from by simp]
   exact List.mapM_toArray
  rw [hfun,h1,Sem.run_bind,Sem.run_map,hr]
  rfl
 refine ⟨pvs,_,hK,hres,?_⟩
 match pvs,vs,hl,hv with
 | [],[],_,hv=>exact .tuple [] #[] rfl (fun i x u hx=>by simp at hx)
 | [x],[u],_,hv=>exact hv 0 x u rfl rfl
 | x::y::l,u::v::m,hl,hv =>
  have:¬((u::v::m).toArray.size=1):=by simp
  rw [dif_neg this]
  exact .tuple _ _ (by simpa using hl) (fun i a b ha hb=>hv i a b ha (by simpa using hb))
theorem Xe {e0:Env} {σ0:St} {w0:World} {keep:Nat} {own:Bool} {pv:PV} {v:Value} {K:PV→St→Prop} (hS:SRel G e σ w) (hL:Later e0 σ0 w0 e σ w) (hk:σ0.bx.length≤keep) (hv:VRel G e σ w pv v)
  (h:Jr keep own pv σ K):∃pv' σ' e',K pv' σ'∧VRel G e' σ' w pv' v∧SRel G e' σ' w∧Later e0 σ0 w0 e' σ' w:=by
 unfold Jr at h
 split at h
 ·rename_i hb
  cases own with
  | true =>
   simp only at h
   obtain ⟨vs',σ',e',hK,hS',hd,hlen,hvs⟩:=Zb6 hS h
   match vs',hlen,hK with
   | [y],_,hK=>exact ⟨y,σ',e',hK,hvs 0 pv y v rfl rfl hv,hS',hL.drop hd hk⟩
  | false =>
   simp only at h
   obtain ⟨bs,tk',as',hK,hx,hI,hbl,hn,hbs⟩:=Jy (as:=[]) (ZyC σ.tk [] (fun t ht=>by cases ht)) h
   exact ⟨clean pv,_,e.re as',hK,(NV.cl pv hb).rel hn hI hbl hv,ZeR hS hn hI hbl hbs,hL.drop (Zcu hn hI hbl) hk⟩
 ·exact h.elim
theorem UW {vs:Array Value}:∀(args:List PV) (i:Nat),(∀(k:Nat) (x:PV),args[k]?=some x→VRel G e σ w x (vs.getD (i+k) Go.undef))→FRel G e σ w (Zdy i args) vs
 | [],i,_=>fun j=>.undef _
 | a::args,i,h=>by
  intro j
  simp only [Zdy]
  by_cases hij:i=j
  ·subst hij;rw [Yn];exact h 0 a (by simp)
  ·rw [Xs _ _ hij]
   exact UW args (i+1) (fun k x hx=>by have:=h (k+1) x (by simpa using hx);rwa [show i+(k+1)=i+1+k by omega] at this) j
theorem VRel.world {w':World} (hc:∀b off u,w.cell? ⟨b,off,none⟩=some u→w'.cell? ⟨b,off,none⟩=some u) (hb:∀(b:Nat) (cs:Array Value) (ty:TypeId) (fz:Nat×Nat),w.heap[b]?=some (Obj.cells cs ty fz)→w'.heap[b]?=some (Obj.cells cs ty fz)) {x:PV} {v:Value} (h:VRel G e σ w x v):VRel G e σ w' x v:=by
 have hd:∀{x:D} {v:Value},DRel (okc e σ) w x v→DRel (okc e σ) w' x v:=fun hd=>hd.mono fun b off u hu ho=>⟨ho,hc b off u hu⟩
 induction h with
 | d x v h=>exact .d _ _ (hd h)
 | undef v=>exact .undef _
 | ptr b off h=>exact .ptr b off h
 | asl b off n h=>exact .asl b off n h
 | elem r off b o u hcc ho hu=>exact .elem r off b o u (fun j hj=>hc _ _ _ (hcc j hj)) ho (fun j x hx=>hd (hu j x hx))
 | sl t el rows v hn hdd ht =>
  refine .sl t el rows v hn (hd hdd) fun h=>?_
  rcases ht h with h1 | ⟨sz,g1,g2,g3,b,off,cap,cs,ty,fz,g4,g5,g6,g7,g8⟩
  ·exact .inl h1
  ·exact .inr ⟨sz,g1,g2,g3,b,off,cap,cs,ty,fz,g4,g5,g6,hb _ _ _ _ g7,g8⟩
 | nils el=>exact .nils el
 | func f a c va vc ha hcc _ _ ih1 ih2=>exact .func f a c va vc ha hcc ih1 ih2
 | iface t x v _ ih=>exact .iface t x v ih
 | agg cs vs hs _ h1 ih=>exact .agg cs vs hs ih h1
 | tuple cs vs hs _ ih=>exact .tuple cs vs hs ih
 | raw v=>exact .raw v
theorem ZnF {r:Nat} (hS:SRel G e σ w) (hr:w.heap[r]?=some (.deferred (some []))) (hb:∀i,i<σ.bx.length→e.β i≠r) (hg:G.nG≤r) :
  SRel G e σ (w.putObj r (.deferred none))∧(∀x v,VRel G e σ w x v→VRel G e σ (w.putObj r (.deferred none)) x v)∧∀(e0:Env) (σ0:St) (w0:World),Later e0 σ0 w0 e σ w→w0.heap.size≤r→Later e0 σ0 w0 e σ (w.putObj r (.deferred none)):=by
 have hoth:∀k,k≠r→(w.putObj r (.deferred none)).heap[k]?=w.heap[k]?:=fun k hk=>World.putObj_heap_other hk
 have hcell:∀b off u,w.cell? ⟨b,off,none⟩=some u→b≠r:=fun b off u hu he=>by
  subst he;simp [World.cell?,hr] at hu
 have hc:∀b off u,w.cell? ⟨b,off,none⟩=some u→(w.putObj r (.deferred none)).cell? ⟨b,off,none⟩=some u:=fun b off u hu=>by
  have:=hcell b off u hu
  simpa [World.cell?,hoth b this] using hu
 have hbk:∀(b:Nat) (cs:Array Value) (ty:TypeId) (fz:Nat×Nat),w.heap[b]?=some (Obj.cells cs ty fz)→(w.putObj r (.deferred none)).heap[b]?=some (Obj.cells cs ty fz):=fun b cs ty fz h=>by
  have:b≠r:=fun he=>by subst he;rw [hr] at h;cases h
  rw [hoth b this];exact h
 have hV:∀x v,VRel G e σ w x v→VRel G e σ (w.putObj r (.deferred none)) x v:=fun x v h=>h.world hc hbk
 refine ⟨?_,hV,fun e0 σ0 w0 hL hr0=>?_⟩
 ·exact {
   inj:=hS.inj
   box:=fun i x hx=>by
    have hi:=(Tg.1 hx).1
    have hB:=hS.box i x hx
    have heq:=hoth (e.β i) (hb i hi)
    cases x with
    | cells t cs =>
     obtain ⟨vs,g1,g2,g3⟩:=hB
     exact ⟨vs,heq.trans g1,g2,fun k y u hy hu=>⟨hV _ _ (g3 k y u hy hu).1,(g3 k y u hy hu).2⟩⟩
    | iter s p=>exact heq.trans hB
    | loop st pd r=>exact heq.trans hB
   low:=hS.low
   tkn:=hS.tkn
   own:=fun t ht p hp=>by
    obtain ⟨q1,q2,cs,ty,fz,q3⟩:=hS.own t ht p hp
    exact ⟨q1,q2,cs,ty,fz,hbk _ _ _ _ q3⟩
   dis:=hS.dis
   xlt:=fun b off hx=>by rw [World.putObj_size];exact hS.xlt b off hx
   xown:=hS.xown
   glob:=fun b hbg=>(hoth b (by omega)).trans (hS.glob b hbg)
   big:=by rw [World.putObj_size];exact hS.big }
 ·exact {
   len:=hL.len
   beta:=hL.beta
   X:=hL.X
   pres:=fun b off u hu ho=>let ⟨h1,h2⟩:=hL.pres b off u hu ho;⟨h1,hc b off u h2⟩
   blocks:=fun b hlt hn ht=>(hoth b (by omega)).trans (hL.blocks b hlt hn ht)
   size:=by rw [World.putObj_size];exact hL.size
   os:=hL.os
   tape:=hL.tape
   output:=hL.output
   fresh:=hL.fresh
   ftok:=hL.ftok }
theorem Uo {fn:Func} {R:Ending→World→Prop} {u:FrameMode} {e0:Env} {σ0:St} {w0:World} (hu:u≠.run):∀(rs:List Nat) {w:World},rs.Nodup→(∀r,r∈rs→w0.heap.size≤r∧w.heap[r]?=some (.deferred (some []))∧∀i,i<σ.bx.length→e.β i≠r) →
  G.nG≤w0.heap.size→SRel G e σ w→FRel G e σ w f tm→Later e0 σ0 w0 e σ w→(∀pv v,VRel G e σ w pv v→∀w',SRel G e σ w'→FRel G e σ w' f tm→Later e0 σ0 w0 e σ w'→VRel G e σ w' pv v→True) →
  (∀w',(∀x v,VRel G e σ w x v→VRel G e σ w' x v)→SRel G e σ w'→FRel G e σ w' f tm→Later e0 σ0 w0 e σ w'→LeavesIn (fw none) n G.P fn tm R [] u w')→LeavesInM (fw none) n G.P fn tm R (rs.map J3) u w
 | [],w,_,_,_,hS,hF,hL,_,hend=>by
  simp only [TN,LeavesInM]
  exact hend w (fun _ _ h=>h) hS hF hL
 | r::rs,w,hnd,hrs,hG,hS,hF,hL,_,hend=>by
  obtain ⟨h1,h2,h3⟩:=hrs r (by simp)
  obtain ⟨hS',hV,hL'⟩:=ZnF hS h2 h3 (Sc hG h1)
  simp only [TA,LeavesInM]
  refine ⟨hu,.inl ⟨r,_,rfl,run_takeDeferred h2,?_⟩⟩
  refine Uo hu rs (List.nodup_cons.1 hnd).2 (fun q hq=>?_) hG hS' (fun i=>hV _ _ (hF i)) (hL' _ _ _ hL h1) (fun _ _ _ _ _ _ _ _=>trivial) (fun w' hV'=>hend w' fun x v h=>hV' x v (hV x v h))
  obtain ⟨g1,g2,g3⟩:=hrs q (Tr _ hq)
  have hne:q≠r:=fun e=>(List.nodup_cons.1 hnd).1 (e ▸ hq)
  exact ⟨g1,(World.putObj_heap_other hne).trans g2,g3⟩
theorem ZcB (hmix:G.P.follows .mixedOrders=true) {g:FuncId} {fn:Func} {c:Code} (hC:CxOK G C none e σ w) (hM:CxMono C.calm) (hf:G.P.funcs[g]?=some fn) (hb:fn.body=some c) (hok:Zw fn.ntmps c=true)
  {args:List PV} {Q:PQ} {K:PEnd→St→Prop} (hlen:args.length≤fn.ntmps) (h:W C c Q (Zdy 0 args) σ)
  (hQ:∀(pe:PExit) (f:Frame) (σ':St),Q pe f σ'→match pe with
   | .normal | .ret=>pres C.T f σ'.bx fn.results.toList fun vs=>∀(e':Env) (w':World) (v:Value),SRel G e' σ' w'→VRel G e' σ' w' (Uh vs) v→Later e σ w e' σ' w'→YA G e σ w K (.returned v) w'
   | .panic p=>∀(e':Env) (w':World) (v:Value),SRel G e' σ' w'→VRel G e' σ' w' p v→Later e σ w e' σ' w'→YA G e σ w K (.panicked [{ v:=v,recovered:=false }]) w'
   | _=>False)
  {vs:Array Value} (hS:SRel G e σ w) (hargs:ArgsRel G e σ w args vs):CallsIn (fw none) n G.P g vs w (YA G e σ w K):=by
 have hsz:vs.size=args.length:=hargs.1
 have hF:FRel G e σ w (Zdy 0 args) (vs++Array.replicate (fn.ntmps - vs.size) undef):=UW args 0 fun k x hx=>by
  exact m25
 have hw:=Um (n:=n) (ro:=none) (ds:=(w.heap.size,[],false)) hmix c hC hM (fun h=>by cases h) hok [] #[] (Z9 c) _ (a:={ tmps:=vs++Array.replicate (fn.ntmps - vs.size) undef,defers:=[] }) hS hF (Later.refl e σ w) (by simp;omega) (Marks.nil e σ (Tp _)) (fun i hi=>by cases hi) h
 refine callsIn_of_wp_marks hf hb trivial (wpIn_mono hw fun x a' w' hp=>?_)
 obtain ⟨pe,f',e',σ',hq,hx,h1,h2,h3,h4,⟨_,rs,h5,_,h5n,h5r⟩,h6⟩:=hp
 have h5:a'.defers=rs.map J3:=by rw [h5];exact TM _
 have hq':=hQ pe f' σ' hq
 have hrs:∀r,r∈rs→w.heap.size≤r∧w'.heap[r]?=some (.deferred (some []))∧∀i,i<σ'.bx.length→e'.β i≠r:=fun r hr=>let ⟨g1,g2,g3,_⟩:=h5r r hr;⟨g1,g2,g3⟩
 have ends:∀(hq':pres C.T f' σ'.bx fn.results.toList fun vs=>∀(e':Env) (w':World) (v:Value),SRel G e' σ' w'→VRel G e' σ' w' (Uh vs) v→Later e σ w e' σ' w'→YA G e σ w K (.returned v) w'),LeavesInM (fw none) n G.P fn a'.tmps (YA G e σ w K) a'.defers .returning w':=fun hq'=>by
  rw [h5]
  refine Uo (by simp) rs h5n hrs hS.big h1 h2 h3 (fun _ _ _ _ _ _ _ _=>trivial) fun w2 _ k1 k2 k3=>?_
  obtain ⟨pvs,v,hl,hr,hv⟩:=Xv hC.tab k1 k2 hq'
  exact ⟨v,hr,hl e' w2 v k1 hv k3⟩
 cases pe with
 | normal=>obtain rfl:x=.normal:=hx;exact ends hq'
 | ret=>obtain rfl:x=.ret:=hx;exact ends hq'
 | panic p =>
  obtain ⟨v,rfl,hv⟩:=hx
  show LeavesInM (fw none) n G.P fn a'.tmps (YA G e σ w K) a'.defers (.panicking _) w'
  rw [h5]
  refine Uo (by simp) rs h5n hrs hS.big h1 h2 h3 (fun _ _ _ _ _ _ _ _=>trivial) fun w2 hV k1 k2 k3=>?_
  exact hq' e' w2 v k1 (hV _ _ hv) k3
 | exit id=>exact hq'.elim
 | goto l=>exact hq'.elim
theorem W1 (hmix:G.P.follows .mixedOrders=true) {g:FuncId} {fn:Func} {c:Code} (hC:CxOK G C none e σ w) (hM:CxMono C.calm) (hf:G.P.funcs[g]?=some fn) (hb:fn.body=some c) (hok:Zw fn.ntmps c=true)
  {keep:Nat} {own:Bool} {args:List PV} {R:PEnd→St→Prop} (hk:σ.bx.length≤keep) (hlen:args.length≤fn.ntmps) (h:WF C fn keep own args σ R) {vs:Array Value} (hS:SRel G e σ w) (hargs:ArgsRel G e σ w args vs) :
  CallsIn (fw none) n G.P g vs w (YA G e σ w R):=by
 have hbo:WU fn=c:=by simp [WU,hb]
 unfold WF at h
 rw [hbo] at h
 have presM:∀{T:Tab} {f:Frame} {bx:List Box} {l:List ResultVar} {K K':List PV→Prop},(∀vs,K vs→K' vs)→pres T f bx l K→pres T f bx l K':=by
  intro T f bx l
  induction l with
  | nil=>exact fun hK h=>hK _ h
  | cons r l ih =>
   intro K K' hK h
   exact m74
 refine ZcB hmix hC hM hf hb hok hlen h (fun pe f' σ' hq=>?_) hS hargs
 have fin:∀{pv:PV} {p:PV→PEnd} {en:Value→Ending},(∀(pv:PV) (e:Env) (σ:St) (w:World) v,VRel G e σ w pv v→Zk9 G e σ w (p pv) (en v))→(Jr keep own pv σ' fun v σ''=>R (p v) σ'')→∀(e':Env) (w':World) (v:Value),SRel G e' σ' w'→VRel G e' σ' w' pv v→Later e σ w e' σ' w'→YA G e σ w R (en v) w':=fun {pv p en} hpe hl e' w' v hS' hv hL=>by
  obtain ⟨pv',σ'',e'',hK,hv',hS'',hL''⟩:=Xe hS' hL hk hv hl
  exact ⟨p pv',σ'',e'',hK,hpe _ _ _ _ _ hv',hS'',hL''⟩
 cases pe with
 | normal=>exact presM (fun vs hl=>fin (p:=.ret) (en:=.returned) (fun _ _ _ _ v h=>⟨v,rfl,h⟩) hl) hq
 | ret=>exact presM (fun vs hl=>fin (p:=.ret) (en:=.returned) (fun _ _ _ _ v h=>⟨v,rfl,h⟩) hl) hq
 | panic p=>exact fin (p:=.panic) (en:=fun v=>.panicked [{ v:=v,recovered:=false }]) (fun _ _ _ _ v h=>⟨v,rfl,h⟩) hq
 | exit id=>exact hq.elim
 | goto l=>exact hq.elim
end
end Go.PM
end

section
namespace Go.PM
mutual
def ZtI:PV→List Nat→List Nat
 | .ptr b _,acc=>match Zhd b acc with | true=>acc | false=>acc++[b]
 | .asl b _ _,acc=>match Zhd b acc with | true=>acc | false=>acc++[b]
 | .func _ a c,acc=>ZdB c (ZdB a acc)
 | .iface _ v,acc=>ZtI v acc
 | .agg cs,acc=>ZdB cs acc
 | .tuple vs,acc=>ZdB vs acc
 | _,acc=>acc
def ZdB:List PV→List Nat→List Nat
 | [],acc=>acc
 | v::l,acc=>ZdB l (ZtI v acc)
end
def Zeg (bx:List Box):Nat→Nat→List Nat→List Nat
 | 0,_,acc=>acc
 | n+1,i,acc=>match acc[i]? with
  | none=>acc
  | some b=>match bx[b]? with
   | some (.cells _ cs)=>Zeg bx n (i+1) (ZdB cs acc)
   | _=>Zeg bx n (i+1) acc
def Zf6 (b:Nat):List Nat→Nat→Option Nat
 | [],_=>none
 | x::l,i=>match Nat.beq x b with | true=>some i | false=>Zf6 b l (i+1)
def Zf7:List Nat→Bool
 | []=>true
 | x::l=>match Zhd x l with | true=>false | false=>Zf7 l
mutual
def Ztw (bs:List Nat):PV→PV
 | .ptr b o=>match Zf6 b bs 0 with | some i=>.ptr i o | none=>.undef
 | .asl b o n=>match Zf6 b bs 0 with | some i=>.asl i o n | none=>.undef
 | .func f a c=>.func f (ZhG bs a) (ZhG bs c)
 | .iface t v=>.iface t (Ztw bs v)
 | .agg cs=>.agg (ZhG bs cs)
 | .tuple vs=>.tuple (ZhG bs vs)
 | .d x=>.d x
 | .undef=>.undef
 | .elem r o=>.elem r o
 | .sl t e rows=>.sl t e rows
 | .nils e=>.nils e
 | .raw v=>.raw v
def ZhG (bs:List Nat):List PV→List PV
 | []=>[]
 | v::l=>Ztw bs v::ZhG bs l
end
def ZnG (bs:List Nat) (bx:List Box):List Nat→(List Box→Prop)→Prop
 | [],K=>K []
 | b::l,K=>match bx[b]? with
  | some (.cells t cs)=>ZnG bs bx l fun r=>K (.cells t (ZhG bs cs)::r)
  | some (.iter s p)=>ZnG bs bx l fun r=>K (.iter s p::r)
  | some (.loop _ _ _)=>False
  | none=>False
mutual
def Zf8 (bs:List Nat) (m L nx:Nat):PV→PV
 | .ptr i o=>match bs[i]? with | some b=>.ptr b o | none=>.ptr (L+(i - m)) o
 | .asl i o n=>match bs[i]? with | some b=>.asl b o n | none=>.asl (L+(i - m)) o n
 | .sl t e rows=>.sl (nx+t) e rows
 | .func f a c=>.func f (ZbT bs m L nx a) (ZbT bs m L nx c)
 | .iface t v=>.iface t (Zf8 bs m L nx v)
 | .agg cs=>.agg (ZbT bs m L nx cs)
 | .tuple vs=>.tuple (ZbT bs m L nx vs)
 | .d x=>.d x
 | .undef=>.undef
 | .elem r o=>.elem r o
 | .nils e=>.nils e
 | .raw v=>.raw v
def ZbT (bs:List Nat) (m L nx:Nat):List PV→List PV
 | []=>[]
 | v::l=>Zf8 bs m L nx v::ZbT bs m L nx l
end
def JB (bs:List Nat) (m L nx:Nat):Box→Box
 | .cells t cs=>.cells t (ZbT bs m L nx cs)
 | .iter s p=>.iter s p
 | .loop st pd r=>.loop st pd r
def ZcC (bb:Box→Box):List Nat→List Box→List Box→(List Box→Prop)→Prop
 | [],xs,acc,K=>K (acc++xs.map bb)
 | b::l,x::xs,acc,K=>ZcC bb l xs (acc.set b (bb x)) K
 | _::_,[],_,_=>False
def ZjT (bs:List Nat) (m L nx:Nat):PEnd→PEnd
 | .ret v=>.ret (Zf8 bs m L nx v)
 | .panic v=>.panic (Zf8 bs m L nx v)
def ZaU (sp:Zu) (args:List PV) (σ:St) (K:PEnd→St→Prop):Prop :=
 Zd6 (Zeg σ.bx (σ.bx.length+1) 0 (ZdB args [])) fun bs=>match Zf7 bs with
 | true=>ZnG bs σ.bx bs fun cb=>ZpG bs.length (ZhG bs args) σ.tk 0 fun args' tk k=>Zhn bs.length bs.length cb tk k fun cb' rest k =>
   sp args' ⟨cb',toks k,k⟩ fun pe σ3=>ZcC (JB bs bs.length σ.bx.length σ.nx) bs σ3.bx σ.bx fun bx =>
    K (ZjT bs bs.length σ.bx.length σ.nx pe) ⟨bx,rest++σ3.tk.map (σ.nx+·),σ.nx+σ3.nx⟩
 | false=>False
def Zaa (sp:Zu) (args:List PV) (σ:St) (K:PEnd→St→Prop):Prop :=
 Zd6 (Zeg σ.bx (σ.bx.length+1) 0 (ZdB args [])) fun bs=>match Zf7 bs with
 | true=>ZnG bs σ.bx bs fun cb=>ZkU bs.length (ZhG bs args) σ.tk 0 fun args' tk k=>Zhn bs.length bs.length cb tk k fun cb' rest k =>
   sp args' ⟨cb',toks k,k⟩ fun pe σ3=>ZcC (JB bs bs.length σ.bx.length σ.nx) bs σ3.bx σ.bx fun bx =>
    K (ZjT bs bs.length σ.bx.length σ.nx pe) ⟨bx,rest++σ3.tk.map (σ.nx+·),σ.nx+σ3.nx⟩
 | false=>False
theorem JC:∀{l:List Nat},Zf7 l=true→∀(i j b:Nat),l[i]?=some b→l[j]?=some b→i=j
 | [],_,i,j,b,h,_=>by simp at h
 | x::l,h,i,j,b,hi,hj=>by
  simp only [Zf7] at h
  split at h
  ·cases h
  ·rename_i hm
   have hx:∀k:Nat,l[k]?≠some x:=fun k hk=>by
    have:=(Yz x l).2 (Sd hk)
    rw [this] at hm;cases hm
   cases i with
   | zero =>
    cases j with
    | zero=>rfl
    | succ j=>simp at hi hj;subst hi;exact absurd hj (hx j)
   | succ i =>
    cases j with
    | zero=>simp at hi hj;subst hj;exact absurd hi (hx i)
    | succ j=>simp at hi hj;rw [JC h i j b hi hj]
theorem ZaV {b:Nat}:∀{l:List Nat} {i j:Nat},Zf6 b l i=some j→i≤j∧l[j - i]?=some b
 | [],i,j,h=>by simp [Zf6] at h
 | x::l,i,j,h=>by
  simp only [Zf6] at h
  split at h
  ·rename_i hb;cases h;simp [Tm hb]
  ·obtain ⟨h1,h2⟩:=ZaV h
   refine ⟨by omega,?_⟩
   rw [show j - i=(j - (i+1))+1 by omega];simpa using h2
theorem W2 {bs:List Nat}:∀{l:List PV} (i:Nat) (y:PV),(ZhG bs l)[i]?=some y→∃x,l[i]?=some x∧y=Ztw bs x
 | [],i,y,h=>by simp [ZhG] at h
 | x::l,i,y,h=>by
  cases i with
  | zero=>simp [ZhG] at h;exact ⟨x,by simp,h.symm⟩
  | succ i=>simp only [ZhG,T3] at h;obtain ⟨z,h1,h2⟩:=W2 i y h;exact ⟨z,by simpa using h1,h2⟩
theorem YK {bs:List Nat}:∀{l:List PV},(ZhG bs l).length=l.length
 | []=>rfl
 | x::l=>by simp [ZhG,YK]
theorem Vt {bs:List Nat} {m L nx:Nat}:∀{l:List PV} (i:Nat) (y:PV),(ZbT bs m L nx l)[i]?=some y→∃x,l[i]?=some x∧y=Zf8 bs m L nx x
 | [],i,y,h=>by simp [ZbT] at h
 | x::l,i,y,h=>by
  cases i with
  | zero=>simp [ZbT] at h;exact ⟨x,by simp,h.symm⟩
  | succ i=>simp only [ZbT,T3] at h;obtain ⟨z,h1,h2⟩:=Vt i y h;exact ⟨z,by simpa using h1,h2⟩
theorem Xo {bs:List Nat} {m L nx:Nat}:∀{l:List PV},(ZbT bs m L nx l).length=l.length
 | []=>rfl
 | x::l=>by simp [ZbT,Xo]
def Zo9 (bs:List Nat):Box→Box
 | .cells t cs=>.cells t (ZhG bs cs)
 | .iter s p=>.iter s p
 | .loop st pd r=>.loop st pd r
theorem ZeV {bs:List Nat} {bx:List Box}:∀{l:List Nat} {K:List Box→Prop},ZnG bs bx l K→∃cb,K cb∧cb.length=l.length∧∀(j b:Nat),l[j]?=some b→∃x,bx[b]?=some x∧cb[j]?=some (Zo9 bs x)
 | [],K,h=>⟨[],h,rfl,fun j b hj=>by simp at hj⟩
 | b::l,K,h=>by
  simp only [ZnG] at h
  split at h
  ·rename_i t cs hb
   exact m94
  ·rename_i s p hb
   exact m94
  ·exact h.elim
  ·exact h.elim
theorem ZeW {bb:Box→Box}:∀{bs:List Nat} {xs acc:List Box} {K:List Box→Prop},(∀(i j b:Nat),bs[i]?=some b→bs[j]?=some b→i=j)→(∀b,b∈bs→b<acc.length)→ZcC bb bs xs acc K →
  ∃r,K r∧bs.length≤xs.length∧r.length=acc.length+(xs.length - bs.length)∧(∀(j b:Nat) (x:Box),bs[j]?=some b→xs[j]?=some x→r[b]?=some (bb x))∧(∀i,i<acc.length→i∉bs→r[i]?=acc[i]?) ∧
   ∀i,acc.length≤i→r[i]?=xs[bs.length+(i - acc.length)]?.map bb
 | [],xs,acc,K,hn,hl,h=>⟨_,h,by simp,by simp,fun j b x hj=>by simp at hj,fun i hi _=>by rw [TG hi],fun i hi=>by rw [TZ hi,TH];simp⟩
 | b::bs,x::xs,acc,K,hn,hl,h=>by
  simp only [ZcC] at h
  have hlt:b<acc.length:=hl b (by simp)
  obtain ⟨r,h1,h2,h3,h4,h5,h6⟩:=ZeW (bs:=bs) (fun i j c hi hj=>by have:=hn (i+1) (j+1) c (by simpa using hi) (by simpa using hj);omega) (fun c hc=>by rw [Sp];exact hl c (Tr _ hc)) h
  have hnb:b∉bs:=fun hm=>by
   obtain ⟨k,hk,hke⟩:=Sb hm
   have:=hn 0 (k+1) b (by simp) (by simp [Th hk,hke])
   omega
  refine ⟨r,h1,by simp;omega,by rw [h3,Sp];simp,fun j c y hj hy=>?_,fun i hi hni=>?_,fun i hi=>?_⟩
  ·cases j with
   | zero =>
    simp only [List.getElem?_cons_zero,Option.some.injEq] at hj hy
    subst hj;subst hy
    rw [h5 b (by rw [Sp];exact hlt) hnb,List.getElem?_set_self hlt]
   | succ j=>exact h4 j c y (by simpa using hj) (by simpa using hy)
  ·have hib:b≠i:=fun e=>hni (e ▸ by simp)
   rw [h5 i (by rw [Sp];exact hi) (fun hm=>hni (Tr _ hm)),List.getElem?_set_ne hib]
  ·rw [h6 i (by rw [Sp];exact hi),Sp,Tc,show bs.length+1+(i - acc.length)=bs.length+(i - acc.length)+1 by omega,T3]
 | b::bs,[],acc,K,hn,hl,h=>h.elim
section
variable {G:GE} {e:Env} {σ:St} {w:World}
def ZeX (e:Env) (σ:St) (bs rest:List Nat) (b off:Nat):Prop :=
 e.X b off∨(∃i,i<σ.bx.length∧i∉bs∧e.β i=b)∨∃t,t∈rest∧∃p,e.M t=some p∧p.1=b∧p.2≤off
def Env.handed (e:Env) (σ:St) (bs rest:List Nat):Env:=⟨fun j=>e.β (bs.getD j 0),e.M,ZeX e σ bs rest⟩
structure Hand (σ:St) (bs rest pass:List Nat) (cb:List Box):Prop where
 nodup:∀(i j b:Nat),bs[i]?=some b→bs[j]?=some b→i=j
 len:cb.length=bs.length
 get:∀(j b:Nat),bs[j]?=some b→∃x,σ.bx[b]?=some x∧cb[j]?=some (Zo9 bs x)
 restIn:∀t,t∈rest→t∈σ.tk
 passIn:∀t,t∈pass→t∈σ.tk∧t∉rest
variable {bs rest pass:List Nat} {cb:List Box}
theorem Hand.lt (h:Hand σ bs rest pass cb) {b:Nat} (hb:b∈bs):b<σ.bx.length:=by
 obtain ⟨k,hk,he⟩:=Sb hb
 obtain ⟨x,hx,_⟩:=h.get k b (by rw [Th hk,he])
 exact (Tg.1 hx).1
theorem Hand.at (h:Hand σ bs rest pass cb) {j:Nat} (hj:j<bs.length):∃b,bs[j]?=some b∧b∈bs∧(e.handed σ bs rest).β j=e.β b:=by
 have:=Th hj
 exact ⟨bs[j],this,TE hj,by simp [Env.handed,this]⟩
theorem ZiL (hS:SRel G e σ w) (h:Hand σ bs rest pass cb) {b off:Nat} (ho:okc e σ b off):okc (e.handed σ bs rest) ⟨cb,pass,σ.nx⟩ b off:=by
 refine ⟨fun hX=>?_,fun j hj=>?_,fun t ht p hp hpb=>ho.2.2 t (h.passIn t ht).1 p hp hpb⟩
 ·rcases hX with hX | ⟨i,h1,_,h2⟩ | ⟨t,h1,p,h2,h3,h4⟩
  ·exact ho.1 hX
  ·exact ho.2.1 i h1 h2
  ·have:=ho.2.2 t (h.restIn t h1) p h2 h3;omega
 ·obtain ⟨b',h1,h2,h3⟩:=h.at (e:=e) (show j<bs.length by rw [← h.len];exact hj)
  rw [h3];exact ho.2.1 b' (h.lt h2)
theorem VRel.ren (hS:SRel G e σ w) (h:Hand σ bs rest pass cb) {x:PV} {v:Value} (hv:VRel G e σ w x v):VRel G (e.handed σ bs rest) ⟨cb,pass,σ.nx⟩ w (Ztw bs x) v:=by
 have hd:∀{x:D} {v:Value},DRel (okc e σ) w x v→DRel (okc (e.handed σ bs rest) ⟨cb,pass,σ.nx⟩) w x v:=fun hd=>hd.mono fun b off u hu ho=>⟨ZiL hS h ho,hu⟩
 induction hv with
 | d x v hx=>exact .d _ _ (hd hx)
 | undef v=>exact .undef _
 | ptr b off hb =>
  simp only [Ztw]
  cases hi:Zf6 b bs 0 with
  | none=>exact .undef _
  | some i =>
   obtain ⟨_,h2⟩:=ZaV hi
   simp only [Nat.sub_zero] at h2
   have hlt:=(Tg.1 h2).1
   have:(e.handed σ bs rest).β i=e.β b:=by simp [Env.handed,h2]
   rw [← this]
   exact .ptr i off (by show i<cb.length;rw [h.len];exact hlt)
 | asl b off n hb =>
  simp only [Ztw]
  cases hi:Zf6 b bs 0 with
  | none=>exact .undef _
  | some i =>
   obtain ⟨_,h2⟩:=ZaV hi
   simp only [Nat.sub_zero] at h2
   have hlt:=(Tg.1 h2).1
   have:(e.handed σ bs rest).β i=e.β b:=by simp [Env.handed,h2]
   rw [← this]
   exact .asl i off n (by show i<cb.length;rw [h.len];exact hlt)
 | elem r off b o u hc ho hu=>exact .elem r off b o u hc (fun j hj=>ZiL hS h (ho j hj)) (fun j x hx=>hd (hu j x hx))
 | sl t el rows v hn hdd ht=>exact .sl t el rows v hn (hd hdd) fun hp=>ht (h.passIn t hp).1
 | nils el=>exact .nils el
 | func f a c va vc ha hc _ _ ih1 ih2 =>
  refine .func f _ _ va vc (by rw [YK];exact ha) (by rw [YK];exact hc) (fun i y u hy hu=>?_) (fun i y u hy hu=>?_)
  ·obtain ⟨x,hx,rfl⟩:=W2 i y hy;exact ih1 i x u hx hu
  ·obtain ⟨x,hx,rfl⟩:=W2 i y hy;exact ih2 i x u hx hu
 | iface t x v _ ih=>exact .iface t _ v ih
 | agg cs vs hs _ h1 ih=>exact .agg _ vs (by rw [YK];exact hs) (fun i y u hy hu=>by obtain ⟨x,hx,rfl⟩:=W2 i y hy;exact ih i x u hx hu) h1
 | tuple cs vs hs _ ih=>exact .tuple _ vs (by rw [YK];exact hs) (fun i y u hy hu=>by obtain ⟨x,hx,rfl⟩:=W2 i y hy;exact ih i x u hx hu)
 | raw v=>exact .raw _
theorem SRel.ren (hS:SRel G e σ w) (h:Hand σ bs rest pass cb):SRel G (e.handed σ bs rest) ⟨cb,pass,σ.nx⟩ w where
 inj:=fun i j hi hj he=>by
  obtain ⟨b,h1,h2,h3⟩:=h.at (e:=e) (show i<bs.length by rw [← h.len];exact hi)
  obtain ⟨b',h1',h2',h3'⟩:=h.at (e:=e) (show j<bs.length by rw [← h.len];exact hj)
  rw [h3,h3'] at he
  have:=hS.inj b b' (h.lt h2) (h.lt h2') he
  subst this
  exact h.nodup i j b h1 h1'
 box:=fun j y hy=>by
  have hj:=(Tg.1 hy).1
  obtain ⟨b,h1,h2,h3⟩:=h.at (e:=e) (show j<bs.length by rw [← h.len];exact hj)
  obtain ⟨x,hx,hcb⟩:=h.get j b h1
  simp only at hy
  rw [hcb] at hy
  cases hy
  have hB:=hS.box b x hx
  rw [h3]
  cases x with
  | cells t cs =>
   obtain ⟨vs,g1,g2,g3⟩:=hB
   refine ⟨vs,g1,by rw [YK];exact g2,fun i y u hy hu=>?_⟩
   obtain ⟨z,hz,rfl⟩:=W2 i y hy
   exact ⟨(g3 i z u hz hu).1.ren hS h,(g3 i z u hz hu).2⟩
  | iter s p=>exact hB
  | loop st pd r=>exact hB
 low:=fun j hj=>by
  obtain ⟨b,h1,h2,h3⟩:=h.at (e:=e) (show j<bs.length by rw [← h.len];exact hj)
  rw [h3];exact hS.low b (h.lt h2)
 tkn:=fun t ht=>hS.tkn t (h.passIn t ht).1
 own:=fun t ht p hp=>by
  obtain ⟨h1,h2,h3⟩:=hS.own t (h.passIn t ht).1 p hp
  refine ⟨h1,fun j hj=>?_,h3⟩
  obtain ⟨b,g1,g2,g3⟩:=h.at (e:=e) (show j<bs.length by rw [← h.len];exact hj)
  rw [g3];exact h2 b (h.lt g2)
 dis:=fun t t' ht ht'=>hS.dis t t' (h.passIn t ht).1 (h.passIn t' ht').1
 xlt:=fun b off hX=>by
  rcases hX with hX | ⟨i,h1,_,h2⟩ | ⟨t,h1,p,h2,h3,h4⟩
  ·exact hS.xlt b off hX
  ·rw [← h2];exact hS.lt h1
  ·obtain ⟨_,_,cs,ty,fz,hh⟩:=hS.own t (h.restIn t h1) p h2
   rw [← h3];exact (Tn.1 hh).1
 xown:=fun t ht p hp off hoff hX=>by
  rcases hX with hX | ⟨i,h1,_,h2⟩ | ⟨t',h1,p',h2,h3,h4⟩
  ·exact hS.xown t (h.passIn t ht).1 p hp off hoff hX
  ·exact (hS.own t (h.passIn t ht).1 p hp).2.1 i h1 h2
  ·exact hS.dis t' t (h.restIn t' h1) (h.passIn t ht).1 (fun e=>(h.passIn t ht).2 (e ▸ h1)) p' p h2 hp h3
 glob:=hS.glob
 big:=hS.big
def Env.back (e:Env) (L m nx:Nat) (e3:Env):Env:=⟨fun i=>if i<L then e.β i else e3.β (m+(i - L)),fun t=>if t<nx then e.M t else e3.M (t - nx),e.X⟩
structure Handed (e:Env) (σ:St) (w:World) (bs rest:List Nat) (e2:Env) (σ2:St):Prop where
 nodup:∀(i j b:Nat),bs[i]?=some b→bs[j]?=some b→i=j
 lt:∀b,b∈bs→b<σ.bx.length
 len:σ2.bx.length=bs.length
 beta:∀(j b:Nat),bs[j]?=some b→e2.β j=e.β b
 X:e2.X=ZeX e σ bs rest
 okc:∀b off,okc e σ b off→okc e2 σ2 b off
 tok:∀t,t∈σ2.tk→∀p,e2.M t=some p→∃t0,t0∈σ.tk∧t0∉rest∧e.M t0=some p
 restIn:∀t,t∈rest→t∈σ.tk
variable {e2 e3:Env} {σ2 σ3:St} {w':World} {bx:List Box}
structure Backed (σ:St) (bs:List Nat) (σ3:St) (bx:List Box):Prop where
 le:bs.length≤σ3.bx.length
 len:bx.length=σ.bx.length+(σ3.bx.length - bs.length)
 some:∀(j b:Nat) (x:Box),bs[j]?=some b→σ3.bx[j]?=some x→bx[b]?=some (JB bs bs.length σ.bx.length σ.nx x)
 old:∀i,i<σ.bx.length→i∉bs→bx[i]?=σ.bx[i]?
 new:∀i,σ.bx.length≤i→bx[i]?=σ3.bx[bs.length+(i - σ.bx.length)]?.map (JB bs bs.length σ.bx.length σ.nx)
abbrev V8 (σ:St) (rest:List Nat) (σ3:St) (bx:List Box):St:=⟨bx,rest++σ3.tk.map (σ.nx+·),σ.nx+σ3.nx⟩
theorem Ys {t:Nat} (hS:SRel G e σ w) (h:Handed e σ w bs rest e2 σ2) (ht:t∈(V8 σ rest σ3 bx).tk):(t∈rest∧t<σ.nx)∨∃t',t'∈σ3.tk∧t=σ.nx+t':=by
 rcases TU.1 ht with h1 | h1
 ·exact .inl ⟨h1,hS.tkn t (h.restIn t h1)⟩
 ·obtain ⟨t',h2,h3⟩:=Sx.1 h1
  exact .inr ⟨t',h2,h3.symm⟩
theorem YY {L m nx t:Nat} (h:t<nx):(e.back L m nx e3).M t=e.M t:=by simp [Env.back,h]
theorem back_M_new {L m nx t:Nat}:(e.back L m nx e3).M (nx+t)=e3.M t:=by
 have:¬nx+t<nx:=by omega
 simp [Env.back,this]
theorem Z2 {L m nx i:Nat} (h:i<L):(e.back L m nx e3).β i=e.β i:=by simp [Env.back,h]
theorem Ws {L m nx i:Nat} (h:L≤i):(e.back L m nx e3).β i=e3.β (m+(i - L)):=by
 have:¬i<L:=by omega
 simp [Env.back,this]
theorem ZhH (h:Handed e σ w bs rest e2 σ2) (hL:Later e2 σ2 w e3 σ3 w') {i:Nat} (hi:i<σ.bx.length):(∃j,j<σ2.bx.length∧bs[j]?=some i∧e3.β j=e.β i)∨(i∉bs∧∀off,e3.X (e.β i) off):=by
 by_cases hm:i∈bs
 ·obtain ⟨j,hj,he⟩:=Sb hm
  have hb:bs[j]?=some i:=by rw [Th hj,he]
  have hj2:j<σ2.bx.length:=by rw [h.len];exact hj
  exact .inl ⟨j,hj2,hb,(hL.beta j hj2).trans (h.beta j i hb)⟩
 ·exact .inr ⟨hm,fun off=>by rw [hL.X,h.X];exact .inr (.inl ⟨i,hi,hm,rfl⟩)⟩
theorem ZeY (hS:SRel G e σ w) (h:Handed e σ w bs rest e2 σ2) (hL:Later e2 σ2 w e3 σ3 w') (hb:Backed σ bs σ3 bx) {b off:Nat} (ho:okc e3 σ3 b off) :
  okc (e.back σ.bx.length bs.length σ.nx e3) (V8 σ rest σ3 bx) b off:=by
 have hX:¬ZeX e σ bs rest b off:=by rw [← h.X,← hL.X];exact ho.1
 refine ⟨fun hx=>hX (.inl hx),fun i hi=>?_,fun t ht p hp hpb=>?_⟩
 ·by_cases hlt:i<σ.bx.length
  ·rw [Z2 hlt]
   rcases ZhH h hL hlt with ⟨j,hj,_,he⟩ | ⟨_,hx⟩
   ·rw [← he];exact ho.2.1 j (TB hj hL.len)
   ·intro e;rw [← e] at ho;exact ho.1 (hx off)
  ·rw [Ws (by omega)]
   have hlen:=hb.len
   have hle:=hb.le
   simp only at hi
   exact ho.2.1 _ (by omega)
 ·rcases Ys hS h ht with ⟨h1,h2⟩ | ⟨t',h1,rfl⟩
  ·rw [YY h2] at hp
   have:¬p.2≤off:=fun hle=>hX (.inr (.inr ⟨t,h1,p,hp,hpb,hle⟩))
   omega
  ·rw [back_M_new] at hp
   exact ho.2.2 t' h1 p hp hpb
theorem VRel.back (hS:SRel G e σ w) (h:Handed e σ w bs rest e2 σ2) (hL:Later e2 σ2 w e3 σ3 w') (hb:Backed σ bs σ3 bx) {x:PV} {v:Value} (hv:VRel G e3 σ3 w' x v) :
  VRel G (e.back σ.bx.length bs.length σ.nx e3) (V8 σ rest σ3 bx) w' (Zf8 bs bs.length σ.bx.length σ.nx x) v:=by
 have hd:∀{x:D} {v:Value},DRel (okc e3 σ3) w' x v→DRel (okc (e.back σ.bx.length bs.length σ.nx e3) (V8 σ rest σ3 bx)) w' x v:=fun hd=>hd.mono fun b off u hu ho=>⟨ZeY hS h hL hb ho,hu⟩
 induction hv with
 | d x v hx=>exact .d _ _ (hd hx)
 | undef v=>exact .undef _
 | ptr i off hi =>
  simp only [Zf8]
  have hlen:=hb.len
  have hle:=hb.le
  cases hbi:bs[i]? with
  | some b =>
   have hj:=(Tg.1 hbi).1
   have hlt:=h.lt b (Sd hbi)
   have:e3.β i=(e.back σ.bx.length bs.length σ.nx e3).β b:=by
    rw [Z2 hlt];exact (hL.beta i (by rw [h.len];exact hj)).trans (h.beta i b hbi)
   rw [this]
   exact .ptr b off (by show b<bx.length;omega)
  | none =>
   have hge:bs.length≤i:=by simpa using hbi
   have:e3.β i=(e.back σ.bx.length bs.length σ.nx e3).β (σ.bx.length+(i - bs.length)):=by
    rw [Ws (by omega)];congr 1;omega
   rw [this]
   exact .ptr _ off (by show _<bx.length;omega)
 | asl i off n hi =>
  simp only [Zf8]
  have hlen:=hb.len
  have hle:=hb.le
  cases hbi:bs[i]? with
  | some b =>
   have hj:=(Tg.1 hbi).1
   have hlt:=h.lt b (Sd hbi)
   have:e3.β i=(e.back σ.bx.length bs.length σ.nx e3).β b:=by
    rw [Z2 hlt];exact (hL.beta i (by rw [h.len];exact hj)).trans (h.beta i b hbi)
   rw [this]
   exact .asl b off n (by show b<bx.length;omega)
  | none =>
   have hge:bs.length≤i:=by simpa using hbi
   have:e3.β i=(e.back σ.bx.length bs.length σ.nx e3).β (σ.bx.length+(i - bs.length)):=by
    rw [Ws (by omega)];congr 1;omega
   rw [this]
   exact .asl _ off n (by show _<bx.length;omega)
 | elem r off b o u hc ho hu=>exact .elem r off b o u hc (fun j hj=>ZeY hS h hL hb (ho j hj)) (fun j x hx=>hd (hu j x hx))
 | sl t el rows v hn hdd ht =>
  refine .sl _ el rows v (by show σ.nx+t<σ.nx+σ3.nx;omega) (hd hdd) fun hp=>?_
  rcases Ys hS h hp with ⟨_,h2⟩ | ⟨t',h1,h2⟩
  ·omega
  ·obtain rfl:t=t':=by omega
   rcases ht h1 with ⟨g1,g2,g3⟩ | ⟨sz,g1,g2,g3,b,off,cap,cs,ty,fz,g4,g5,g6,g7,g8,g9,g10⟩
   ·exact .inl ⟨g1,g2,back_M_new.trans g3⟩
   ·exact .inr ⟨sz,g1,g2,g3,b,off,cap,cs,ty,fz,g4,g5,g6,g7,g8,g9,back_M_new.trans g10⟩
 | nils el=>exact .nils el
 | func f a c va vc ha hc _ _ ih1 ih2 =>
  refine .func f _ _ va vc (by rw [Xo];exact ha) (by rw [Xo];exact hc) (fun i y u hy hu=>?_) (fun i y u hy hu=>?_)
  ·obtain ⟨x,hx,rfl⟩:=Vt i y hy;exact ih1 i x u hx hu
  ·obtain ⟨x,hx,rfl⟩:=Vt i y hy;exact ih2 i x u hx hu
 | iface t x v _ ih=>exact .iface t _ v ih
 | agg cs vs hs _ h1 ih=>exact .agg _ vs (by rw [Xo];exact hs) (fun i y u hy hu=>by obtain ⟨x,hx,rfl⟩:=Vt i y hy;exact ih i x u hx hu) h1
 | tuple cs vs hs _ ih=>exact .tuple _ vs (by rw [Xo];exact hs) (fun i y u hy hu=>by obtain ⟨x,hx,rfl⟩:=Vt i y hy;exact ih i x u hx hu)
 | raw v=>exact .raw _
theorem Up (hS:SRel G e σ w) (h:Handed e σ w bs rest e2 σ2) (hS3:SRel G e3 σ3 w') (hL:Later e2 σ2 w e3 σ3 w') (hb:Backed σ bs σ3 bx):Stepped e σ w (e.back σ.bx.length bs.length σ.nx e3) (V8 σ rest σ3 bx) w' where
 len:=by show σ.bx.length≤bx.length;rw [hb.len];omega
 beta:=fun i hi=>Z2 hi
 X:=rfl
 pres:=fun b off u hu ho=>by
  obtain ⟨h1,h2⟩:=hL.pres b off u hu (h.okc b off ho)
  exact ⟨ZeY hS h hL hb h1,h2⟩
 blocks:=fun b hlt hn ht=>hL.blocks b hlt (fun j hj=>by
   have hj':j<bs.length:=by rw [← h.len];exact hj
   have hbj:=Th hj'
   rw [h.beta j _ hbj];exact hn _ (h.lt _ (TE hj'))) (fun t htm p hp=>by
   obtain ⟨t0,h1,_,h2⟩:=h.tok t htm p hp;exact ht t0 h1 p h2)
 size:=hL.size
 os:=hL.os
 tape:=hL.tape
 output:=hL.output
 fresh:=fun i h1 h2=>by
  rw [Ws h1]
  have hlen:=hb.len
  have hle:=hb.le
  have:i<bx.length:=h2
  exact hL.fresh _ (by rw [h.len];omega) (by omega)
 ftok:=fun t ht p hp=>by
  rcases Ys hS h ht with ⟨h1,h2⟩ | ⟨t',h1,rfl⟩
  ·rw [YY h2] at hp;exact .inr ⟨t,h.restIn t h1,p,hp,rfl⟩
  ·rw [back_M_new] at hp
   rcases hL.ftok t' h1 p hp with h2 | ⟨t0,h3,p0,h4,h5⟩
   ·exact .inl h2
   ·obtain ⟨t1,g1,_,g2⟩:=h.tok t0 h3 p0 h4;exact .inr ⟨t1,g1,p0,g2,h5⟩
 nx:=Nat.le_add_right _ _
 toks:=fun t hlt ht=>by
  rcases Ys hS h ht with ⟨h1,_⟩ | ⟨t',h1,rfl⟩
  ·exact ⟨h.restIn t h1,YY hlt⟩
  ·omega
 own:=fun t hlt ht p hp hplt=>by
  rcases Ys hS h ht with ⟨h1,_⟩ | ⟨t',h1,rfl⟩
  ·obtain ⟨_,hnb,_⟩:=hS.own t (h.restIn t h1) p hp
   refine hL.blocks p.1 hplt (fun j hj=>?_) (fun t2 ht2 p2 hp2=>?_)
   ·have hj':j<bs.length:=by rw [← h.len];exact hj
    have hbj:=Th hj'
    rw [h.beta j _ hbj];exact hnb _ (h.lt _ (TE hj'))
   ·obtain ⟨t0,g1,g2,g3⟩:=h.tok t2 ht2 p2 hp2
    exact hS.dis t0 t g1 (h.restIn t h1) (fun e=>g2 (e ▸ h1)) p2 p g3 hp
  ·omega
theorem SRel.back (hS:SRel G e σ w) (h:Handed e σ w bs rest e2 σ2) (hS3:SRel G e3 σ3 w') (hL:Later e2 σ2 w e3 σ3 w') (hb:Backed σ bs σ3 bx):SRel G (e.back σ.bx.length bs.length σ.nx e3) (V8 σ rest σ3 bx) w':=by
 have hst:=Up hS h hS3 hL hb
 have hlen:=hb.len
 have hle:=hb.le
 have hbx:(V8 σ rest σ3 bx).bx.length=bx.length:=rfl
 have hnew:∀i,σ.bx.length≤i→i<bx.length→(e.back σ.bx.length bs.length σ.nx e3).β i=e3.β (bs.length+(i - σ.bx.length))∧bs.length+(i - σ.bx.length)<σ3.bx.length∧w.heap.size≤e3.β (bs.length+(i - σ.bx.length)):=fun i h1 h2=>by
  have:=hst.fresh i h1 h2
  rw [Ws h1] at this
  exact ⟨Ws h1,by omega,this⟩
 have hrest:∀t,t∈rest→∀p,e.M t=some p→p.1<w.heap.size:=fun t ht p hp=>by
  obtain ⟨_,_,cs,ty,fz,hh⟩:=hS.own t (h.restIn t ht) p hp
  exact (Tn.1 hh).1
 constructor
 ·intro i j hi hj he
  by_cases h1:i<σ.bx.length <;> by_cases h2:j<σ.bx.length
  ·rw [Z2 h1,Z2 h2] at he;exact hS.inj i j h1 h2 he
  ·obtain ⟨g1,g2,g3⟩:=hnew j (by omega) hj
   rw [Z2 h1,g1] at he
   have:=hS.lt h1;omega
  ·obtain ⟨g1,g2,g3⟩:=hnew i (by omega) hi
   rw [Z2 h2,g1] at he
   have:=hS.lt h2;omega
  ·obtain ⟨g1,g2,g3⟩:=hnew i (by omega) hi
   obtain ⟨k1,k2,k3⟩:=hnew j (by omega) hj
   rw [g1,k1] at he
   have:=hS3.inj _ _ g2 k2 he
   omega
 ·intro i x hx
  have hi:=(Tg.1 hx).1
  simp only at hx hi
  have hBk:∀(y:Box) (b:Nat),BRel G e3 σ3 w' y b→BRel G (e.back σ.bx.length bs.length σ.nx e3) (V8 σ rest σ3 bx) w' (JB bs bs.length σ.bx.length σ.nx y) b:=fun y b hB=>by
   cases y with
   | cells t cs =>
    obtain ⟨vs,g1,g2,g3⟩:=hB
    refine ⟨vs,g1,by rw [Xo];exact g2,fun k z u hz hu=>?_⟩
    obtain ⟨z',hz',rfl⟩:=Vt k z hz
    exact ⟨(g3 k z' u hz' hu).1.back hS h hL hb,(g3 k z' u hz' hu).2⟩
   | iter s p=>exact hB
   | loop st pd r=>exact hB
  by_cases h1:i<σ.bx.length
  ·rw [Z2 h1]
   rcases ZhH h hL h1 with ⟨j,hj,hbj,he⟩ | ⟨hni,hX⟩
   ·have hj3:j<σ3.bx.length:=TB hj hL.len
    have:=hb.some j i _ hbj (Th hj3)
    rw [this] at hx
    cases hx
    rw [← he]
    exact hBk _ _ (hS3.box j _ (Th hj3))
   ·rw [hb.old i h1 hni] at hx
    refine (hS.box i x hx).step hst (hL.blocks _ (hS.lt h1) (fun j hj=>?_) (fun t ht p hp=>?_))
    ·have hj':j<bs.length:=by rw [← h.len];exact hj
     have hbj:=Th hj'
     rw [h.beta j _ hbj]
     intro he
     have:=hS.inj _ _ (h.lt _ (TE hj')) h1 he
     exact hni (this ▸ TE hj')
    ·obtain ⟨t0,g1,_,g2⟩:=h.tok t ht p hp
     exact fun he=>(hS.own t0 g1 p g2).2.1 i h1 he.symm
  ·obtain ⟨g1,g2,g3⟩:=hnew i (by omega) hi
   rw [hb.new i (by omega),Th g2] at hx
   cases hx
   rw [g1]
   exact hBk _ _ (hS3.box _ _ (Th g2))
 ·intro i hi
  by_cases h1:i<σ.bx.length
  ·rw [Z2 h1];exact hS.low i h1
  ·obtain ⟨g1,g2,g3⟩:=hnew i (by omega) hi
   rw [g1];exact hS3.low _ g2
 ·intro t ht
  rcases Ys hS h ht with ⟨_,h2⟩ | ⟨t',h1,rfl⟩
  ·show t<σ.nx+σ3.nx;omega
  ·have:=hS3.tkn t' h1;show σ.nx+t'<σ.nx+σ3.nx;omega
 ·intro t ht p hp
  rcases Ys hS h ht with ⟨h1,h2⟩ | ⟨t',h1,rfl⟩
  ·rw [YY h2] at hp
   obtain ⟨g1,g2,cs,ty,fz,g3⟩:=hS.own t (h.restIn t h1) p hp
   refine ⟨g1,fun i hi=>?_,cs,ty,fz,(hst.own t h2 ht p hp (hrest t h1 p hp)).trans g3⟩
   by_cases h3:i<σ.bx.length
   ·rw [Z2 h3];exact g2 i h3
   ·obtain ⟨k1,k2,k3⟩:=hnew i (by omega) hi
    rw [k1]
    have:=hrest t h1 p hp;omega
  ·rw [back_M_new] at hp
   obtain ⟨g1,g2,g3⟩:=hS3.own t' h1 p hp
   refine ⟨g1,fun i hi=>?_,g3⟩
   by_cases h3:i<σ.bx.length
   ·rw [Z2 h3]
    rcases ZhH h hL h3 with ⟨j,hj,_,he⟩ | ⟨_,hX⟩
    ·rw [← he];exact g2 j (TB hj hL.len)
    ·intro he
     exact hS3.xown t' h1 p hp p.2 (Tp _) (he ▸ hX p.2)
   ·obtain ⟨k1,k2,k3⟩:=hnew i (by omega) hi
    rw [k1];exact g2 _ k2
 ·intro t t' ht ht' hne p p' hp hp'
  have mixed:∀t t',t∈rest→t<σ.nx→t'∈σ3.tk→∀p p',e.M t=some p→e3.M t'=some p'→p.1≠p'.1:=fun t t' h1 h2 h3 p p' hp hp' he=>by
   refine hS3.xown t' h3 p' hp' (max p.2 p'.2) (Nat.le_max_right _ _) ?_
   rw [hL.X,h.X]
   exact .inr (.inr ⟨t,h1,p,hp,he,Nat.le_max_left _ _⟩)
  rcases Ys hS h ht with ⟨h1,h2⟩ | ⟨s,h1,rfl⟩ <;> rcases Ys hS h ht' with ⟨k1,k2⟩ | ⟨s',k1,rfl⟩
  ·rw [YY h2] at hp
   rw [YY k2] at hp'
   exact hS.dis t t' (h.restIn t h1) (h.restIn t' k1) hne p p' hp hp'
  ·rw [YY h2] at hp
   rw [back_M_new] at hp'
   exact mixed t s' h1 h2 k1 p p' hp hp'
  ·rw [back_M_new] at hp
   rw [YY k2] at hp'
   exact fun he=>mixed t' s k1 k2 h1 p' p hp' hp he.symm
  ·rw [back_M_new] at hp hp'
   exact hS3.dis s s' h1 k1 (fun e=>hne (by rw [e])) p p' hp hp'
 ·intro b off hX
  exact TB (hS.xlt b off hX) hL.size
 ·intro t ht p hp off hoff hX
  rcases Ys hS h ht with ⟨h1,h2⟩ | ⟨t',h1,rfl⟩
  ·rw [YY h2] at hp;exact hS.xown t (h.restIn t h1) p hp off hoff hX
  ·rw [back_M_new] at hp
   refine hS3.xown t' h1 p hp off hoff ?_
   rw [hL.X,h.X];exact .inl hX
 ·exact hS3.glob
 ·exact hS3.big
theorem Zab {g:FuncId} {sp:Zu} (hP:PCalls G g sp) {args:List PV} {K:PEnd→St→Prop} (hv:ZaU sp args σ K) :
  WZ G.P g∧∀(ro:Option Nat) (n:Nat) (e:Env) (w:World) (vs:Array Value),SRel G e σ w→ArgsRel G e σ w args vs→CallsIn (fw ro) n G.P g vs w (ZpM G e σ w K):=by
 unfold ZaU at hv
 simp only [Vo] at hv
 generalize Zeg σ.bx (σ.bx.length+1) 0 (ZdB args [])=bs at hv
 split at hv
 ·rename_i hnd
  obtain ⟨cb,hv,hcl,hcg⟩:=ZeV hv
  obtain ⟨args',tk1,as1,hv,hx1,hI1,hal,hav⟩:=ZeQ (as:=[]) (ZyC σ.tk σ.tk fun _ h=>h) hv
  exact m6
 ·exact hv.elim
theorem ZdC {g:FuncId} {sp:Zu} (hP:PCalls G g sp) {args:List PV} {K:PEnd→St→Prop} (hv:Zaa sp args σ K) :
  WZ G.P g∧∀(ro:Option Nat) (n:Nat) (e:Env) (w:World) (vs:Array Value),SRel G e σ w→ArgsRel G e σ w args vs→CallsIn (fw ro) n G.P g vs w (ZpM G e σ w K):=by
 unfold Zaa at hv
 simp only [Vo] at hv
 generalize Zeg σ.bx (σ.bx.length+1) 0 (ZdB args [])=bs at hv
 split at hv
 ·rename_i hnd
  obtain ⟨cb,hv,hcl,hcg⟩:=ZeV hv
  obtain ⟨args',tk1,as1,hv,hx1,hI1,hal,hav⟩:=ZiH (as:=[]) (ZyC σ.tk σ.tk fun _ h=>h) hv
  exact m6
 ·exact hv.elim
def Zc (sp:Zu):Prop:=∀args σ (K K':PEnd→St→Prop),(∀e σ,K e σ→K' e σ)→sp args σ K→sp args σ K'
theorem Zac {bs:List Nat} {bx:List Box}:∀{l:List Nat} {K K':List Box→Prop},(∀r,K r→K' r)→ZnG bs bx l K→ZnG bs bx l K'
 | [],K,K',hK,h=>hK _ h
 | b::l,K,K',hK,h=>by
  simp only [ZnG] at h ⊢
  split at h
  ·exact Zac (fun r hr=>hK _ hr) h
  ·exact Zac (fun r hr=>hK _ hr) h
  ·exact h.elim
  ·exact h.elim
theorem Zlv {n:Nat} {tk:List Nat} {k:Nat} {v:PV} {K K':PV→List Nat→Nat→Prop} (hK:∀v t k,K v t k→K' v t k) (h:ZpF n tk k v K):ZpF n tk k v K':=by
 have gen:∀v,(match bnd n v with | true=>Jq (clean v) fun v=>K v tk k | false=>K .undef tk k:Prop)→(match bnd n v with | true=>Jq (clean v) fun v=>K' v tk k | false=>K' .undef tk k:Prop):=fun v h=>by
  split at h
  ·rw [Yb] at h ⊢;exact hK _ _ _ h
  ·exact hK _ _ _ h
 cases v with
 | sl t el rows =>
  simp only [ZpF] at h ⊢
  split at h <;> exact hK _ _ _ h
 | nils el=>exact hK _ _ _ h
 | d x=>exact gen (.d x) h
 | undef=>exact gen .undef h
 | ptr b o=>exact gen (.ptr b o) h
 | asl b o n=>exact gen (.asl b o n) h
 | elem r o=>exact gen (.elem r o) h
 | func f a c=>exact gen (.func f a c) h
 | iface t v=>exact gen (.iface t v) h
 | agg cs=>exact gen (.agg cs) h
 | tuple cs=>exact gen (.tuple cs) h
 | raw v=>exact gen (.raw v) h
theorem ZcD {n:Nat}:∀{vs:List PV} {tk:List Nat} {k:Nat} {K K':List PV→List Nat→Nat→Prop},(∀v t k,K v t k→K' v t k)→ZpG n vs tk k K→ZpG n vs tk k K'
 | [],_,_,_,_,hK,h=>hK _ _ _ h
 | v::vs,_,_,_,_,hK,h=>Zlv (fun v t k h=>ZcD (fun vs t k h=>hK _ _ _ h) h) h
theorem ZjU {n:Nat} {tk:List Nat} {k:Nat} {v:PV} {K K':PV→List Nat→Nat→Prop} (hK:∀v t k,K v t k→K' v t k) (h:Zhm n tk k v K):Zhm n tk k v K':=by
 have gen:∀v,(match bnd n v with | true=>Jq (cleanN v) fun v=>K v tk k | false=>K .undef tk k:Prop)→(match bnd n v with | true=>Jq (cleanN v) fun v=>K' v tk k | false=>K' .undef tk k:Prop):=fun v h=>by
  split at h
  ·rw [Yb] at h ⊢;exact hK _ _ _ h
  ·exact hK _ _ _ h
 cases v with
 | sl t el rows =>
  simp only [Zhm] at h ⊢
  split at h <;> exact hK _ _ _ h
 | nils el=>exact hK _ _ _ h
 | d x=>exact gen (.d x) h
 | undef=>exact gen .undef h
 | ptr b o=>exact gen (.ptr b o) h
 | asl b o n=>exact gen (.asl b o n) h
 | elem r o=>exact gen (.elem r o) h
 | func f a c=>exact gen (.func f a c) h
 | iface t v=>exact gen (.iface t v) h
 | agg cs=>exact gen (.agg cs) h
 | tuple cs=>exact gen (.tuple cs) h
 | raw v=>exact gen (.raw v) h
theorem Zeh {n:Nat}:∀{vs:List PV} {tk:List Nat} {k:Nat} {K K':List PV→List Nat→Nat→Prop},(∀v t k,K v t k→K' v t k)→ZkU n vs tk k K→ZkU n vs tk k K'
 | [],_,_,_,_,hK,h=>hK _ _ _ h
 | v::vs,_,_,_,_,hK,h=>ZjU (fun v t k h=>Zeh (fun vs t k h=>hK _ _ _ h) h) h
theorem Uq {n:Nat}:∀{m:Nat} {bs:List Box} {tk:List Nat} {k:Nat} {K K':List Box→List Nat→Nat→Prop},(∀v t k,K v t k→K' v t k)→Zhn n m bs tk k K→Zhn n m bs tk k K'
 | 0,_,_,_,_,_,hK,h=>by simp only [Zhn] at h ⊢;exact hK _ _ _ h
 | _+1,[],_,_,_,_,_,h=>h.elim
 | _+1,.cells t cs::bs,_,_,_,_,hK,h=>by
  simp only [Zhn] at h ⊢
  exact ZcD (fun v t k h=>Uq (fun _ _ _ h=>hK _ _ _ h) h) h
 | _+1,.iter s p::bs,_,_,K,K',hK,h=>by
  simp only [Zhn] at h ⊢
  exact Uq (K:=fun l tk k=>K (.iter s p::l) tk k) (K':=fun l tk k=>K' (.iter s p::l) tk k) (fun _ _ _ h=>hK _ _ _ h) h
 | _+1,.loop st pd r::bs,_,_,K,K',hK,h=>by
  simp only [Zhn] at h ⊢
  exact Uq (K:=fun l tk k=>K (.loop st pd r::l) tk k) (K':=fun l tk k=>K' (.loop st pd r::l) tk k) (fun _ _ _ h=>hK _ _ _ h) h
theorem ZaW {bb:Box→Box}:∀{bs:List Nat} {xs acc:List Box} {K K':List Box→Prop},(∀r,K r→K' r)→ZcC bb bs xs acc K→ZcC bb bs xs acc K'
 | [],_,_,_,_,hK,h=>by simp only [ZcC] at h ⊢;exact hK _ h
 | _::_,[],_,_,_,_,h=>h.elim
 | b::bs,x::xs,_,_,_,hK,h=>by simp only [ZcC] at h ⊢;exact ZaW hK h
theorem Zbw {sp:Zu} (hsp:Zc sp):Zc (ZaU sp):=fun args σ K K' hK h=>by
 unfold ZaU at h ⊢
 simp only [Vo] at h ⊢
 split at h
 ·exact Zac (fun cb h=>ZcD (fun a t k h=>Uq (fun cb' r k h=>hsp _ _ _ _ (fun pe σ3 h=>ZaW (fun bx h=>hK _ _ h) h) h) h) h) h
 ·exact h.elim
theorem ZeZ {sp:Zu} (hsp:Zc sp):Zc (Zaa sp):=fun args σ K K' hK h=>by
 unfold Zaa at h ⊢
 simp only [Vo] at h ⊢
 split at h
 ·exact Zac (fun cb h=>Zeh (fun a t k h=>Uq (fun cb' r k h=>hsp _ _ _ _ (fun pe σ3 h=>ZaW (fun bx h=>hK _ _ h) h) h) h) h) h
 ·exact h.elim
end
end Go.PM
end

section
namespace Go.PM
abbrev Tbl:=List (Nat×Zu)
def Zyz:Tbl→Nat→List PV→St→(PEnd→St→Prop)→Prop
 | [],_,_,_,_=>False
 | (g,sp)::l,n,args,σ,K=>match Nat.beq g n with
  | true=>ZaU sp args σ K
  | false=>Zyz l n args σ K
def TblOK (G:GE):Tbl→Prop
 | []=>True
 | (g,sp)::l=>(PCalls G g sp∧Zc sp)∧TblOK G l
theorem TblOK.sem {G:GE}:∀{l:Tbl},TblOK G l→Zhs G (Zyz l)
 | [],_=>fun _ _ _ _ h=>h.elim
 | (g,sp)::l,⟨⟨h1,_⟩,h2⟩=>fun n args σ K h=>by
  simp only [Zyz] at h
  split at h
  ·rename_i hb
   cases Tm hb
   exact Zab h1 h
  ·exact TblOK.sem h2 n args σ K h
theorem TblOK.mono {G:GE}:∀{l:Tbl},TblOK G l→∀n args σ (K K':PEnd→St→Prop),(∀e σ,K e σ→K' e σ)→Zyz l n args σ K→Zyz l n args σ K'
 | [],_=>fun _ _ _ _ _ _ h=>h.elim
 | (g,sp)::l,⟨⟨_,h1⟩,h2⟩=>fun n args σ K K' hK h=>by
  simp only [Zyz] at h ⊢
  split at h
  ·exact Zbw h1 _ _ _ _ hK h
  ·exact TblOK.mono h2 n args σ K K' hK h
def ZyA (nl:Nat→Bool) (tbl:Tbl):Tbl→Nat→List PV→St→(PEnd→St→Prop)→Prop
 | [],_,_,_,_=>False
 | (g,sp)::l,n,args,σ,K=>match Nat.beq g n with
  | true=>match nl n with | true=>Zaa sp args σ K | false=>ZaU sp args σ K
  | false=>ZyA nl tbl l n args σ K
theorem TblOK.semN {G:GE} {nl:Nat→Bool} {tbl:Tbl}:∀{l:Tbl},TblOK G l→Zhs G (ZyA nl tbl l)
 | [],_=>fun _ _ _ _ h=>h.elim
 | (g,sp)::l,⟨⟨h1,_⟩,h2⟩=>fun n args σ K h=>by
  simp only [ZyA] at h
  split at h
  ·rename_i hb
   cases Tm hb
   split at h
   ·exact ZdC h1 h
   ·exact Zab h1 h
  ·exact TblOK.semN h2 n args σ K h
theorem TblOK.monoN {G:GE} {nl:Nat→Bool} {tbl:Tbl}:∀{l:Tbl},TblOK G l→∀n args σ (K K':PEnd→St→Prop),(∀e σ,K e σ→K' e σ)→ZyA nl tbl l n args σ K→ZyA nl tbl l n args σ K'
 | [],_=>fun _ _ _ _ _ _ h=>h.elim
 | (g,sp)::l,⟨⟨_,h1⟩,h2⟩=>fun n args σ K K' hK h=>by
  simp only [ZyA] at h ⊢
  split at h
  ·split at h
   ·exact ZeZ h1 _ _ _ _ hK h
   ·exact Zbw h1 _ _ _ _ hK h
  ·exact TblOK.monoN h2 n args σ K K' hK h
def Zlw:Value→List PV→St→(PEnd→St→Prop)→Prop:=fun _ _ _ _=>False
abbrev Raw:=Value→List PV→St→(PEnd→St→Prop)→Prop
abbrev ZjV:=FuncId→List PV→Raw→St→(PEnd→St→Prop)→Prop
def X1:ZjV:=fun _ _ _ _ _=>False
def ZtJ:LoopAnn:=⟨[],[],fun _ _=>False,fun _ _=>0⟩
def Zb:List (Nat×LoopAnn)→Nat→LoopAnn
 | [],_=>ZtJ
 | (k,a)::l,n=>match Nat.beq k n with | true=>a | false=>Zb l n
def ctx (T:Tab) (tbl:Tbl) (loops:Nat→LoopAnn):Cx:=⟨T,Zyz tbl,Zlw,X1,loops,fun _=>0,fun _=>false,fun _=>false,true,fun _=>none⟩
def ZxB (T:Tab) (tbl:Tbl) (it:ZjV) (loops:Nat→LoopAnn):Cx:=⟨T,Zyz tbl,Zlw,it,loops,fun _=>0,fun _=>false,fun _=>false,true,fun _=>none⟩
def ZjW (T:Tab) (tbl:Tbl) (it:ZjV) (loops:Nat→LoopAnn) (unr:Nat→Nat) (ties:Nat→Bool):Cx:=⟨T,Zyz tbl,Zlw,it,loops,unr,ties,fun _=>false,true,fun _=>none⟩
def ZxC (T:Tab) (tbl:Tbl) (it:ZjV) (loops:Nat→LoopAnn) (unr:Nat→Nat) (ties:Nat→Bool) (bsl nl:Nat→Bool):Cx:=⟨T,ZyA nl tbl tbl,Zlw,it,loops,unr,ties,bsl,true,fun _=>none⟩
def ZxD (T:Tab) (tbl:Tbl) (loops:Nat→LoopAnn) (unr:Nat→Nat) (ties:Nat→Bool) (bsl nl:Nat→Bool) (cut:Nat→Option (List Nat×(List PV→St→Prop))):Cx:=⟨T,ZyA nl tbl tbl,Zlw,X1,loops,unr,ties,bsl,true,cut⟩
def ZtK:List (Nat×List Nat×(List PV→St→Prop))→Nat→Option (List Nat×(List PV→St→Prop))
 | [],_=>none
 | (k,a)::l,n=>match Nat.beq k n with | true=>some a | false=>ZtK l n
def WQ:List Nat→Nat→Bool
 | [],_=>false
 | k::l,n=>match Nat.beq k n with | true=>true | false=>WQ l n
def Zad:List (Nat×Nat)→Nat→Nat
 | [],_=>0
 | (k,a)::l,n=>match Nat.beq k n with | true=>a | false=>Zad l n
def Zlx (T:Tab) (tbl:Tbl) (it:ZjV) (gid:FuncId) (fn:Func) (loops:Nat→LoopAnn):ZjV:=fun g args raw σ K=>match Nat.beq gid g with
 | true=>Nat.ble args.length fn.ntmps=true∧W ⟨T,Zyz tbl,raw,it,loops,fun _=>0,fun _=>false,fun _=>false,true,fun _=>none⟩ (WU fn) (fun e f σ'=>match e with
   | .normal | .ret=>pres T f σ'.bx fn.results.toList fun vs=>K (.ret (Uh vs)) σ'
   | .panic v=>K (.panic v) σ'
   | _=>False) (Zdy 0 args) σ
 | false=>False
theorem Yt {G:GE}:VO G X1:=fun _ _ _ _ _ h=>h.elim
theorem ZjX {G : GE} {T : Tab} {tbl : Tbl} (hT : TabOK T G.P) (hmix : G.P.follows .mixedOrders = true) (ht : TblOK G tbl) {it : ZjV} (hit : VO G it) {gid : FuncId} {fn : Func} {c : Code} (hf : G.P.funcs[gid]? = some fn) (hb : fn.body = some c) (hname : (fn.name == "runtime.NumGoroutine") = false)
  (hok:Zw fn.ntmps c=true) (loops:Nat→LoopAnn):VO G (Zlx T tbl it gid fn loops):=fun g args raw σ K h=>by
 unfold Zlx at h
 split at h
 ·rename_i hbq
  cases Tm hbq
  refine ⟨Zj hf hname hb,fun n e w vs hS hargs hraw=>?_⟩
  have hbo:WU fn=c:=by simp [WU,hb]
  rw [hbo] at h
  have presM:∀{T:Tab} {f:Frame} {bx:List Box} {l:List ResultVar} {K K':List PV→Prop},(∀vs,K vs→K' vs)→pres T f bx l K→pres T f bx l K':=by
   intro T f bx l
   induction l with
   | nil=>exact fun hK h=>hK _ h
   | cons r l ih =>
    intro K K' hK h
    exact m74
  refine ZcB hmix (C:=⟨T,Zyz tbl,raw,it,loops,fun _=>0,fun _=>false,fun _=>false,true,fun _=>none⟩) ⟨hT,ht.sem,hraw,hit,.inl rfl⟩ ⟨fun _ h1 h2=>hT.one h1 h2,ht.mono,fun _ _ _ _ h=>h.elim,rfl⟩ hf hb hok (Tb h.1) h.2 (fun pe f' σ' hq=>?_) hS hargs
  cases pe with
  | normal=>exact presM (fun vs hK e' w' v h1 h2 h3=>⟨.ret (Uh vs),σ',e',hK,⟨v,rfl,h2⟩,h1,h3⟩) hq
  | ret=>exact presM (fun vs hK e' w' v h1 h2 h3=>⟨.ret (Uh vs),σ',e',hK,⟨v,rfl,h2⟩,h1,h3⟩) hq
  | panic p=>exact fun e' w' v h1 h2 h3=>⟨.panic p,_,e',hq,⟨v,rfl,h2⟩,h1,h3⟩
  | exit id=>exact hq.elim
  | goto l=>exact hq.elim
 ·exact h.elim
theorem Zly {G : GE} {T : Tab} {tbl : Tbl} (hT : TabOK T G.P) (hmix : G.P.follows .mixedOrders = true) (ht : TblOK G tbl) {it : ZjV} (hit : VO G it) {g : FuncId} {fn : Func} {c : Code} (hf : G.P.funcs[g]? = some fn) (hb : fn.body = some c) (hname : (fn.name == "runtime.NumGoroutine") = false)
  (hok:Zw fn.ntmps c=true) {sp:Zu}
  (h:∀args σ K,sp args σ K→∃loops keep own,σ.bx.length≤keep∧args.length≤fn.ntmps∧WF (ZxB T tbl it loops) fn keep own args σ K):PCalls G g sp where
 enters:=Zj hf hname hb
 calls:=fun args σ K hs n e w vs hS ha=>by
  obtain ⟨loops,keep,own,h1,h2,h3⟩:=h args σ K hs
  exact W1 hmix (C:=ZxB T tbl it loops) ⟨hT,ht.sem,fun _ _ _ _ h=>h.elim,hit,.inl rfl⟩ ⟨fun _ h1 h2=>hT.one h1 h2,ht.mono,fun _ _ _ _ h=>h.elim,rfl⟩ hf hb hok h1 h2 h3 hS ha
theorem Zlz {G : GE} {T : Tab} {tbl : Tbl} (hT : TabOK T G.P) (hmix : G.P.follows .mixedOrders = true) (ht : TblOK G tbl) {it : ZjV} (hit : VO G it) {g : FuncId} {fn : Func} {c : Code} (hf : G.P.funcs[g]? = some fn) (hb : fn.body = some c) (hname : (fn.name == "runtime.NumGoroutine") = false)
  (hok:Zw fn.ntmps c=true) {sp:Zu}
  (h:∀args σ K,sp args σ K→∃loops unr ties keep own,σ.bx.length≤keep∧args.length≤fn.ntmps∧WF (ZjW T tbl it loops unr ties) fn keep own args σ K):PCalls G g sp where
 enters:=Zj hf hname hb
 calls:=fun args σ K hs n e w vs hS ha=>by
  obtain ⟨loops,unr,ties,keep,own,h1,h2,h3⟩:=h args σ K hs
  exact W1 hmix (C:=ZjW T tbl it loops unr ties) ⟨hT,ht.sem,fun _ _ _ _ h=>h.elim,hit,.inl rfl⟩ ⟨fun _ h1 h2=>hT.one h1 h2,ht.mono,fun _ _ _ _ h=>h.elim,rfl⟩ hf hb hok h1 h2 h3 hS ha
theorem ZhI {G : GE} {T : Tab} {tbl : Tbl} (hT : TabOK T G.P) (hmix : G.P.follows .mixedOrders = true) (ht : TblOK G tbl) {g : FuncId} {fn : Func} {c : Code} (hf : G.P.funcs[g]? = some fn) (hb : fn.body = some c) (hname : (fn.name == "runtime.NumGoroutine") = false)
  (hok:Zw fn.ntmps c=true) {sp:Zu}
  (h:∀args σ K,sp args σ K→∃loops unr ties bsl nl keep own,σ.bx.length≤keep∧args.length≤fn.ntmps∧WF (ZxC T tbl X1 loops unr ties bsl nl) fn keep own args σ K):PCalls G g sp where
 enters:=Zj hf hname hb
 calls:=fun args σ K hs n e w vs hS ha=>by
  obtain ⟨loops,unr,ties,bsl,nl,keep,own,h1,h2,h3⟩:=h args σ K hs
  exact W1 hmix (C:=ZxC T tbl X1 loops unr ties bsl nl) ⟨hT,ht.semN,fun _ _ _ _ h=>h.elim,Yt,.inl rfl⟩ ⟨fun _ h1 h2=>hT.one h1 h2,ht.monoN,fun _ _ _ _ h=>h.elim,rfl⟩ hf hb hok h1 h2 h3 hS ha
theorem ZpS {G : GE} {T : Tab} {tbl : Tbl} (hT : TabOK T G.P) (hmix : G.P.follows .mixedOrders = true) (ht : TblOK G tbl) {g : FuncId} {fn : Func} {c : Code} (hf : G.P.funcs[g]? = some fn) (hb : fn.body = some c) (hname : (fn.name == "runtime.NumGoroutine") = false)
  (hok:Zw fn.ntmps c=true) {sp:Zu}
  (h:∀args σ K,sp args σ K→∃loops unr ties bsl nl cut keep own,σ.bx.length≤keep∧args.length≤fn.ntmps∧WF (ZxD T tbl loops unr ties bsl nl cut) fn keep own args σ K):PCalls G g sp where
 enters:=Zj hf hname hb
 calls:=fun args σ K hs n e w vs hS ha=>by
  obtain ⟨loops,unr,ties,bsl,nl,cut,keep,own,h1,h2,h3⟩:=h args σ K hs
  exact W1 hmix (C:=ZxD T tbl loops unr ties bsl nl cut) ⟨hT,ht.semN,fun _ _ _ _ h=>h.elim,Yt,.inl rfl⟩ ⟨fun _ h1 h2=>hT.one h1 h2,ht.monoN,fun _ _ _ _ h=>h.elim,rfl⟩ hf hb hok h1 h2 h3 hS ha
theorem ZhJ {G : GE} {T : Tab} {tbl : Tbl} (hT : TabOK T G.P) (hmix : G.P.follows .mixedOrders = true) (ht : TblOK G tbl) {g : FuncId} {fn : Func} {c : Code} (hf : G.P.funcs[g]? = some fn) (hb : fn.body = some c) (hname : (fn.name == "runtime.NumGoroutine") = false)
  (hok:Zw fn.ntmps c=true) {sp:Zu}
  (h:∀args σ K,sp args σ K→∃loops unr ties keep own,σ.bx.length≤keep∧args.length≤fn.ntmps∧WF (ZjW T tbl X1 loops unr ties) fn keep own args σ K):PCalls G g sp :=
 Zlz hT hmix ht Yt hf hb hname hok h
theorem Zf9 {G : GE} {T : Tab} {tbl : Tbl} (hT : TabOK T G.P) (hmix : G.P.follows .mixedOrders = true) (ht : TblOK G tbl) {g : FuncId} {fn : Func} {c : Code} (hf : G.P.funcs[g]? = some fn) (hb : fn.body = some c) (hname : (fn.name == "runtime.NumGoroutine") = false)
  (hok:Zw fn.ntmps c=true) {sp:Zu}
  (h:∀args σ K,sp args σ K→∃loops keep own,σ.bx.length≤keep∧args.length≤fn.ntmps∧WF (ctx T tbl loops) fn keep own args σ K):PCalls G g sp :=
 Zly hT hmix ht Yt hf hb hname hok h
theorem Zyq {p:Prop} [Decidable p] {X Y:Prop} (h1:p→X) (h2:¬p→Y):CondP (decide p) X Y:=by
 by_cases h:p
 ·simp only [h,decide_true];exact h1 h
 ·simp only [h,decide_false];exact h2 h
theorem Zyv {p:Prop} [Decidable p] {X Y:Prop} (h1:¬p→X) (h2:p→Y):CondP (!decide p) X Y:=by
 by_cases h:p
 ·simp only [h,decide_true];exact h2 h
 ·simp only [h,decide_false];exact h1 h
theorem InR.i64 {n:Int} (h1:-9223372036854775808≤n) (h2:n≤9223372036854775807):InR .i64 n:=by
 unfold InR IntKind.wrap
 exact m129
theorem InR.i32 {n:Int} (h1:-2147483648≤n) (h2:n≤2147483647):InR .i32 n:=by
 unfold InR IntKind.wrap
 simp only [show IntKind.i32.bits=32 from rfl,show IntKind.i32.signed=true from rfl,TJ]
 split <;> simp at * <;> omega
theorem InR.u8 {n:Int} (h1:0≤n) (h2:n≤255):InR .u8 n:=by
 unfold InR IntKind.wrap
 simp only [show IntKind.u8.bits=8 from rfl,show IntKind.u8.signed=false from rfl,TT]
 simp;omega
theorem InR.u32 {n:Int} (h1:0≤n) (h2:n≤4294967295):InR .u32 n:=by
 unfold InR IntKind.wrap
 simp only [show IntKind.u32.bits=32 from rfl,show IntKind.u32.signed=false from rfl,TT]
 simp;omega
theorem InR.u64 {n:Int} (h1:0≤n) (h2:n≤18446744073709551615):InR .u64 n:=by
 unfold InR IntKind.wrap
 simp only [show IntKind.u64.bits=64 from rfl,show IntKind.u64.signed=false from rfl,TT]
 simp;omega
theorem oiO {n:Int} {K X:Prop} (q:K) (h1:-9223372036854775808≤n:=by omega) (h2:n≤9223372036854775807:=by omega):InR .i64 n∧K∨X:=.inl ⟨InR.i64 h1 h2,q⟩
theorem oiD {n:Int} {K X:Prop} (q:K) (h1:-9223372036854775808≤n:=by decide) (h2:n≤9223372036854775807:=by decide):InR .i64 n∧K∨X:=.inl ⟨InR.i64 h1 h2,q⟩
theorem oiB {n:Int} {K X:Prop} (q:K) (h1:0≤n:=by omega) (h2:n≤255:=by omega):InR .u8 n∧K∨X:=.inl ⟨InR.u8 h1 h2,q⟩
theorem oiU {n:Int} {K X:Prop} (q:K) (h1:0≤n:=by omega) (h2:n≤18446744073709551615:=by omega):InR .u64 n∧K∨X:=.inl ⟨InR.u64 h1 h2,q⟩
theorem Znq {K:PEnd→St→Prop} {p p':PEnd} {σ σ':St} (h:K p σ) (h1:p=p') (h2:σ=σ'):K p' σ':=by subst h1;subst h2;exact h
end Go.PM
end

section
namespace Go.PM
structure PDef (G:GE) (g:FuncId) (spR:List PV→St→(St→Prop)→Prop) (spP:PV→List PV→St→(St→Prop)→Prop):Prop where
 enters:WZ G.P g
 ret:∀args σ K,spR args σ K→∀(n:Nat) (e:Env) (w:World) (vs:Array Value),SRel G e σ w→ArgsRel G e σ w args vs →
  CallsDIn (fw none) n G.P g vs .returning w fun en u' w'=>u'=.returning∧(∃r,en=.returned r)∧∃σ' e',K σ'∧SRel G e' σ' w'∧Later e σ w e' σ' w'
 pan:∀pv args σ K,spP pv args σ K→∀(n:Nat) (e:Env) (w:World) (vs:Array Value) (v:Value),SRel G e σ w→ArgsRel G e σ w args vs→VRel G e σ w pv v →
  CallsDIn (fw none) n G.P g vs (.panicking [{ v:=v,recovered:=false }]) w fun en u' w'=>u'=.panicking [{ v:=v,recovered:=true }]∧(∃r,en=.returned r)∧∃σ' e',K σ'∧SRel G e' σ' w'∧Later e σ w e' σ' w'
def Zwp (c:Code):Option (Nat×Nat×Code):=match c with
 | .seq (.region _ ops false) rest=>match ops.toList with
  | [o1,o2]=>match o1.op,o1.dst,o1.guard,o2.op,o2.dst,o2.guard with
   | .call { callee:=.builtin .recover,args,.. },some a,none,.assign (.tmp a'),some b,none=>match args.toList,Nat.beq a a' with
    | [],true=>some (a,b,rest)
    | _,_=>none
   | _,_,_,_,_,_=>none
  | _=>none
 | _=>none
theorem ZlS {c:Code} {a b:Nat} {rest:Code} (h:Zwp c=some (a,b,rest)):∃id ops o1 o2 at',c=.seq (.region id ops false) rest∧ops=#[o1,o2]∧o1.op=.call { callee:=.builtin .recover,args:=#[],argTypes:=at' }∧o1.dst=some a∧o1.guard=none∧o2.op=.assign (.tmp a)∧o2.dst=some b∧o2.guard=none:=by
 unfold Zwp at h
 split at h
 ·rename_i id ops rest'
  split at h
  ·rename_i o1 o2 hops
   split at h
   ·rename_i args at' a1 a2 b1 h1 h2 h3 h4 h5 h6
    split at h
    ·rename_i h7 h8
     cases h
     have:=Tm h8
     subst this
     have ha:args=#[]:=by apply Array.ext';simpa using h7
     subst ha
     exact ⟨id,ops,o1,o2,at',rfl,by apply Array.ext';simpa using hops,h1,h2,h3,h4,h5,h6⟩
    ·cases h
   ·cases h
  ·cases h
 ·cases h
section
variable {G:GE}
def ZtY (T:Tab) (fn:Func) (keep:Nat) (K:St→Prop):PQ:=fun e f σ=>match e with
 | .normal | .ret=>pres T f σ.bx fn.results.toList fun vs=>Jr keep false (Uh vs) σ fun _ σ'=>K σ'
 | _=>False
theorem Zqb {T : Tab} {tbl : Tbl} (hT : TabOK T G.P) (hmix : G.P.follows .mixedOrders = true) (ht : TblOK G tbl) {g : FuncId} {fn : Func} {c : Code} (hf : G.P.funcs[g]? = some fn) (hb : fn.body = some c) (hname : (fn.name == "runtime.NumGoroutine") = false)
  {a b:Nat} {rest:Code} (hrec:Zwp c=some (a,b,rest)) (hok:Zw fn.ntmps c=true) {spR:List PV→St→(St→Prop)→Prop} {spP:PV→List PV→St→(St→Prop)→Prop}
  (hr:∀args σ K,spR args σ K→∃loops keep,σ.bx.length≤keep∧args.length≤fn.ntmps∧W (ctx T tbl loops) rest (ZtY T fn keep K) (U6 (U6 (Zdy 0 args) a (.d .nili)) b (.d .nili)) σ)
  (hp:∀pv args σ K,spP pv args σ K→∃loops keep,σ.bx.length≤keep∧args.length≤fn.ntmps∧W (ctx T tbl loops) rest (ZtY T fn keep K) (U6 (U6 (Zdy 0 args) a pv) b pv) σ):PDef G g spR spP:=by
 obtain ⟨id,ops,o1,o2,at',rfl,rfl,q1,q2,q3,q4,q5,q6⟩:=ZlS hrec
 simp only [Zw,Tj,Zlu,q2,q5] at hok
 have ha:a<fn.ntmps:=by have:=Tb hok.1.1.1;omega
 have hbN:b<fn.ntmps:=by have:=Tb hok.1.1.2.1;omega
 have walk:∀(pv:PV) (v:Value) (u u':FrameMode) (args:List PV) (σ:St) (K:St→Prop) (loops:Nat→LoopAnn) (keep:Nat),σ.bx.length≤keep→args.length≤fn.ntmps→W (ctx T tbl loops) rest (ZtY T fn keep K) (U6 (U6 (Zdy 0 args) a pv) b pv) σ →
   (∀(c₀:Go.Frame) (cs:List Go.Frame),c₀.mode=u→match recoverD (c₀::cs) with | some (x,cs')=>x=v∧cs'={ c₀ with mode:=u' }::cs | none=>v=.nilIface∧u'=u) →
   ∀(n:Nat) (e:Env) (w:World) (vs:Array Value),SRel G e σ w→ArgsRel G e σ w args vs→VRel G e σ w pv v →
   CallsDIn (fw none) n G.P g vs u w fun en u2 w'=>u2=u'∧(∃r,en=.returned r)∧∃σ' e',K σ'∧SRel G e' σ' w'∧Later e σ w e' σ' w':=by
  intro pv v u u' args σ K loops keep hk hlen hW hrc n e w vs hS hargs hv
  refine callsDIn_of_wpSIn hf hb trivial fun c₀ cs hu=>?_
  have hsz:vs.size=args.length:=hargs.1
  have hF:FRel G e σ w (Zdy 0 args) (vs++Array.replicate (fn.ntmps - vs.size) undef):=UW args 0 fun k x hx=>by
   exact m25
  refine wpSIn_seq (wpSIn_region ?_)
  let A0:Act:={ tmps:=vs++Array.replicate (fn.ntmps - vs.size) undef,defers:=[] }
  have hA0:A0.tmps.size=fn.ntmps:=by simp [A0];omega
  have s0:(#[o1,o2]:Array Oper)[0]?=some o1:=rfl
  have s1:(#[o1,o2]:Array Oper)[1]?=some o2:=rfl
  have w1:∀t,Region.wanted o1 (yielded #[o1,o2] t)=true:=fun t=>by simp [Region.wanted,q3]
  have w2:∀t,Region.wanted o2 (yielded #[o1,o2] t)=true:=fun t=>by simp [Region.wanted,q6]
  have x1:∀A:Act,(execOp A.eval o1).run G.P w=.ok .recover w:=fun A=>by
   unfold execOp
   simp only [q1,resolve,Sem.run_bind,Sem.run_pure,Result.andThen,invoke,builtin]
  have x2:∀A:Act,(execOp A.eval o2).run G.P w=.ok (.value (A.eval (.tmp a))) w:=fun A=>by
   unfold execOp
   simp only [q4,Sem.run_pure]
  have y2:(A0.put (some a) v).eval (.tmp a)=v:=by
   simp [Act.put,Act.eval,TX,hA0,ha]
  have tail:rest.wpSIn (fw none) n G.P (bodyPostS G.P fn c₀ cs fun en u2 w'=>u2=u'∧(∃r,en=.returned r)∧∃σ' e',K σ'∧SRel G e' σ' w'∧Later e σ w e' σ' w') ((A0.put (some a) v).put (some b) v) ({ c₀ with mode:=u' }::cs) w:=by
   have hF1:FRel G e σ w (U6 (Zdy 0 args) a pv) (A0.put (some a) v).tmps:=FRel.put (a:=A0) (d:=some a) hF hv (fun i hi=>by cases hi;rw [hA0];exact ha)
   have hF2:FRel G e σ w (U6 (U6 (Zdy 0 args) a pv) b pv) ((A0.put (some a) v).put (some b) v).tmps:=FRel.put (a:=A0.put (some a) v) (d:=some b) hF1 hv (fun i hi=>by cases hi;rw [YB,hA0];exact hbN)
   refine wpSIn_of_wpIn rfl (wpIn_mono (Um (n:=n) (ro:=none) (ds:=(w.heap.size,[],true)) hmix rest (C:=ctx T tbl loops) ⟨hT,ht.sem,fun _ _ _ _ h=>h.elim,Yt,.inl rfl⟩ ⟨fun _ h1 h2=>hT.one h1 h2,ht.mono,fun _ _ _ _ h=>h.elim,rfl⟩ (fun _ _ _ _ _ _ h=>h) hok.2 [] #[] (Z9 _) _
    (a:=(A0.put (some a) v).put (some b) v) hS hF2 (Later.refl e σ w) (by rw [YB,YB,hA0]) (by rw [XK,XK];exact Marks.nil e σ (Tp _)) (fun i hi=>by cases hi) hW) fun x a' w' hp=>?_)
   obtain ⟨pe,f',e',σ',hq,hx,h1,h2,h3,h4,⟨_,rs,h5,h5f,_⟩,h6⟩:=hp
   have hd0:a'.defers=[]:=by rw [h5,h5f rfl];rfl
   have done:(pres T f' σ'.bx fn.results.toList fun vs=>Jr keep false (Uh vs) σ' fun _ σ''=>K σ'')→∃r,(results fn a'.tmps).run G.P w'=.ok r w'∧u'=u'∧(∃r',Ending.returned r=.returned r')∧∃σ' e',K σ'∧SRel G e' σ' w'∧Later e σ w e' σ' w':=fun hl=>by
    obtain ⟨pvs,r,hlv,hr,hvr⟩:=Xv (C:=ctx T tbl loops) hT h1 h2 hl
    exact m128
   cases pe with
   | normal=>obtain rfl:x=.normal:=hx;obtain ⟨r,hr,hR⟩:=done hq;exact ⟨hd0,u',rfl,r,hr,hR⟩
   | ret=>obtain rfl:x=.ret:=hx;obtain ⟨r,hr,hR⟩:=done hq;exact ⟨hd0,u',rfl,r,hr,hR⟩
   | exit id=>exact hq.elim
   | goto l=>exact hq.elim
   | panic p=>exact hq.elim
  show wpOpsSIn (fw none) n G.P #[o1,o2] _ [0,1] A0 (c₀::cs) w
  simp only [wpOpsSIn,s0,s1,w1,w2,if_true,x1,x2,q2,q5]
  refine ⟨fun _ _=>trivial,?_⟩
  have hh:=hrc c₀ cs hu
  cases hrd:recoverD (c₀::cs) with
  | none =>
   rw [hrd] at hh
   obtain ⟨rfl,rfl⟩:=hh
   have hc0:({ c₀ with mode:=u' }:Go.Frame)=c₀:=by subst hu;rfl
   rw [hc0] at tail
   simp only [y2]
   exact ⟨fun _ _=>trivial,tail⟩
  | some p =>
   obtain ⟨x,cs'⟩:=p
   rw [hrd] at hh
   obtain ⟨rfl,rfl⟩:=hh
   simp only [y2]
   exact ⟨fun _ _=>trivial,tail⟩
 refine ⟨Zj hf hname hb,fun args σ K hs n e w vs hS hargs=>?_,fun pv args σ K hs n e w vs v hS hargs hv=>?_⟩
 ·obtain ⟨loops,keep,h1,h2,h3⟩:=hr args σ K hs
  exact walk (.d .nili) .nilIface .returning .returning args σ K loops keep h1 h2 h3 (fun c₀ cs hu=>by simp [recoverD,hu]) n e w vs hS hargs (.d _ _ .nili)
 ·obtain ⟨loops,keep,h1,h2,h3⟩:=hp pv args σ K hs
  exact walk pv v _ _ args σ K loops keep h1 h2 h3 (fun c₀ cs hu=>by simp [recoverD,hu]) n e w vs hS hargs hv
end
def Zak:List Oper→Option (List Oper×Oper)
 | []=>none
 | [o]=>some ([],o)
 | o::p::l=>match Zak (p::l) with | some (a,b)=>some (o::a,b) | none=>none
theorem W9:∀{l:List Oper} {i:List Oper} {o:Oper},Zak l=some (i,o)→l=i++[o]
 | [],i,o,h=>by cases h
 | [x],i,o,h=>by cases h;rfl
 | x::p::l,i,o,h=>by
  simp only [Zak] at h
  split at h
  ·rename_i a b hs
   cases h
   rw [W9 hs];rfl
  ·cases h
def ZcP (o:Oper):Option (Operand×List Operand):=match o.op,o.guard,o.dst with
 | .defer { callee:=.value x,args,.. },none,none=>some (x,args.toList)
 | _,_,_=>none
theorem Ji {o:Oper} {x:Operand} {args:List Operand} (h:ZcP o=some (x,args)):∃as at',o.op=.defer { callee:=.value x,args:=as,argTypes:=at' }∧as.toList=args∧o.guard=none∧o.dst=none:=by
 unfold ZcP at h
 split at h
 ·rename_i x' as at' h1 h2 h3;cases h;exact ⟨as,at',h1,rfl,h2,h3⟩
 ·cases h
def ZcQ (c:Code):Option (List Oper×List Oper×Operand×List Operand):=match c with
 | .region _ ops false=>match Zak ops.toList with
  | some (init,last)=>match ZcP last with
   | some (x,args)=>some (ops.toList,init,x,args)
   | none=>none
  | none=>none
 | _=>none
def WD (C:Cx) (g0:FuncId) (Q0:PQ) (Q1:List PV→PQ):Code→Frame→St→Prop
 | .seq a b,f,σ=>match ZcQ a with
  | some (all,init,x,args)=>Zo6 C all (fun e f σ=>match e with
    | .normal=>(match ev f x with
     | .func g first caps=>(match Nat.beq g g0 with
      | true=>W C b (Q1 (Xm (first++args.map (ev f)++caps))) f σ
      | false=>False)
     | _=>False)
    | e=>Q0 e f σ) init f σ
  | none=>W C a (fun e f σ=>match e with | .normal=>WD C g0 Q0 Q1 b f σ | e=>Q0 e f σ) f σ
 | c,f,σ=>W C c Q0 f σ
section
variable {G:GE} {C:Cx} {e0:Env} {σ0:St} {w0:World} {n N:Nat} {ds:Nat×List Deferred×Bool} {Z:Array Value→Prop} {Q:PQ}
theorem JI (hC:CxOK G C none e0 σ0 w0) {ops:Array Oper} {rest:List Nat} {QQ:Exit→Act→World→Prop} (hd:∀o,o∈ops→∀d,o.dst=some d→d<N∧∀t v,Z t→Z (t.setIfInBounds d v))
  (hQQ:∀x a w,x≠.normal→ZK G e0 σ0 w0 ds N Z Q x a w→QQ x a w) (hend:∀a w,ZK G e0 σ0 w0 ds N Z Q .normal a w→wpOpsIn (fw none) n G.P ops QQ rest a w) :
  ∀(l:List Oper) (k:Nat),(∀j,j<l.length→l[j]?=ops[k+j]?)→∀{e:Env} {σ:St} {w:World} {a:Act} {f:Frame},
  SRel G e σ w→FRel G e σ w f a.tmps→Later e0 σ0 w0 e σ w→a.tmps.size=N→Marks ds e σ w a.defers→Z a.tmps→Zo6 C ops.toList Q l f σ→wpOpsIn (fw none) n G.P ops QQ (List.range' k l.length++rest) a w
 | [],k,_,e,σ,w,a,f,hS,hF,hL,hN,hds,hZ,h=>hend a w ⟨.normal,f,e,σ,h,rfl,hS,hF,hL,hN,hds,hZ⟩
 | o::l,k,hl,e,σ,w,a,f,hS,hF,hL,hN,hds,hZ,h=>by
  have h0:ops[k]?=some o:=by simpa using (hl 0 (by simp)).symm
  have hstep:=Zbq (ro:=none) (n:=n) hC hS hF hL hN hds hZ (ops:=ops) (hd o (T7 h0)) h
  have next:∀a' w',KRel G e0 σ0 w0 ds N Z (Zo6 C ops.toList Q l) a' w'→wpOpsIn (fw none) n G.P ops QQ (List.range' (k+1) l.length++rest) a' w':=fun a' w' ⟨f',e',σ',h1,h2,h3,h4,h5,h6,h7⟩ =>
   JI hC hd hQQ hend l (k+1) (fun j hj=>by have:=hl (j+1) (by simp;omega);simpa [Sg,Nat.add_comm 1 j] using this) h2 h3 h4 h5 h6 h7 h1
  rw [Tc,List.range'_succ,Sr]
  simp only [wpOpsIn,h0]
  split at hstep
  ·rename_i hw
   rw [Ti hw]
   exact ZyD hQQ (Oper.wpIn_mono next hstep)
  ·rename_i hw
   rw [Te hw]
   exact ⟨fun _ _=>trivial,next _ _ hstep⟩
def Zy (g0:FuncId) (va vc:Array Value):Deferred:={ target:=.fn (.func g0) vc,args:=va }
def Zj9 (G:GE) (g0:FuncId) (e0:Env) (σ0:St) (w0:World) (N:Nat) (Q0:PQ) (Q1:List PV→PQ):Exit→Act→World→Prop:=fun x a w =>
 ZK G e0 σ0 w0 (0,[],true) N (Kept [] #[]) Q0 x a w ∨
 ∃fa va vc e1 σ1 w1,Later e0 σ0 w0 e1 σ1 w1∧ArgsRel G e1 σ1 w1 fa (va++vc)∧ZK G e1 σ1 w1 (0,[Zy g0 va vc],true) N (Kept [] #[]) (Q1 (Xm fa)) x a w
theorem ZnR {g0:FuncId} {Q0:PQ} {Q1:List PV→PQ} (hmix:G.P.follows .mixedOrders=true) (hC:∀e σ w,CxOK G C none e σ w) (hM:CxMono C.calm) (hI:∀g args raw σ K,¬C.iter g args raw σ K) :
  ∀(c:Code),Zw N c=true→∀{e:Env} {σ:St} {w:World} {a:Act} {f:Frame},SRel G e σ w→FRel G e σ w f a.tmps→Later e0 σ0 w0 e σ w→a.tmps.size=N→a.defers=[]→WD C g0 Q0 Q1 c f σ →
   c.wpIn (fw none) n G.P (Zj9 G g0 e0 σ0 w0 N Q0 Q1) a w:=by
 have plain:∀(c:Code),Zw N c=true→∀{e:Env} {σ:St} {w:World} {a:Act} {f:Frame},SRel G e σ w→FRel G e σ w f a.tmps→Later e0 σ0 w0 e σ w→a.tmps.size=N→a.defers=[]→W C c Q0 f σ→c.wpIn (fw none) n G.P (Zj9 G g0 e0 σ0 w0 N Q0 Q1) a w :=
  fun c hok {e σ w a f} hS hF hL hN hd h=>wpIn_mono (Um (n:=n) (ro:=none) (ds:=(0,[],true)) hmix c (hC _ _ _) hM (fun _=>hI) hok [] #[] (Z9 _) _ hS hF hL hN (by rw [hd];exact Marks.nil e σ (T4 _)) (fun i hi=>by cases hi) h) fun x a w hp=>.inl hp
 intro c
 induction c with
 | seq c1 c2 ih1 ih2 =>
  intro hok e σ w a f hS hF hL hN hd h
  have hok':=hok
  simp only [Zw,Tj] at hok'
  have hM0:Marks (0,[],true) e σ w a.defers:=by rw [hd];exact Marks.nil e σ (T4 _)
  simp only [WD] at h
  split at h
  ·rename_i all init x args hdi
   unfold ZcQ at hdi
   split at hdi
   ·rename_i id ops
    split at hdi
    ·rename_i init' last hsl
     split at hdi
     ·rename_i x' args' hdc
      cases hdi
      have hops:=W9 hsl
      obtain ⟨as,at',hop,has,hg,hdst⟩:=Ji hdc
      have hsize:ops.size=init.length+1:=by rw [← Sk,hops];simp
      have hlast:ops[init.length]?=some last:=by rw [← Tu,hops];simp
      have hopsOK:=hok'.1
      simp only [Zw,Tj] at hopsOK
      have hd2:∀o,o∈ops→∀d,o.dst=some d→d<N∧∀t v,Kept [] #[] t→Kept [] #[] (t.setIfInBounds d v):=fun o ho d hdd=>⟨UV hopsOK.1 o (TC.1 ho) d hdd,fun t v _ i hi=>by cases hi⟩
      refine wpIn_seq (wpIn_region ?_)
      rw [show List.range ops.size=List.range' 0 init.length++[init.length] from by rw [hsize,List.range_succ,List.range_eq_range']]
      refine JI (N:=N) (Z:=Kept [] #[]) (ds:=(0,[],true)) (hC e0 σ0 w0) hd2 (fun x a w hx hp=>?_) (fun a1 w1 hp=>?_) init 0 (fun j hj=>?_) hS hF hL hN hM0 (fun i hi=>by cases hi) h
      ·exact m76
      ·obtain ⟨pe,f',e',σ',hq,hxr,h1,h2,h3,h4,⟨_,rs,h5,h5f,_⟩,h6⟩:=hp
       cases pe with
       | normal =>
        simp only at hq
        have hv:=U9 h2 x
        split at hq
        ·rename_i g first caps heq
         split at hq
         ·rename_i hgb
          cases Tm hgb
          rw [heq] at hv
          generalize hgv:a1.eval x=v at hv
          cases hv with
          | func _ _ _ va vc ha hc k1 k2 =>
           have hd0:a1.defers=[]:=by rw [h5,h5f rfl];rfl
           have hargs:ArgsRel G e' σ' w1 (first++args.map (ev f')++caps) (va++as.map a1.eval++vc):=by
            exact m98
           have hw:Region.wanted last (yielded ops a1.tmps)=true:=by simp [Region.wanted,hg]
           simp only [wpOpsIn,hlast,hw,if_true]
           have hrun:(execOp a1.eval last).run G.P w1=.ok (.defer (Zy g0 (va++as.map a1.eval) vc)) w1:=by
            exact m135
           refine ⟨fun _ _=>trivial,?_⟩
           rw [show (fw none).round=none from rfl,Oper.semAt_none,hrun,Oper.uponIn_defer]
           rw [hdst]
           show c2.wpIn (fw none) n G.P (Zj9 G g0 e0 σ0 w0 N Q0 Q1) { a1 with defers:=Zy g0 (va++as.map a1.eval) vc::a1.defers } w1
           rw [hd0]
           refine wpIn_mono (Um (n:=n) (ro:=none) (ds:=(0,[Zy g0 (va++as.map a1.eval) vc],true)) hmix c2 (hC e' σ' w1) hM (fun _=>hI) hok'.2 [] #[] (Z9 _) _ (a:={ a1 with defers:=[Zy g0 (va++as.map a1.eval) vc] }) h1 h2 (Later.refl _ _ _) h4
            ⟨T4 _,[],rfl,fun _=>rfl,List.nodup_nil,fun r h=>by cases h⟩ (fun i hi=>by cases hi) hq) fun x a w hp=>.inr ⟨_,_,_,e',σ',w1,h3,hargs,hp⟩
         ·exact hq.elim
        ·exact hq.elim
       | exit id=>cases hxr
       | goto l=>cases hxr
       | ret=>cases hxr
       | panic p=>obtain ⟨_,hxr,_⟩:=hxr;cases hxr
      ·rw [← Tu,hops,Sf,TG hj]
     ·cases hdi
    ·cases hdi
   ·cases hdi
  ·refine wpIn_seq (wpIn_mono (Um (n:=n) (ro:=none) (ds:=(0,[],true)) hmix c1 (hC _ _ _) hM (fun _=>hI) hok'.1 [] #[] (Z9 _) _ hS hF hL hN hM0 (fun i hi=>by cases hi) h) fun x a1 w1 hp=>?_)
   obtain ⟨pe,f',e',σ',hq,hxr,h1,h2,h3,h4,h5,h6⟩:=hp
   cases pe with
   | normal =>
    obtain rfl:x=.normal:=hxr
    obtain ⟨_,rs,h5,h5f,_⟩:=h5
    exact ih2 hok'.2 h1 h2 h3 h4 (by rw [h5,h5f rfl];rfl) hq
   | exit id=>obtain rfl:x=.exit id:=hxr;exact .inl ⟨.exit id,f',e',σ',hq,rfl,h1,h2,h3,h4,h5,h6⟩
   | goto l=>obtain rfl:x=.goto l:=hxr;exact .inl ⟨.goto l,f',e',σ',hq,rfl,h1,h2,h3,h4,h5,h6⟩
   | ret=>obtain rfl:x=.ret:=hxr;exact .inl ⟨.ret,f',e',σ',hq,rfl,h1,h2,h3,h4,h5,h6⟩
   | panic p=>obtain ⟨v,rfl,hv⟩:=hxr;exact .inl ⟨.panic p,f',e',σ',hq,⟨v,rfl,hv⟩,h1,h2,h3,h4,h5,h6⟩
 | _=>intro hok e σ w a f hS hF hL hN hd h;exact plain _ hok hS hF hL hN hd h
end
def Zqc (T:Tab) (fn:Func) (keep:Nat) (own:Bool) (spR:List PV→St→(St→Prop)→Prop) (spP:PV→List PV→St→(St→Prop)→Prop) (R:PEnd→St→Prop) (fa:List PV):PQ:=fun e f σ=>match e with
 | .normal | .ret=>spR fa σ fun σ2=>pres T (V5 f) σ2.bx fn.results.toList fun vs=>Jr keep own (Uh vs) σ2 fun v σ'=>R (.ret v) σ'
 | .panic pv=>spP pv fa σ fun σ2=>pres T (V5 f) σ2.bx fn.results.toList fun vs=>Jr keep own (Uh vs) σ2 fun v σ'=>R (.ret v) σ'
 | _=>False
theorem ArgsRel.clean {G:GE} {e e':Env} {σ σ':St} {w w':World} {fa:List PV} {vs:Array Value} (h:ArgsRel G e σ w fa vs) (hL:Later e σ w e' σ' w'):ArgsRel G e' σ' w' (Xm fa) vs:=by
 refine ⟨by rw [YX];exact h.1,fun i y u hy hu=>?_⟩
 obtain ⟨x,hx,rfl⟩:=Wr i y hy
 have hv:=h.2 i x u hx hu
 exact VRel.clean hL.len hL.beta hL.pres hv hv.bnd
theorem CallsDIn.mono {F:Fence} {n:Nat} {P:Program} {f:FuncId} {args:Array Value} {u:FrameMode} {w:World} {R R':Ending→FrameMode→World→Prop} (h:CallsDIn F n P f args u w R) (hR:∀e u w,R e u w→R' e u w):CallsDIn F n P f args u w R' :=
 ⟨h.1,fun c cs hu hr=>let ⟨e,u',w',fr,h1,h2⟩:=h.2 c cs hu hr;⟨e,u',w',fr,hR _ _ _ h1,h2⟩⟩
theorem ZlT {G : GE} {T : Tab} {tbl : Tbl} (hT : TabOK T G.P) (hmix : G.P.follows .mixedOrders = true) (ht : TblOK G tbl) {g : FuncId} {fn : Func} {c : Code} (hf : G.P.funcs[g]? = some fn) (hb : fn.body = some c) (hname : (fn.name == "runtime.NumGoroutine") = false)
  (hok:Zw fn.ntmps c=true) {g0:FuncId} {spR:List PV→St→(St→Prop)→Prop} {spP:PV→List PV→St→(St→Prop)→Prop} (hd:PDef G g0 spR spP) {sp:Zu}
  (h:∀args σ K,sp args σ K→∃loops unr ties keep own,σ.bx.length≤keep∧args.length≤fn.ntmps∧WD (ZjW T tbl X1 loops unr ties) g0 (Znv T fn keep own K) (Zqc T fn keep own spR spP K) (WU fn) (Zdy 0 args) σ):PCalls G g sp where
 enters:=Zj hf hname hb
 calls:=fun args σ K hs n e w vs hS hargs=>by
  obtain ⟨loops,unr,ties,keep,own,hk,hlen,hW⟩:=h args σ K hs
  have hbo:WU fn=c:=by simp [WU,hb]
  rw [hbo] at hW
  have hsz:vs.size=args.length:=hargs.1
  have hF:FRel G e σ w (Zdy 0 args) (vs++Array.replicate (fn.ntmps - vs.size) undef):=UW args 0 fun k x hx=>by
   exact m25
  refine callsIn_of_wp_defers hf hb trivial (wpIn_mono (ZnR (n:=n) (e0:=e) (σ0:=σ) (w0:=w) hmix (C:=ZjW T tbl X1 loops unr ties) (fun _ _ _=>⟨hT,ht.sem,fun _ _ _ _ h=>h.elim,Yt,.inl rfl⟩) ⟨fun _ h1 h2=>hT.one h1 h2,ht.mono,fun _ _ _ _ h=>h.elim,rfl⟩ (fun _ _ _ _ _ h=>h) c hok
   (a:={ tmps:=vs++Array.replicate (fn.ntmps - vs.size) undef,defers:=[] }) hS hF (Later.refl e σ w) (by simp;omega) rfl hW) fun x a' w' hp=>?_)
  exact m5
end Go.PM
end

section
namespace Go.PM
def Zu3 (T:Tab) (fn:Func) (keep:Nat) (K:St→Prop):PQ:=fun e f σ=>match e with
 | .normal | .ret=>pres T f σ.bx fn.results.toList fun vs=>Jr keep true (Uh vs) σ fun _ σ'=>K σ'
 | _=>False
section
variable {G:GE}
theorem Zkz {T : Tab} {tbl : Tbl} (hT : TabOK T G.P) (hmix : G.P.follows .mixedOrders = true) (ht : TblOK G tbl) {g : FuncId} {fn : Func} {c : Code} (hf : G.P.funcs[g]? = some fn) (hb : fn.body = some c) (hname : (fn.name == "runtime.NumGoroutine") = false)
  (hok:Zw fn.ntmps c=true) {spR:List PV→St→(St→Prop)→Prop}
  (hr:∀args σ K,spR args σ K→∃loops unr keep,σ.bx.length≤keep∧args.length≤fn.ntmps∧W (ZjW T tbl X1 loops unr (fun _=>false)) c (Zu3 T fn keep K) (Zdy 0 args) σ):PDef G g spR (fun _ _ _ _=>False):=by
 refine ⟨Zj hf hname hb,fun args σ K hs n e w vs hS hargs=>?_,fun pv args σ K hs=>hs.elim⟩
 obtain ⟨loops,unr,keep,hk,hlen,hW⟩:=hr args σ K hs
 refine callsDIn_of_wpSIn hf hb trivial fun c₀ cs hu=>?_
 have hsz:vs.size=args.length:=hargs.1
 have hF:FRel G e σ w (Zdy 0 args) (vs++Array.replicate (fn.ntmps - vs.size) undef):=UW args 0 fun k x hx=>by
  exact m25
 refine wpSIn_of_wpIn rfl (wpIn_mono (Um (n:=n) (ro:=none) (ds:=(0,[],true)) hmix c (C:=ZjW T tbl X1 loops unr (fun _=>false)) ⟨hT,ht.sem,fun _ _ _ _ h=>h.elim,Yt,.inl rfl⟩ ⟨fun _ h1 h2=>hT.one h1 h2,ht.mono,fun _ _ _ _ h=>h.elim,rfl⟩ (fun _ _ _ _ _ _ h=>h) hok [] #[] (Z9 _) _
  (a:={ tmps:=vs++Array.replicate (fn.ntmps - vs.size) undef,defers:=[] }) hS hF (Later.refl e σ w) (by simp;omega) (Marks.nil e σ (T4 _)) (fun i hi=>by cases hi) hW) fun x a' w' hp=>?_)
 obtain ⟨pe,f',e',σ',hq,hx,h1,h2,h3,h4,⟨_,rs,h5,h5f,_⟩,h6⟩:=hp
 have hd0:a'.defers=[]:=by rw [h5,h5f rfl];rfl
 have done:(pres T f' σ'.bx fn.results.toList fun vs=>Jr keep true (Uh vs) σ' fun _ σ''=>K σ'')→∃r,(results fn a'.tmps).run G.P w'=.ok r w'∧FrameMode.returning=.returning∧(∃r',Ending.returned r=.returned r')∧∃σ' e',K σ'∧SRel G e' σ' w'∧Later e σ w e' σ' w':=fun hl=>by
  obtain ⟨pvs,r,hlv,hr,hvr⟩:=Xv (C:=ZjW T tbl X1 loops unr (fun _=>false)) hT h1 h2 hl
  exact m128
 cases pe with
 | normal=>obtain rfl:x=.normal:=hx;obtain ⟨r,hr,hR⟩:=done hq;exact ⟨hd0,.returning,by rw [← hu],r,hr,hR⟩
 | ret=>obtain rfl:x=.ret:=hx;obtain ⟨r,hr,hR⟩:=done hq;exact ⟨hd0,.returning,by rw [← hu],r,hr,hR⟩
 | exit id=>exact hq.elim
 | goto l=>exact hq.elim
 | panic p=>exact hq.elim
end
def Zu4:Code→Bool
 | .seq a b=>Zu4 a || Zu4 b
 | .cond _ a b=>Zu4 a || Zu4 b
 | .region id ops d=>(ZcQ (.region id ops d)).isSome
 | _=>false
def WL (C:Cx) (Q:PQ):List Code→Frame→St→Prop
 | [],f,σ=>Q .normal f σ
 | c::l,f,σ=>W C c (fun e f σ=>match e with | .normal=>WL C Q l f σ | e=>Q e f σ) f σ
def WDl (C:Cx) (g0:FuncId) (Q0:PQ) (Q1:List PV→PQ):Nat→List Code→Frame→St→Prop
 | 0,_,_,_=>False
 | _+1,[],f,σ=>Q0 .normal f σ
 | n+1,c::l,f,σ=>match Zu4 c with
  | false=>W C c (fun e f σ=>match e with | .normal=>WDl C g0 Q0 Q1 n l f σ | e=>Q0 e f σ) f σ
  | true=>match c with
   | .seq a b=>WDl C g0 Q0 Q1 n (a::b::l) f σ
   | .cond x a b=>match ev f x with | .d (.bool t)=>CondP t (WDl C g0 Q0 Q1 n (a::l) f σ) (WDl C g0 Q0 Q1 n (b::l) f σ) | _=>False
   | c=>match ZcQ c with
    | some (all,init,x,args)=>Zo6 C all (fun e f σ=>match e with
      | .normal=>(match ev f x with
       | .func g first caps=>(match Nat.beq g g0 with
        | true=>WL C (Q1 (Xm (first++args.map (ev f)++caps))) l f σ
        | false=>False)
       | _=>False)
      | e=>Q0 e f σ) init f σ
    | none=>False
section
variable {G:GE} {C:Cx} {e0:Env} {σ0:St} {w0:World} {n N:Nat}
def wpl (n:Nat) (P:Program) (Q:Exit→Act→World→Prop):List Code→Act→World→Prop
 | [],a,w=>Q .normal a w
 | c::l,a,w=>c.wpIn (fw none) n P (Exit.then (wpl n P Q l) Q) a w
theorem Zjh (hmix:G.P.follows .mixedOrders=true) (hC:∀e σ w,CxOK G C none e σ w) (hM:CxMono C.calm) (hI:∀g args raw σ K,¬C.iter g args raw σ K) {ds:Nat×List Deferred×Bool} {Q:PQ} :
  ∀(l:List Code),(∀c∈l,Zw N c=true)→∀{e:Env} {σ:St} {w:World} {a:Act} {f:Frame},SRel G e σ w→FRel G e σ w f a.tmps→Later e0 σ0 w0 e σ w→a.tmps.size=N→Marks ds e σ w a.defers→WL C Q l f σ →
   wpl n G.P (ZK G e0 σ0 w0 ds N (Kept [] #[]) Q) l a w
 | [],_,e,σ,w,a,f,hS,hF,hL,hN,hds,h=>⟨.normal,f,e,σ,h,rfl,hS,hF,hL,hN,hds,fun i hi=>by cases hi⟩
 | c::l,hok,e,σ,w,a,f,hS,hF,hL,hN,hds,h=>by
  refine wpIn_mono (Um (n:=n) (ro:=none) hmix c (hC _ _ _) hM (fun _=>hI) (hok c (by simp)) [] #[] (Z9 _) _ hS hF hL hN hds (fun i hi=>by cases hi) h) fun x a' w' hp=>?_
  obtain ⟨pe,f',e',σ',hq,hx,h1,h2,h3,h4,h5,h6⟩:=hp
  cases pe with
  | normal=>obtain rfl:x=.normal:=hx;exact Zjh hmix hC hM hI l (fun c hc=>hok c (Tr _ hc)) h1 h2 h3 h4 h5 hq
  | exit id=>obtain rfl:x=.exit id:=hx;exact ⟨.exit id,f',e',σ',hq,rfl,h1,h2,h3,h4,h5,h6⟩
  | goto l=>obtain rfl:x=.goto l:=hx;exact ⟨.goto l,f',e',σ',hq,rfl,h1,h2,h3,h4,h5,h6⟩
  | ret=>obtain rfl:x=.ret:=hx;exact ⟨.ret,f',e',σ',hq,rfl,h1,h2,h3,h4,h5,h6⟩
  | panic p=>obtain ⟨v,rfl,hv⟩:=hx;exact ⟨.panic p,f',e',σ',hq,⟨v,rfl,hv⟩,h1,h2,h3,h4,h5,h6⟩
theorem Zji {P:Program} {Q Q':Exit→Act→World→Prop} (hQ:∀x a w,Q x a w→Q' x a w):∀{l:List Code} {a:Act} {w:World},wpl n P Q l a w→wpl n P Q' l a w
 | [],a,w,h=>hQ _ _ _ h
 | c::l,a,w,h=>wpIn_mono h fun x a' w' hp=>by
  cases x with
  | normal=>exact Zji hQ hp
  | _=>exact hQ _ _ _ hp
theorem ZmB {g0:FuncId} {Q0:PQ} {Q1:List PV→PQ} (hmix:G.P.follows .mixedOrders=true) (hC:∀e σ w,CxOK G C none e σ w) (hM:CxMono C.calm) (hI:∀g args raw σ K,¬C.iter g args raw σ K) :
  ∀(k:Nat) (l:List Code),(∀c∈l,Zw N c=true)→∀{e:Env} {σ:St} {w:World} {a:Act} {f:Frame},SRel G e σ w→FRel G e σ w f a.tmps→Later e0 σ0 w0 e σ w→a.tmps.size=N→a.defers=[]→WDl C g0 Q0 Q1 k l f σ →
   wpl n G.P (Zj9 G g0 e0 σ0 w0 N Q0 Q1) l a w:=by
 intro k
 induction k with
 | zero=>intro l hok e σ w a f hS hF hL hN hd h;exact h.elim
 | succ k ih =>
  intro l hok e σ w a f hS hF hL hN hd h
  have hM0:Marks (0,[],true) e σ w a.defers:=by rw [hd];exact Marks.nil e σ (T4 _)
  cases l with
  | nil=>exact .inl ⟨.normal,f,e,σ,h,rfl,hS,hF,hL,hN,hM0,fun i hi=>by cases hi⟩
  | cons c l =>
   have hokc:=hok c (by simp)
   have hokl:∀c∈l,Zw N c=true:=fun c hc=>hok c (Tr _ hc)
   simp only [WDl] at h
   split at h
   ·show c.wpIn (fw none) n G.P _ a w
    refine wpIn_mono (Um (n:=n) (ro:=none) (ds:=(0,[],true)) hmix c (hC _ _ _) hM (fun _=>hI) hokc [] #[] (Z9 _) _ hS hF hL hN hM0 (fun i hi=>by cases hi) h) fun x a1 w1 hp=>?_
    obtain ⟨pe,f',e',σ',hq,hxr,h1,h2,h3,h4,h5,h6⟩:=hp
    cases pe with
    | normal =>
     obtain rfl:x=.normal:=hxr
     obtain ⟨_,rs,h5,h5f,_⟩:=h5
     exact ih l hokl h1 h2 h3 h4 (by rw [h5,h5f rfl];rfl) hq
    | exit id=>obtain rfl:x=.exit id:=hxr;exact .inl ⟨.exit id,f',e',σ',hq,rfl,h1,h2,h3,h4,h5,h6⟩
    | goto l=>obtain rfl:x=.goto l:=hxr;exact .inl ⟨.goto l,f',e',σ',hq,rfl,h1,h2,h3,h4,h5,h6⟩
    | ret=>obtain rfl:x=.ret:=hxr;exact .inl ⟨.ret,f',e',σ',hq,rfl,h1,h2,h3,h4,h5,h6⟩
    | panic p=>obtain ⟨v,rfl,hv⟩:=hxr;exact .inl ⟨.panic p,f',e',σ',hq,⟨v,rfl,hv⟩,h1,h2,h3,h4,h5,h6⟩
   ·split at h
    ·rename_i x y hD
     simp only [Zw,Tj] at hokc
     have:=ih (x::y::l) (fun c hc=>by
      rcases Tq.1 hc with rfl | hc
      ·exact hokc.1
      ·rcases Tq.1 hc with rfl | hc
       ·exact hokc.2
       ·exact hokl c hc) hS hF hL hN hd h
     refine wpIn_seq (wpIn_mono (show x.wpIn (fw none) n G.P _ a w from this) fun z a' w' hp=>?_)
     cases z with
     | normal=>exact hp
     | _=>exact hp
    ·rename_i x y z hD
     simp only [Zw,Tj] at hokc
     have hv:=U9 hF x
     split at h
     ·rename_i t hc
      rw [hc] at hv
      cases t with
      | true=>exact wpIn_cond_true hv.dbool (ih (y::l) (fun c hc=>by
        rcases Tq.1 hc with rfl | hc
        ·exact hokc.1
        ·exact hokl c hc) hS hF hL hN hd h)
      | false=>exact wpIn_cond_false hv.dbool (ih (z::l) (fun c hc=>by
        rcases Tq.1 hc with rfl | hc
        ·exact hokc.2
        ·exact hokl c hc) hS hF hL hN hd h)
     ·exact h.elim
    ·split at h
     ·rename_i all init x args hdi
      unfold ZcQ at hdi
      split at hdi
      ·rename_i id ops hD hD1 hD2
       split at hdi
       ·rename_i init' last hsl
        split at hdi
        ·rename_i x' args' hdc
         cases hdi
         have hops:=W9 hsl
         obtain ⟨as,at',hop,has,hg,hdst⟩:=Ji hdc
         have hsize:ops.size=init.length+1:=by rw [← Sk,hops];simp
         have hlast:ops[init.length]?=some last:=by rw [← Tu,hops];simp
         simp only [Zw,Tj] at hokc
         have hd2:∀o,o∈ops→∀d,o.dst=some d→d<N∧∀t v,Kept [] #[] t→Kept [] #[] (t.setIfInBounds d v):=fun o ho d hdd=>⟨UV hokc.1 o (TC.1 ho) d hdd,fun t v _ i hi=>by cases hi⟩
         refine wpIn_region ?_
         rw [show List.range ops.size=List.range' 0 init.length++[init.length] from by rw [hsize,List.range_succ,List.range_eq_range']]
         refine JI (N:=N) (Z:=Kept [] #[]) (ds:=(0,[],true)) (hC e0 σ0 w0) hd2 (fun x a w hx hp=>?_) (fun a1 w1 hp=>?_) init 0 (fun j hj=>?_) hS hF hL hN hM0 (fun i hi=>by cases hi) h
         ·exact m76
         ·obtain ⟨pe,f',e',σ',hq,hxr,h1,h2,h3,h4,⟨_,rs,h5,h5f,_⟩,h6⟩:=hp
          cases pe with
          | normal =>
           simp only at hq
           have hv:=U9 h2 x
           split at hq
           ·rename_i g first caps heq
            split at hq
            ·rename_i hgb
             cases Tm hgb
             rw [heq] at hv
             generalize hgv:a1.eval x=v at hv
             cases hv with
             | func _ _ _ va vc ha hc k1 k2 =>
              have hd0:a1.defers=[]:=by rw [h5,h5f rfl];rfl
              have hargs:ArgsRel G e' σ' w1 (first++args.map (ev f')++caps) (va++as.map a1.eval++vc):=by
               exact m98
              have hw:Region.wanted last (yielded ops a1.tmps)=true:=by simp [Region.wanted,hg]
              simp only [wpOpsIn,hlast,hw,if_true]
              have hrun:(execOp a1.eval last).run G.P w1=.ok (.defer (Zy g0 (va++as.map a1.eval) vc)) w1:=by
               exact m135
              refine ⟨fun _ _=>trivial,?_⟩
              rw [show (fw none).round=none from rfl,Oper.semAt_none,hrun,Oper.uponIn_defer]
              rw [hdst]
              show wpl n G.P (Zj9 G g0 e0 σ0 w0 N Q0 Q1) l { a1 with defers:=Zy g0 (va++as.map a1.eval) vc::a1.defers } w1
              rw [hd0]
              exact Zji (fun x a w hp=>.inr ⟨_,_,_,e',σ',w1,h3,hargs,hp⟩) (Zjh (n:=n) (e0:=e') (σ0:=σ') (w0:=w1) hmix hC hM hI (ds:=(0,[Zy g0 (va++as.map a1.eval) vc],true)) l hokl
               (a:={ a1 with defers:=[Zy g0 (va++as.map a1.eval) vc] }) h1 h2 (Later.refl _ _ _) h4 ⟨T4 _,[],rfl,fun _=>rfl,List.nodup_nil,fun r h=>by cases h⟩ hq)
            ·exact hq.elim
           ·exact hq.elim
          | exit id=>cases hxr
          | goto l=>cases hxr
          | ret=>cases hxr
          | panic p=>obtain ⟨_,hxr,_⟩:=hxr;cases hxr
         ·rw [← Tu,hops,Sf,TG hj]
        ·cases hdi
       ·cases hdi
      ·cases hdi
     ·exact h.elim
end
theorem Zom {G : GE} {T : Tab} {tbl : Tbl} (hT : TabOK T G.P) (hmix : G.P.follows .mixedOrders = true) (ht : TblOK G tbl) {g : FuncId} {fn : Func} {c : Code} (hf : G.P.funcs[g]? = some fn) (hb : fn.body = some c) (hname : (fn.name == "runtime.NumGoroutine") = false)
  (hok:Zw fn.ntmps c=true) {g0:FuncId} {spR:List PV→St→(St→Prop)→Prop} {spP:PV→List PV→St→(St→Prop)→Prop} (hd:PDef G g0 spR spP) {sp:Zu}
  (h:∀args σ K,sp args σ K→∃loops unr ties keep own,σ.bx.length≤keep∧args.length≤fn.ntmps∧WDl (ZjW T tbl X1 loops unr ties) g0 (Znv T fn keep own K) (Zqc T fn keep own spR spP K) 99 [WU fn] (Zdy 0 args) σ):PCalls G g sp where
 enters:=Zj hf hname hb
 calls:=fun args σ K hs n e w vs hS hargs=>by
  obtain ⟨loops,unr,ties,keep,own,hk,hlen,hW⟩:=h args σ K hs
  have hbo:WU fn=c:=by simp [WU,hb]
  rw [hbo] at hW
  have hsz:vs.size=args.length:=hargs.1
  have hF:FRel G e σ w (Zdy 0 args) (vs++Array.replicate (fn.ntmps - vs.size) undef):=UW args 0 fun k x hx=>by
   exact m25
  have hwp:=ZmB (n:=n) (N:=fn.ntmps) (e0:=e) (σ0:=σ) (w0:=w) hmix (C:=ZjW T tbl X1 loops unr ties) (fun _ _ _=>⟨hT,ht.sem,fun _ _ _ _ h=>h.elim,Yt,.inl rfl⟩) ⟨fun _ h1 h2=>hT.one h1 h2,ht.mono,fun _ _ _ _ h=>h.elim,rfl⟩ (fun _ _ _ _ _ h=>h) 99 [c] (fun c' hc'=>by cases Sm.1 hc';exact hok)
   (a:={ tmps:=vs++Array.replicate (fn.ntmps - vs.size) undef,defers:=[] }) hS hF (Later.refl e σ w) (by simp;omega) rfl hW
  have hwp:c.wpIn (fw none) n G.P (Zj9 G g0 e σ w fn.ntmps (Znv T fn keep own K) (Zqc T fn keep own spR spP K)) { tmps:=vs++Array.replicate (fn.ntmps - vs.size) undef,defers:=[] } w:=wpIn_mono hwp fun x a' w' hp=>by
   cases x with
   | normal=>exact hp
   | _=>exact hp
  refine callsIn_of_wp_defers hf hb trivial (wpIn_mono hwp fun x a' w' hp=>?_)
  exact m5
end Go.PM
end
