/- A part of the proof: plain logic, contracts and laws over the given program. -/
import Derived.RangeFuncCalls
import Derived.RangeFuncLeaves
import Derived.Laws.Sem
import Derived.RecoverIn
import Derived.Test.YtflgockgjnddnaaGreatDoorB03
set_option linter.unusedVariables false
set_option linter.unusedSimpArgs false
set_option linter.all false
set_option maxRecDepth 100000
set_option maxHeartbeats 16000000
section
namespace Go.PM
abbrev ZA:=List PV→St→(PEnd→St→Prop)→Prop
structure PCalls (G:GE) (g:FuncId) (sp:ZA):Prop where
 enters:Ve G.P g
 calls:∀args σ K,sp args σ K→∀(n:Nat) (e:Env) (w:World) (vs:Array Value),SRel G e σ w→ArgsRel G e σ w args vs→CallsIn (fw none) n G.P g vs w (Xf G e σ w K)
theorem Zh {P : Program} {f : FuncId} {fn : Func} {c : Code} (hf : P.funcs[f]? = some fn) (hname : (fn.name == "runtime.NumGoroutine") = false) (hb : fn.body = some c) : Ve P f := fun args w => by
 have h1 : fn.name ≠ "runtime.NumGoroutine" := by simpa using hname
 simp [callFunc,hf,h1,hb]
section
variable {G:GE} {C:Cx} {e:Env} {σ:St} {w:World} {f:Frame} {n:Nat} {tm:Array Value}
def Zxj (tm:Array Value):ResultVar→Sem Value
 | .tmp t=>pure (tm.getD t Go.undef)
 | .cell a t=>do loadVar t (← asAddr (tm.getD a Go.undef))
theorem Zgf {P:Program} {t:TypeId} {v u:Value} (hv:∃a,v=.pointer (some a)) (h:(Instr.loadAt t v).run P w=.ok u w):(do loadVar t (← asAddr v):Sem Value).run P w=.ok u w:=by
 obtain ⟨a,rfl⟩:=hv
 simpa [Instr.loadAt,Instr.sureAddr,asAddr] using h
theorem Zce (hT:TabOK C.T G.P) (hS:SRel G e σ w) (hF:FRel G e σ w f tm):∀{l:List ResultVar} {K:List PV→Prop},pres C.T f σ.bx l K →
  ∃pvs vs,K pvs∧(l.mapM (Zxj tm)).run G.P w=.ok vs w∧vs.length=pvs.length∧∀(i:Nat) (x:PV) (u:Value),pvs[i]?=some x→vs[i]?=some u→VRel G e σ w x u
 | [],K,h=>⟨[],[],h,rfl,rfl,fun i x u hx=>by simp at hx⟩
 | .tmp t::l,K,h=>by
  simp only [pres,YP] at h
  obtain ⟨pvs,vs,hK,hr,hl,hv⟩:=Zce hT hS hF h
  refine ⟨f t::pvs,tm.getD t Go.undef::vs,hK,?_,by simp [hl],fun i x u hx hu=>?_⟩
  ·rw [List.mapM_cons]
   simp only [Zxj,Sem.run_bind,Sem.run_pure,Result.andThen,hr]
  ·cases i with
   | zero=>simp only [List.getElem?_cons_zero,Option.some.injEq] at hx hu;subst hx;subst hu;exact hF t
   | succ i=>exact hv i x u (by simpa using hx) (by simpa using hu)
 | .cell a t::l,K,h=>by
  simp only [pres] at h
  have hptr:∃a',tm.getD a Go.undef=.pointer (some a'):=by
   have:=hF a
   generalize tm.getD a Go.undef=v at this
   generalize f a=x at this h
   cases this with
   | ptr b off _=>exact ⟨_,rfl⟩
   | elem r off b o u _ _ _=>exact ⟨_,rfl⟩
   | _=>exact h.elim
  obtain ⟨pv,u0,hk,hr0,hrun⟩:=Zft hT hS (hF a) h
  rw [YP] at hk
  obtain ⟨pvs,vs,hK,hr,hl,hv⟩:=Zce hT hS hF hk
  refine ⟨pv::pvs,u0::vs,hK,?_,by simp [hl],fun i x u hx hu=>?_⟩
  ·rw [List.mapM_cons]
   have:=Zgf hptr hrun
   simp only [Zxj]
   rw [Sem.run_bind,this]
   simp only [Sem.run_bind,Sem.run_pure,Result.andThen,hr]
  ·cases i with
   | zero=>simp only [List.getElem?_cons_zero,Option.some.injEq] at hx hu;subst hx;subst hu;exact hr0
   | succ i=>exact hv i x u (by simpa using hx) (by simpa using hu)
theorem X7 (hT:TabOK C.T G.P) (hS:SRel G e σ w) (hF:FRel G e σ w f tm) {fn:Func} {K:List PV→Prop} (h:pres C.T f σ.bx fn.results.toList K) :
  ∃pvs v,K pvs∧(results fn tm).run G.P w=.ok v w∧VRel G e σ w (Jn pvs) v:=by
 obtain ⟨pvs,vs,hK,hr,hl,hv⟩:=Zce hT hS hF h
 have hres:(results fn tm).run G.P w=.ok (if h:vs.toArray.size=1 then vs.toArray[0] else .tuple vs.toArray) w:=by
  have hfun:results fn tm=(do let vs ← fn.results.mapM (Zxj tm);pure (if h:vs.size=1 then vs[0] else .tuple vs)):=by
   unfold results
   congr 1
  have h1:fn.results.mapM (Zxj tm)=List.toArray <$> fn.results.toList.mapM (Zxj tm):=by
   conv=>lhs;rw [show fn.results=fn.results.toList.toArray from by simp]
   exact List.mapM_toArray
  rw [hfun,h1,Sem.run_bind,Sem.run_map,hr]
  rfl
 refine ⟨pvs,_,hK,hres,?_⟩
 match pvs,vs,hl,hv with
 | [],[],_,hv=>exact .tuple [] #[] rfl (fun i x u hx=>by simp at hx)
 | [x],[u],_,hv=>exact hv 0 x u rfl rfl
 | x::y::l,u::v::m,hl,hv =>
  have:¬((u::v::m).toArray.size=1):=by simp
  rw [dif_neg this]
  exact .tuple _ _ (by simpa using hl) (fun i a b ha hb=>hv i a b ha (by simpa using hb))
theorem XS {e0:Env} {σ0:St} {w0:World} {keep:Nat} {own:Bool} {pv:PV} {v:Value} {K:PV→St→Prop} (hS:SRel G e σ w) (hL:Later e0 σ0 w0 e σ w) (hk:σ0.bx.length≤keep) (hv:VRel G e σ w pv v)
  (h:ZaG keep own pv σ K):∃pv' σ' e',K pv' σ'∧VRel G e' σ' w pv' v∧SRel G e' σ' w∧Later e0 σ0 w0 e' σ' w:=by
 unfold ZaG at h
 split at h
 ·rename_i hb
  cases own with
  | true =>
   simp only at h
   obtain ⟨vs',σ',e',hK,hS',hd,hlen,hvs⟩:=Zdv hS h
   match vs',hlen,hK with
   | [y],_,hK=>exact ⟨y,σ',e',hK,hvs 0 pv y v rfl rfl hv,hS',hL.drop hd hk⟩
  | false =>
   simp only at h
   obtain ⟨bs,tk',as',hK,hx,hI,hbl,hn,hbs⟩:=ZaN (as:=[]) (ZC8 σ.tk [] (fun t ht=>by cases ht)) h
   exact ⟨clean pv,_,e.re as',hK,(NV.cl pv hb).rel hn hI hbl hv,Zgc hS hn hI hbl hbs,hL.drop (ZdT hn hI hbl) hk⟩
 ·exact h.elim
theorem J5 {vs:Array Value}:∀(args:List PV) (i:Nat),(∀(k:Nat) (x:PV),args[k]?=some x→VRel G e σ w x (vs.getD (i+k) Go.undef))→FRel G e σ w (Ze7 i args) vs
 | [],i,_=>fun j=>.undef _
 | a::args,i,h=>by
  intro j
  simp only [Ze7]
  by_cases hij:i=j
  ·subst hij;rw [Y5];exact h 0 a (by simp)
  ·rw [X4 _ _ hij]
   exact J5 args (i+1) (fun k x hx=>by have:=h (k+1) x (by simpa using hx);rwa [show i+(k+1)=i+1+k by omega] at this) j
theorem VRel.world {w':World} (hc:∀b off u,w.cell? ⟨b,off,none⟩=some u→w'.cell? ⟨b,off,none⟩=some u) (hb:∀(b:Nat) (cs:Array Value) (ty:TypeId) (fz:Nat×Nat),w.heap[b]?=some (Obj.cells cs ty fz)→w'.heap[b]?=some (Obj.cells cs ty fz)) {x:PV} {v:Value} (h:VRel G e σ w x v):VRel G e σ w' x v:=by
 have hd:∀{x:D} {v:Value},DRel (okc e σ) w x v→DRel (okc e σ) w' x v:=fun hd=>hd.mono fun b off u hu ho=>⟨ho,hc b off u hu⟩
 induction h with
 | d x v h=>exact .d _ _ (hd h)
 | undef v=>exact .undef _
 | ptr b off h=>exact .ptr b off h
 | asl b off n h=>exact .asl b off n h
 | elem r off b o u hcc ho hu=>exact .elem r off b o u (fun j hj=>hc _ _ _ (hcc j hj)) ho (fun j x hx=>hd (hu j x hx))
 | sl t el rows v hn hdd ht =>
  refine .sl t el rows v hn (hd hdd) fun h=>?_
  rcases ht h with h1 | ⟨sz,g1,g2,g3,b,off,cap,cs,ty,fz,g4,g5,g6,g7,g8⟩
  ·exact .inl h1
  ·exact .inr ⟨sz,g1,g2,g3,b,off,cap,cs,ty,fz,g4,g5,g6,hb _ _ _ _ g7,g8⟩
 | nils el=>exact .nils el
 | func f a c va vc ha hcc _ _ ih1 ih2=>exact .func f a c va vc ha hcc ih1 ih2
 | iface t x v _ ih=>exact .iface t x v ih
 | agg cs vs hs _ h1 ih=>exact .agg cs vs hs ih h1
 | tuple cs vs hs _ ih=>exact .tuple cs vs hs ih
 | raw v=>exact .raw v
theorem Zq0 {r:Nat} (hS:SRel G e σ w) (hr:w.heap[r]?=some (.deferred (some []))) (hb:∀i,i<σ.bx.length→e.β i≠r) (hg:G.nG≤r) :
  SRel G e σ (w.putObj r (.deferred none))∧(∀x v,VRel G e σ w x v→VRel G e σ (w.putObj r (.deferred none)) x v)∧∀(e0:Env) (σ0:St) (w0:World),Later e0 σ0 w0 e σ w→w0.heap.size≤r→Later e0 σ0 w0 e σ (w.putObj r (.deferred none)):=by
 have hoth:∀k,k≠r→(w.putObj r (.deferred none)).heap[k]?=w.heap[k]?:=fun k hk=>World.putObj_heap_other hk
 have hcell:∀b off u,w.cell? ⟨b,off,none⟩=some u→b≠r:=fun b off u hu he=>by
  subst he;simp [World.cell?,hr] at hu
 have hc:∀b off u,w.cell? ⟨b,off,none⟩=some u→(w.putObj r (.deferred none)).cell? ⟨b,off,none⟩=some u:=fun b off u hu=>by
  have:=hcell b off u hu
  simpa [World.cell?,hoth b this] using hu
 have hbk:∀(b:Nat) (cs:Array Value) (ty:TypeId) (fz:Nat×Nat),w.heap[b]?=some (Obj.cells cs ty fz)→(w.putObj r (.deferred none)).heap[b]?=some (Obj.cells cs ty fz):=fun b cs ty fz h=>by
  have:b≠r:=fun he=>by subst he;rw [hr] at h;cases h
  rw [hoth b this];exact h
 have hV:∀x v,VRel G e σ w x v→VRel G e σ (w.putObj r (.deferred none)) x v:=fun x v h=>h.world hc hbk
 refine ⟨?_,hV,fun e0 σ0 w0 hL hr0=>?_⟩
 ·exact {
   inj:=hS.inj
   box:=fun i x hx=>by
    have hi:=(Tj.1 hx).1
    have hB:=hS.box i x hx
    have heq:=hoth (e.β i) (hb i hi)
    cases x with
    | cells t cs =>
     obtain ⟨vs,g1,g2,g3⟩:=hB
     exact ⟨vs,heq.trans g1,g2,fun k y u hy hu=>⟨hV _ _ (g3 k y u hy hu).1,(g3 k y u hy hu).2⟩⟩
    | iter s p=>exact heq.trans hB
    | loop st pd r=>exact heq.trans hB
   low:=hS.low
   tkn:=hS.tkn
   own:=fun t ht p hp=>by
    obtain ⟨q1,q2,cs,ty,fz,q3⟩:=hS.own t ht p hp
    exact ⟨q1,q2,cs,ty,fz,hbk _ _ _ _ q3⟩
   dis:=hS.dis
   xlt:=fun b off hx=>by rw [World.putObj_size];exact hS.xlt b off hx
   xown:=hS.xown
   glob:=fun b hbg=>(hoth b (by omega)).trans (hS.glob b hbg)
   big:=by rw [World.putObj_size];exact hS.big }
 ·exact {
   len:=hL.len
   beta:=hL.beta
   X:=hL.X
   pres:=fun b off u hu ho=>let ⟨h1,h2⟩:=hL.pres b off u hu ho;⟨h1,hc b off u h2⟩
   blocks:=fun b hlt hn ht=>(hoth b (by omega)).trans (hL.blocks b hlt hn ht)
   size:=by rw [World.putObj_size];exact hL.size
   os:=hL.os
   tape:=hL.tape
   output:=hL.output
   fresh:=hL.fresh
   ftok:=hL.ftok }
theorem Ju {fn:Func} {R:Ending→World→Prop} {u:FrameMode} {e0:Env} {σ0:St} {w0:World} (hu:u≠.run):∀(rs:List Nat) {w:World},rs.Nodup→(∀r,r∈rs→w0.heap.size≤r∧w.heap[r]?=some (.deferred (some []))∧∀i,i<σ.bx.length→e.β i≠r) →
  G.nG≤w0.heap.size→SRel G e σ w→FRel G e σ w f tm→Later e0 σ0 w0 e σ w→(∀pv v,VRel G e σ w pv v→∀w',SRel G e σ w'→FRel G e σ w' f tm→Later e0 σ0 w0 e σ w'→VRel G e σ w' pv v→True) →
  (∀w',(∀x v,VRel G e σ w x v→VRel G e σ w' x v)→SRel G e σ w'→FRel G e σ w' f tm→Later e0 σ0 w0 e σ w'→LeavesIn (fw none) n G.P fn tm R [] u w')→LeavesInM (fw none) n G.P fn tm R (rs.map Zbk) u w
 | [],w,_,_,_,hS,hF,hL,_,hend=>by
  simp only [TG,LeavesInM]
  exact hend w (fun _ _ h=>h) hS hF hL
 | r::rs,w,hnd,hrs,hG,hS,hF,hL,_,hend=>by
  obtain ⟨h1,h2,h3⟩:=hrs r (by simp)
  obtain ⟨hS',hV,hL'⟩:=Zq0 hS h2 h3 (Sb hG h1)
  simp only [Tz,LeavesInM]
  refine ⟨hu,.inl ⟨r,_,rfl,run_takeDeferred h2,?_⟩⟩
  refine Ju hu rs (List.nodup_cons.1 hnd).2 (fun q hq=>?_) hG hS' (fun i=>hV _ _ (hF i)) (hL' _ _ _ hL h1) (fun _ _ _ _ _ _ _ _=>trivial) (fun w' hV'=>hend w' fun x v h=>hV' x v (hV x v h))
  obtain ⟨g1,g2,g3⟩:=hrs q (Tp _ hq)
  have hne:q≠r:=fun e=>(List.nodup_cons.1 hnd).1 (e ▸ hq)
  exact ⟨g1,(World.putObj_heap_other hne).trans g2,g3⟩
theorem Zd0 (hmix:G.P.follows .mixedOrders=true) {g:FuncId} {fn:Func} {c:Code} (hC:CxOK G C none e σ w) (hM:CxMono C.calm) (hf:G.P.funcs[g]?=some fn) (hb:fn.body=some c) (hok:ZS fn.ntmps c=true)
  {args:List PV} {Q:PQ} {K:PEnd→St→Prop} (hlen:args.length≤fn.ntmps) (h:W C c Q (Ze7 0 args) σ)
  (hQ:∀(pe:PExit) (f:Frame) (σ':St),Q pe f σ'→match pe with
   | .normal | .ret=>pres C.T f σ'.bx fn.results.toList fun vs=>∀(e':Env) (w':World) (v:Value),SRel G e' σ' w'→VRel G e' σ' w' (Jn vs) v→Later e σ w e' σ' w'→Xf G e σ w K (.returned v) w'
   | .panic p=>∀(e':Env) (w':World) (v:Value),SRel G e' σ' w'→VRel G e' σ' w' p v→Later e σ w e' σ' w'→Xf G e σ w K (.panicked [{ v:=v,recovered:=false }]) w'
   | _=>False)
  {vs:Array Value} (hS:SRel G e σ w) (hargs:ArgsRel G e σ w args vs):CallsIn (fw none) n G.P g vs w (Xf G e σ w K):=by
 have hsz:vs.size=args.length:=hargs.1
 have hF:FRel G e σ w (Ze7 0 args) (vs++Array.replicate (fn.ntmps - vs.size) undef):=J5 args 0 fun k x hx=>by
  exact m34
 have hw:=Jt (n:=n) (ro:=none) (ds:=(w.heap.size,[],false)) hmix c hC hM (fun h=>by cases h) hok [] #[] (YM c) _ (a:={ tmps:=vs++Array.replicate (fn.ntmps - vs.size) undef,defers:=[] }) hS hF (Later.refl e σ w) (by simp;omega) (Marks.nil e σ (Tt _)) (fun i hi=>by cases hi) h
 refine callsIn_of_wp_marks hf hb trivial (wpIn_mono hw fun x a' w' hp=>?_)
 obtain ⟨pe,f',e',σ',hq,hx,h1,h2,h3,h4,⟨_,rs,h5,_,h5n,h5r⟩,h6⟩:=hp
 have h5:a'.defers=rs.map Zbk:=by rw [h5];exact TC _
 have hq':=hQ pe f' σ' hq
 have hrs:∀r,r∈rs→w.heap.size≤r∧w'.heap[r]?=some (.deferred (some []))∧∀i,i<σ'.bx.length→e'.β i≠r:=fun r hr=>let ⟨g1,g2,g3,_⟩:=h5r r hr;⟨g1,g2,g3⟩
 have ends:∀(hq':pres C.T f' σ'.bx fn.results.toList fun vs=>∀(e':Env) (w':World) (v:Value),SRel G e' σ' w'→VRel G e' σ' w' (Jn vs) v→Later e σ w e' σ' w'→Xf G e σ w K (.returned v) w'),LeavesInM (fw none) n G.P fn a'.tmps (Xf G e σ w K) a'.defers .returning w':=fun hq'=>by
  rw [h5]
  refine Ju (by simp) rs h5n hrs hS.big h1 h2 h3 (fun _ _ _ _ _ _ _ _=>trivial) fun w2 _ k1 k2 k3=>?_
  obtain ⟨pvs,v,hl,hr,hv⟩:=X7 hC.tab k1 k2 hq'
  exact ⟨v,hr,hl e' w2 v k1 hv k3⟩
 cases pe with
 | normal=>obtain rfl:x=.normal:=hx;exact ends hq'
 | ret=>obtain rfl:x=.ret:=hx;exact ends hq'
 | panic p =>
  obtain ⟨v,rfl,hv⟩:=hx
  show LeavesInM (fw none) n G.P fn a'.tmps (Xf G e σ w K) a'.defers (.panicking _) w'
  rw [h5]
  refine Ju (by simp) rs h5n hrs hS.big h1 h2 h3 (fun _ _ _ _ _ _ _ _=>trivial) fun w2 hV k1 k2 k3=>?_
  exact hq' e' w2 v k1 (hV _ _ hv) k3
 | exit id=>exact hq'.elim
 | goto l=>exact hq'.elim
theorem VJ (hmix:G.P.follows .mixedOrders=true) {g:FuncId} {fn:Func} {c:Code} (hC:CxOK G C none e σ w) (hM:CxMono C.calm) (hf:G.P.funcs[g]?=some fn) (hb:fn.body=some c) (hok:ZS fn.ntmps c=true)
  {keep:Nat} {own:Bool} {args:List PV} {R:PEnd→St→Prop} (hk:σ.bx.length≤keep) (hlen:args.length≤fn.ntmps) (h:WF C fn keep own args σ R) {vs:Array Value} (hS:SRel G e σ w) (hargs:ArgsRel G e σ w args vs) :
  CallsIn (fw none) n G.P g vs w (Xf G e σ w R):=by
 have hbo:VD fn=c:=by simp [VD,hb]
 unfold WF at h
 rw [hbo] at h
 have presM:∀{T:Tab} {f:Frame} {bx:List Box} {l:List ResultVar} {K K':List PV→Prop},(∀vs,K vs→K' vs)→pres T f bx l K→pres T f bx l K':=by
  intro T f bx l
  induction l with
  | nil=>exact fun hK h=>hK _ h
  | cons r l ih =>
   intro K K' hK h
   exact m81
 refine Zd0 hmix hC hM hf hb hok hlen h (fun pe f' σ' hq=>?_) hS hargs
 have fin:∀{pv:PV} {p:PV→PEnd} {en:Value→Ending},(∀(pv:PV) (e:Env) (σ:St) (w:World) v,VRel G e σ w pv v→ZnM G e σ w (p pv) (en v))→(ZaG keep own pv σ' fun v σ''=>R (p v) σ'')→∀(e':Env) (w':World) (v:Value),SRel G e' σ' w'→VRel G e' σ' w' pv v→Later e σ w e' σ' w'→Xf G e σ w R (en v) w':=fun {pv p en} hpe hl e' w' v hS' hv hL=>by
  obtain ⟨pv',σ'',e'',hK,hv',hS'',hL''⟩:=XS hS' hL hk hv hl
  exact ⟨p pv',σ'',e'',hK,hpe _ _ _ _ _ hv',hS'',hL''⟩
 cases pe with
 | normal=>exact presM (fun vs hl=>fin (p:=.ret) (en:=.returned) (fun _ _ _ _ v h=>⟨v,rfl,h⟩) hl) hq
 | ret=>exact presM (fun vs hl=>fin (p:=.ret) (en:=.returned) (fun _ _ _ _ v h=>⟨v,rfl,h⟩) hl) hq
 | panic p=>exact fin (p:=.panic) (en:=fun v=>.panicked [{ v:=v,recovered:=false }]) (fun _ _ _ _ v h=>⟨v,rfl,h⟩) hq
 | exit id=>exact hq.elim
 | goto l=>exact hq.elim
end
end Go.PM
end

section
namespace Go.PM
mutual
def Zxt:PV→List Nat→List Nat
 | .ptr b _,acc=>match Zi5 b acc with | true=>acc | false=>acc++[b]
 | .asl b _ _,acc=>match Zi5 b acc with | true=>acc | false=>acc++[b]
 | .func _ a c,acc=>Zfc c (Zfc a acc)
 | .iface _ v,acc=>Zxt v acc
 | .agg cs,acc=>Zfc cs acc
 | .tuple vs,acc=>Zfc vs acc
 | _,acc=>acc
def Zfc:List PV→List Nat→List Nat
 | [],acc=>acc
 | v::l,acc=>Zfc l (Zxt v acc)
end
def ZfB (bx:List Box):Nat→Nat→List Nat→List Nat
 | 0,_,acc=>acc
 | n+1,i,acc=>match acc[i]? with
  | none=>acc
  | some b=>match bx[b]? with
   | some (.cells _ cs)=>ZfB bx n (i+1) (Zfc cs acc)
   | _=>ZfB bx n (i+1) acc
def ZhF (b:Nat):List Nat→Nat→Option Nat
 | [],_=>none
 | x::l,i=>match Nat.beq x b with | true=>some i | false=>ZhF b l (i+1)
def ZhG:List Nat→Bool
 | []=>true
 | x::l=>match Zi5 x l with | true=>false | false=>ZhG l
mutual
def Zxk (bs:List Nat):PV→PV
 | .ptr b o=>match ZhF b bs 0 with | some i=>.ptr i o | none=>.undef
 | .asl b o n=>match ZhF b bs 0 with | some i=>.asl i o n | none=>.undef
 | .func f a c=>.func f (Zjy bs a) (Zjy bs c)
 | .iface t v=>.iface t (Zxk bs v)
 | .agg cs=>.agg (Zjy bs cs)
 | .tuple vs=>.tuple (Zjy bs vs)
 | .d x=>.d x
 | .undef=>.undef
 | .elem r o=>.elem r o
 | .sl t e rows=>.sl t e rows
 | .nils e=>.nils e
 | .raw v=>.raw v
def Zjy (bs:List Nat):List PV→List PV
 | []=>[]
 | v::l=>Zxk bs v::Zjy bs l
end
def Zq1 (bs:List Nat) (bx:List Box):List Nat→(List Box→Prop)→Prop
 | [],K=>K []
 | b::l,K=>match bx[b]? with
  | some (.cells t cs)=>Zq1 bs bx l fun r=>K (.cells t (Zjy bs cs)::r)
  | some (.iter s p)=>Zq1 bs bx l fun r=>K (.iter s p::r)
  | some (.loop _ _ _)=>False
  | none=>False
mutual
def ZhH (bs:List Nat) (m L nx:Nat):PV→PV
 | .ptr i o=>match bs[i]? with | some b=>.ptr b o | none=>.ptr (L+(i - m)) o
 | .asl i o n=>match bs[i]? with | some b=>.asl b o n | none=>.asl (L+(i - m)) o n
 | .sl t e rows=>.sl (nx+t) e rows
 | .func f a c=>.func f (Zdi bs m L nx a) (Zdi bs m L nx c)
 | .iface t v=>.iface t (ZhH bs m L nx v)
 | .agg cs=>.agg (Zdi bs m L nx cs)
 | .tuple vs=>.tuple (Zdi bs m L nx vs)
 | .d x=>.d x
 | .undef=>.undef
 | .elem r o=>.elem r o
 | .nils e=>.nils e
 | .raw v=>.raw v
def Zdi (bs:List Nat) (m L nx:Nat):List PV→List PV
 | []=>[]
 | v::l=>ZhH bs m L nx v::Zdi bs m L nx l
end
def ZaQ (bs:List Nat) (m L nx:Nat):Box→Box
 | .cells t cs=>.cells t (Zdi bs m L nx cs)
 | .iter s p=>.iter s p
 | .loop st pd r=>.loop st pd r
def Zd1 (bb:Box→Box):List Nat→List Box→List Box→(List Box→Prop)→Prop
 | [],xs,acc,K=>K (acc++xs.map bb)
 | b::l,x::xs,acc,K=>Zd1 bb l xs (acc.set b (bb x)) K
 | _::_,[],_,_=>False
def Zmm (bs:List Nat) (m L nx:Nat):PEnd→PEnd
 | .ret v=>.ret (ZhH bs m L nx v)
 | .panic v=>.panic (ZhH bs m L nx v)
def Zcf (sp:ZA) (args:List PV) (σ:St) (K:PEnd→St→Prop):Prop :=
 Zfr (ZfB σ.bx (σ.bx.length+1) 0 (Zfc args [])) fun bs=>match ZhG bs with
 | true=>Zq1 bs σ.bx bs fun cb=>Ztj bs.length (Zjy bs args) σ.tk 0 fun args' tk k=>Zjf bs.length bs.length cb tk k fun cb' rest k =>
   sp args' ⟨cb',toks k,k⟩ fun pe σ3=>Zd1 (ZaQ bs bs.length σ.bx.length σ.nx) bs σ3.bx σ.bx fun bx =>
    K (Zmm bs bs.length σ.bx.length σ.nx pe) ⟨bx,rest++σ3.tk.map (σ.nx+·),σ.nx+σ3.nx⟩
 | false=>False
def Zbr (sp:ZA) (args:List PV) (σ:St) (K:PEnd→St→Prop):Prop :=
 Zfr (ZfB σ.bx (σ.bx.length+1) 0 (Zfc args [])) fun bs=>match ZhG bs with
 | true=>Zq1 bs σ.bx bs fun cb=>Znx bs.length (Zjy bs args) σ.tk 0 fun args' tk k=>Zjf bs.length bs.length cb tk k fun cb' rest k =>
   sp args' ⟨cb',toks k,k⟩ fun pe σ3=>Zd1 (ZaQ bs bs.length σ.bx.length σ.nx) bs σ3.bx σ.bx fun bx =>
    K (Zmm bs bs.length σ.bx.length σ.nx pe) ⟨bx,rest++σ3.tk.map (σ.nx+·),σ.nx+σ3.nx⟩
 | false=>False
theorem ZaR:∀{l:List Nat},ZhG l=true→∀(i j b:Nat),l[i]?=some b→l[j]?=some b→i=j
 | [],_,i,j,b,h,_=>by simp at h
 | x::l,h,i,j,b,hi,hj=>by
  simp only [ZhG] at h
  split at h
  ·cases h
  ·rename_i hm
   have hx:∀k:Nat,l[k]?≠some x:=fun k hk=>by
    have:=(Xe x l).2 (Sh hk)
    rw [this] at hm;cases hm
   cases i with
   | zero =>
    cases j with
    | zero=>rfl
    | succ j=>simp at hi hj;subst hi;exact absurd hj (hx j)
   | succ i =>
    cases j with
    | zero=>simp at hi hj;subst hj;exact absurd hi (hx i)
    | succ j=>simp at hi hj;rw [ZaR h i j b hi hj]
theorem Zcg {b:Nat}:∀{l:List Nat} {i j:Nat},ZhF b l i=some j→i≤j∧l[j - i]?=some b
 | [],i,j,h=>by simp [ZhF] at h
 | x::l,i,j,h=>by
  simp only [ZhF] at h
  split at h
  ·rename_i hb;cases h;simp [Tn hb]
  ·obtain ⟨h1,h2⟩:=Zcg h
   refine ⟨by omega,?_⟩
   rw [show j - i=(j - (i+1))+1 by omega];simpa using h2
theorem VK {bs:List Nat}:∀{l:List PV} (i:Nat) (y:PV),(Zjy bs l)[i]?=some y→∃x,l[i]?=some x∧y=Zxk bs x
 | [],i,y,h=>by simp [Zjy] at h
 | x::l,i,y,h=>by
  cases i with
  | zero=>simp [Zjy] at h;exact ⟨x,by simp,h.symm⟩
  | succ i=>simp only [Zjy,T5] at h;obtain ⟨z,h1,h2⟩:=VK i y h;exact ⟨z,by simpa using h1,h2⟩
theorem Xm {bs:List Nat}:∀{l:List PV},(Zjy bs l).length=l.length
 | []=>rfl
 | x::l=>by simp [Zjy,Xm]
theorem Ul {bs:List Nat} {m L nx:Nat}:∀{l:List PV} (i:Nat) (y:PV),(Zdi bs m L nx l)[i]?=some y→∃x,l[i]?=some x∧y=ZhH bs m L nx x
 | [],i,y,h=>by simp [Zdi] at h
 | x::l,i,y,h=>by
  cases i with
  | zero=>simp [Zdi] at h;exact ⟨x,by simp,h.symm⟩
  | succ i=>simp only [Zdi,T5] at h;obtain ⟨z,h1,h2⟩:=Ul i y h;exact ⟨z,by simpa using h1,h2⟩
theorem X0 {bs:List Nat} {m L nx:Nat}:∀{l:List PV},(Zdi bs m L nx l).length=l.length
 | []=>rfl
 | x::l=>by simp [Zdi,X0]
def ZsD (bs:List Nat):Box→Box
 | .cells t cs=>.cells t (Zjy bs cs)
 | .iter s p=>.iter s p
 | .loop st pd r=>.loop st pd r
theorem Zgg {bs:List Nat} {bx:List Box}:∀{l:List Nat} {K:List Box→Prop},Zq1 bs bx l K→∃cb,K cb∧cb.length=l.length∧∀(j b:Nat),l[j]?=some b→∃x,bx[b]?=some x∧cb[j]?=some (ZsD bs x)
 | [],K,h=>⟨[],h,rfl,fun j b hj=>by simp at hj⟩
 | b::l,K,h=>by
  simp only [Zq1] at h
  split at h
  ·rename_i t cs hb
   exact m101
  ·rename_i s p hb
   exact m101
  ·exact h.elim
  ·exact h.elim
theorem Zgh {bb:Box→Box}:∀{bs:List Nat} {xs acc:List Box} {K:List Box→Prop},(∀(i j b:Nat),bs[i]?=some b→bs[j]?=some b→i=j)→(∀b,b∈bs→b<acc.length)→Zd1 bb bs xs acc K →
  ∃r,K r∧bs.length≤xs.length∧r.length=acc.length+(xs.length - bs.length)∧(∀(j b:Nat) (x:Box),bs[j]?=some b→xs[j]?=some x→r[b]?=some (bb x))∧(∀i,i<acc.length→i∉bs→r[i]?=acc[i]?) ∧
   ∀i,acc.length≤i→r[i]?=xs[bs.length+(i - acc.length)]?.map bb
 | [],xs,acc,K,hn,hl,h=>⟨_,h,by simp,by simp,fun j b x hj=>by simp at hj,fun i hi _=>by rw [TH hi],fun i hi=>by rw [TW hi,TN];simp⟩
 | b::bs,x::xs,acc,K,hn,hl,h=>by
  simp only [Zd1] at h
  have hlt:b<acc.length:=hl b (by simp)
  obtain ⟨r,h1,h2,h3,h4,h5,h6⟩:=Zgh (bs:=bs) (fun i j c hi hj=>by have:=hn (i+1) (j+1) c (by simpa using hi) (by simpa using hj);omega) (fun c hc=>by rw [Sv];exact hl c (Tp _ hc)) h
  have hnb:b∉bs:=fun hm=>by
   obtain ⟨k,hk,hke⟩:=T3 hm
   have:=hn 0 (k+1) b (by simp) (by simp [Ti hk,hke])
   omega
  refine ⟨r,h1,by simp;omega,by rw [h3,Sv];simp,fun j c y hj hy=>?_,fun i hi hni=>?_,fun i hi=>?_⟩
  ·cases j with
   | zero =>
    simp only [List.getElem?_cons_zero,Option.some.injEq] at hj hy
    subst hj;subst hy
    rw [h5 b (by rw [Sv];exact hlt) hnb,List.getElem?_set_self hlt]
   | succ j=>exact h4 j c y (by simpa using hj) (by simpa using hy)
  ·have hib:b≠i:=fun e=>hni (e ▸ by simp)
   rw [h5 i (by rw [Sv];exact hi) (fun hm=>hni (Tp _ hm)),List.getElem?_set_ne hib]
  ·rw [h6 i (by rw [Sv];exact hi),Sv,Tc,show bs.length+1+(i - acc.length)=bs.length+(i - acc.length)+1 by omega,T5]
 | b::bs,[],acc,K,hn,hl,h=>h.elim
section
variable {G:GE} {e:Env} {σ:St} {w:World}
def Zgi (e:Env) (σ:St) (bs rest:List Nat) (b off:Nat):Prop :=
 e.X b off∨(∃i,i<σ.bx.length∧i∉bs∧e.β i=b)∨∃t,t∈rest∧∃p,e.M t=some p∧p.1=b∧p.2≤off
def Env.handed (e:Env) (σ:St) (bs rest:List Nat):Env:=⟨fun j=>e.β (bs.getD j 0),e.M,Zgi e σ bs rest⟩
structure Hand (σ:St) (bs rest pass:List Nat) (cb:List Box):Prop where
 nodup:∀(i j b:Nat),bs[i]?=some b→bs[j]?=some b→i=j
 len:cb.length=bs.length
 get:∀(j b:Nat),bs[j]?=some b→∃x,σ.bx[b]?=some x∧cb[j]?=some (ZsD bs x)
 restIn:∀t,t∈rest→t∈σ.tk
 passIn:∀t,t∈pass→t∈σ.tk∧t∉rest
variable {bs rest pass:List Nat} {cb:List Box}
theorem Hand.lt (h:Hand σ bs rest pass cb) {b:Nat} (hb:b∈bs):b<σ.bx.length:=by
 obtain ⟨k,hk,he⟩:=T3 hb
 obtain ⟨x,hx,_⟩:=h.get k b (by rw [Ti hk,he])
 exact (Tj.1 hx).1
theorem Hand.at (h:Hand σ bs rest pass cb) {j:Nat} (hj:j<bs.length):∃b,bs[j]?=some b∧b∈bs∧(e.handed σ bs rest).β j=e.β b:=by
 have:=Ti hj
 exact ⟨bs[j],this,TU hj,by simp [Env.handed,this]⟩
theorem ZkX (hS:SRel G e σ w) (h:Hand σ bs rest pass cb) {b off:Nat} (ho:okc e σ b off):okc (e.handed σ bs rest) ⟨cb,pass,σ.nx⟩ b off:=by
 refine ⟨fun hX=>?_,fun j hj=>?_,fun t ht p hp hpb=>ho.2.2 t (h.passIn t ht).1 p hp hpb⟩
 ·rcases hX with hX | ⟨i,h1,_,h2⟩ | ⟨t,h1,p,h2,h3,h4⟩
  ·exact ho.1 hX
  ·exact ho.2.1 i h1 h2
  ·have:=ho.2.2 t (h.restIn t h1) p h2 h3;omega
 ·obtain ⟨b',h1,h2,h3⟩:=h.at (e:=e) (show j<bs.length by rw [← h.len];exact hj)
  rw [h3];exact ho.2.1 b' (h.lt h2)
theorem VRel.ren (hS:SRel G e σ w) (h:Hand σ bs rest pass cb) {x:PV} {v:Value} (hv:VRel G e σ w x v):VRel G (e.handed σ bs rest) ⟨cb,pass,σ.nx⟩ w (Zxk bs x) v:=by
 have hd:∀{x:D} {v:Value},DRel (okc e σ) w x v→DRel (okc (e.handed σ bs rest) ⟨cb,pass,σ.nx⟩) w x v:=fun hd=>hd.mono fun b off u hu ho=>⟨ZkX hS h ho,hu⟩
 induction hv with
 | d x v hx=>exact .d _ _ (hd hx)
 | undef v=>exact .undef _
 | ptr b off hb =>
  simp only [Zxk]
  cases hi:ZhF b bs 0 with
  | none=>exact .undef _
  | some i =>
   obtain ⟨_,h2⟩:=Zcg hi
   simp only [Nat.sub_zero] at h2
   have hlt:=(Tj.1 h2).1
   have:(e.handed σ bs rest).β i=e.β b:=by simp [Env.handed,h2]
   rw [← this]
   exact .ptr i off (by show i<cb.length;rw [h.len];exact hlt)
 | asl b off n hb =>
  simp only [Zxk]
  cases hi:ZhF b bs 0 with
  | none=>exact .undef _
  | some i =>
   obtain ⟨_,h2⟩:=Zcg hi
   simp only [Nat.sub_zero] at h2
   have hlt:=(Tj.1 h2).1
   have:(e.handed σ bs rest).β i=e.β b:=by simp [Env.handed,h2]
   rw [← this]
   exact .asl i off n (by show i<cb.length;rw [h.len];exact hlt)
 | elem r off b o u hc ho hu=>exact .elem r off b o u hc (fun j hj=>ZkX hS h (ho j hj)) (fun j x hx=>hd (hu j x hx))
 | sl t el rows v hn hdd ht=>exact .sl t el rows v hn (hd hdd) fun hp=>ht (h.passIn t hp).1
 | nils el=>exact .nils el
 | func f a c va vc ha hc _ _ ih1 ih2 =>
  refine .func f _ _ va vc (by rw [Xm];exact ha) (by rw [Xm];exact hc) (fun i y u hy hu=>?_) (fun i y u hy hu=>?_)
  ·obtain ⟨x,hx,rfl⟩:=VK i y hy;exact ih1 i x u hx hu
  ·obtain ⟨x,hx,rfl⟩:=VK i y hy;exact ih2 i x u hx hu
 | iface t x v _ ih=>exact .iface t _ v ih
 | agg cs vs hs _ h1 ih=>exact .agg _ vs (by rw [Xm];exact hs) (fun i y u hy hu=>by obtain ⟨x,hx,rfl⟩:=VK i y hy;exact ih i x u hx hu) h1
 | tuple cs vs hs _ ih=>exact .tuple _ vs (by rw [Xm];exact hs) (fun i y u hy hu=>by obtain ⟨x,hx,rfl⟩:=VK i y hy;exact ih i x u hx hu)
 | raw v=>exact .raw _
theorem SRel.ren (hS:SRel G e σ w) (h:Hand σ bs rest pass cb):SRel G (e.handed σ bs rest) ⟨cb,pass,σ.nx⟩ w where
 inj:=fun i j hi hj he=>by
  obtain ⟨b,h1,h2,h3⟩:=h.at (e:=e) (show i<bs.length by rw [← h.len];exact hi)
  obtain ⟨b',h1',h2',h3'⟩:=h.at (e:=e) (show j<bs.length by rw [← h.len];exact hj)
  rw [h3,h3'] at he
  have:=hS.inj b b' (h.lt h2) (h.lt h2') he
  subst this
  exact h.nodup i j b h1 h1'
 box:=fun j y hy=>by
  have hj:=(Tj.1 hy).1
  obtain ⟨b,h1,h2,h3⟩:=h.at (e:=e) (show j<bs.length by rw [← h.len];exact hj)
  obtain ⟨x,hx,hcb⟩:=h.get j b h1
  simp only at hy
  rw [hcb] at hy
  cases hy
  have hB:=hS.box b x hx
  rw [h3]
  cases x with
  | cells t cs =>
   obtain ⟨vs,g1,g2,g3⟩:=hB
   refine ⟨vs,g1,by rw [Xm];exact g2,fun i y u hy hu=>?_⟩
   obtain ⟨z,hz,rfl⟩:=VK i y hy
   exact ⟨(g3 i z u hz hu).1.ren hS h,(g3 i z u hz hu).2⟩
  | iter s p=>exact hB
  | loop st pd r=>exact hB
 low:=fun j hj=>by
  obtain ⟨b,h1,h2,h3⟩:=h.at (e:=e) (show j<bs.length by rw [← h.len];exact hj)
  rw [h3];exact hS.low b (h.lt h2)
 tkn:=fun t ht=>hS.tkn t (h.passIn t ht).1
 own:=fun t ht p hp=>by
  obtain ⟨h1,h2,h3⟩:=hS.own t (h.passIn t ht).1 p hp
  refine ⟨h1,fun j hj=>?_,h3⟩
  obtain ⟨b,g1,g2,g3⟩:=h.at (e:=e) (show j<bs.length by rw [← h.len];exact hj)
  rw [g3];exact h2 b (h.lt g2)
 dis:=fun t t' ht ht'=>hS.dis t t' (h.passIn t ht).1 (h.passIn t' ht').1
 xlt:=fun b off hX=>by
  rcases hX with hX | ⟨i,h1,_,h2⟩ | ⟨t,h1,p,h2,h3,h4⟩
  ·exact hS.xlt b off hX
  ·rw [← h2];exact hS.lt h1
  ·obtain ⟨_,_,cs,ty,fz,hh⟩:=hS.own t (h.restIn t h1) p h2
   rw [← h3];exact (Tq.1 hh).1
 xown:=fun t ht p hp off hoff hX=>by
  rcases hX with hX | ⟨i,h1,_,h2⟩ | ⟨t',h1,p',h2,h3,h4⟩
  ·exact hS.xown t (h.passIn t ht).1 p hp off hoff hX
  ·exact (hS.own t (h.passIn t ht).1 p hp).2.1 i h1 h2
  ·exact hS.dis t' t (h.restIn t' h1) (h.passIn t ht).1 (fun e=>(h.passIn t ht).2 (e ▸ h1)) p' p h2 hp h3
 glob:=hS.glob
 big:=hS.big
def Env.back (e:Env) (L m nx:Nat) (e3:Env):Env:=⟨fun i=>if i<L then e.β i else e3.β (m+(i - L)),fun t=>if t<nx then e.M t else e3.M (t - nx),e.X⟩
structure Handed (e:Env) (σ:St) (w:World) (bs rest:List Nat) (e2:Env) (σ2:St):Prop where
 nodup:∀(i j b:Nat),bs[i]?=some b→bs[j]?=some b→i=j
 lt:∀b,b∈bs→b<σ.bx.length
 len:σ2.bx.length=bs.length
 beta:∀(j b:Nat),bs[j]?=some b→e2.β j=e.β b
 X:e2.X=Zgi e σ bs rest
 okc:∀b off,okc e σ b off→okc e2 σ2 b off
 tok:∀t,t∈σ2.tk→∀p,e2.M t=some p→∃t0,t0∈σ.tk∧t0∉rest∧e.M t0=some p
 restIn:∀t,t∈rest→t∈σ.tk
variable {e2 e3:Env} {σ2 σ3:St} {w':World} {bx:List Box}
structure Backed (σ:St) (bs:List Nat) (σ3:St) (bx:List Box):Prop where
 le:bs.length≤σ3.bx.length
 len:bx.length=σ.bx.length+(σ3.bx.length - bs.length)
 some:∀(j b:Nat) (x:Box),bs[j]?=some b→σ3.bx[j]?=some x→bx[b]?=some (ZaQ bs bs.length σ.bx.length σ.nx x)
 old:∀i,i<σ.bx.length→i∉bs→bx[i]?=σ.bx[i]?
 new:∀i,σ.bx.length≤i→bx[i]?=σ3.bx[bs.length+(i - σ.bx.length)]?.map (ZaQ bs bs.length σ.bx.length σ.nx)
abbrev Jd (σ:St) (rest:List Nat) (σ3:St) (bx:List Box):St:=⟨bx,rest++σ3.tk.map (σ.nx+·),σ.nx+σ3.nx⟩
theorem Y8 {t:Nat} (hS:SRel G e σ w) (h:Handed e σ w bs rest e2 σ2) (ht:t∈(Jd σ rest σ3 bx).tk):(t∈rest∧t<σ.nx)∨∃t',t'∈σ3.tk∧t=σ.nx+t':=by
 rcases TX.1 ht with h1 | h1
 ·exact .inl ⟨h1,hS.tkn t (h.restIn t h1)⟩
 ·obtain ⟨t',h2,h3⟩:=Sd.1 h1
  exact .inr ⟨t',h2,h3.symm⟩
theorem XD {L m nx t:Nat} (h:t<nx):(e.back L m nx e3).M t=e.M t:=by simp [Env.back,h]
theorem back_M_new {L m nx t:Nat}:(e.back L m nx e3).M (nx+t)=e3.M t:=by
 have:¬nx+t<nx:=by omega
 simp [Env.back,this]
theorem YI {L m nx i:Nat} (h:i<L):(e.back L m nx e3).β i=e.β i:=by simp [Env.back,h]
theorem W9 {L m nx i:Nat} (h:L≤i):(e.back L m nx e3).β i=e3.β (m+(i - L)):=by
 have:¬i<L:=by omega
 simp [Env.back,this]
theorem Zjz (h:Handed e σ w bs rest e2 σ2) (hL:Later e2 σ2 w e3 σ3 w') {i:Nat} (hi:i<σ.bx.length):(∃j,j<σ2.bx.length∧bs[j]?=some i∧e3.β j=e.β i)∨(i∉bs∧∀off,e3.X (e.β i) off):=by
 by_cases hm:i∈bs
 ·obtain ⟨j,hj,he⟩:=T3 hm
  have hb:bs[j]?=some i:=by rw [Ti hj,he]
  have hj2:j<σ2.bx.length:=by rw [h.len];exact hj
  exact .inl ⟨j,hj2,hb,(hL.beta j hj2).trans (h.beta j i hb)⟩
 ·exact .inr ⟨hm,fun off=>by rw [hL.X,h.X];exact .inr (.inl ⟨i,hi,hm,rfl⟩)⟩
theorem Zgj (hS:SRel G e σ w) (h:Handed e σ w bs rest e2 σ2) (hL:Later e2 σ2 w e3 σ3 w') (hb:Backed σ bs σ3 bx) {b off:Nat} (ho:okc e3 σ3 b off) :
  okc (e.back σ.bx.length bs.length σ.nx e3) (Jd σ rest σ3 bx) b off:=by
 have hX:¬Zgi e σ bs rest b off:=by rw [← h.X,← hL.X];exact ho.1
 refine ⟨fun hx=>hX (.inl hx),fun i hi=>?_,fun t ht p hp hpb=>?_⟩
 ·by_cases hlt:i<σ.bx.length
  ·rw [YI hlt]
   rcases Zjz h hL hlt with ⟨j,hj,_,he⟩ | ⟨_,hx⟩
   ·rw [← he];exact ho.2.1 j (TM hj hL.len)
   ·intro e;rw [← e] at ho;exact ho.1 (hx off)
  ·rw [W9 (by omega)]
   have hlen:=hb.len
   have hle:=hb.le
   simp only at hi
   exact ho.2.1 _ (by omega)
 ·rcases Y8 hS h ht with ⟨h1,h2⟩ | ⟨t',h1,rfl⟩
  ·rw [XD h2] at hp
   have:¬p.2≤off:=fun hle=>hX (.inr (.inr ⟨t,h1,p,hp,hpb,hle⟩))
   omega
  ·rw [back_M_new] at hp
   exact ho.2.2 t' h1 p hp hpb
theorem VRel.back (hS:SRel G e σ w) (h:Handed e σ w bs rest e2 σ2) (hL:Later e2 σ2 w e3 σ3 w') (hb:Backed σ bs σ3 bx) {x:PV} {v:Value} (hv:VRel G e3 σ3 w' x v) :
  VRel G (e.back σ.bx.length bs.length σ.nx e3) (Jd σ rest σ3 bx) w' (ZhH bs bs.length σ.bx.length σ.nx x) v:=by
 have hd:∀{x:D} {v:Value},DRel (okc e3 σ3) w' x v→DRel (okc (e.back σ.bx.length bs.length σ.nx e3) (Jd σ rest σ3 bx)) w' x v:=fun hd=>hd.mono fun b off u hu ho=>⟨Zgj hS h hL hb ho,hu⟩
 induction hv with
 | d x v hx=>exact .d _ _ (hd hx)
 | undef v=>exact .undef _
 | ptr i off hi =>
  simp only [ZhH]
  have hlen:=hb.len
  have hle:=hb.le
  cases hbi:bs[i]? with
  | some b =>
   have hj:=(Tj.1 hbi).1
   have hlt:=h.lt b (Sh hbi)
   have:e3.β i=(e.back σ.bx.length bs.length σ.nx e3).β b:=by
    rw [YI hlt];exact (hL.beta i (by rw [h.len];exact hj)).trans (h.beta i b hbi)
   rw [this]
   exact .ptr b off (by show b<bx.length;omega)
  | none =>
   have hge:bs.length≤i:=by simpa using hbi
   have:e3.β i=(e.back σ.bx.length bs.length σ.nx e3).β (σ.bx.length+(i - bs.length)):=by
    rw [W9 (by omega)];congr 1;omega
   rw [this]
   exact .ptr _ off (by show _<bx.length;omega)
 | asl i off n hi =>
  simp only [ZhH]
  have hlen:=hb.len
  have hle:=hb.le
  cases hbi:bs[i]? with
  | some b =>
   have hj:=(Tj.1 hbi).1
   have hlt:=h.lt b (Sh hbi)
   have:e3.β i=(e.back σ.bx.length bs.length σ.nx e3).β b:=by
    rw [YI hlt];exact (hL.beta i (by rw [h.len];exact hj)).trans (h.beta i b hbi)
   rw [this]
   exact .asl b off n (by show b<bx.length;omega)
  | none =>
   have hge:bs.length≤i:=by simpa using hbi
   have:e3.β i=(e.back σ.bx.length bs.length σ.nx e3).β (σ.bx.length+(i - bs.length)):=by
    rw [W9 (by omega)];congr 1;omega
   rw [this]
   exact .asl _ off n (by show _<bx.length;omega)
 | elem r off b o u hc ho hu=>exact .elem r off b o u hc (fun j hj=>Zgj hS h hL hb (ho j hj)) (fun j x hx=>hd (hu j x hx))
 | sl t el rows v hn hdd ht =>
  refine .sl _ el rows v (by show σ.nx+t<σ.nx+σ3.nx;omega) (hd hdd) fun hp=>?_
  rcases Y8 hS h hp with ⟨_,h2⟩ | ⟨t',h1,h2⟩
  ·omega
  ·obtain rfl:t=t':=by omega
   rcases ht h1 with ⟨g1,g2,g3⟩ | ⟨sz,g1,g2,g3,b,off,cap,cs,ty,fz,g4,g5,g6,g7,g8,g9,g10⟩
   ·exact .inl ⟨g1,g2,back_M_new.trans g3⟩
   ·exact .inr ⟨sz,g1,g2,g3,b,off,cap,cs,ty,fz,g4,g5,g6,g7,g8,g9,back_M_new.trans g10⟩
 | nils el=>exact .nils el
 | func f a c va vc ha hc _ _ ih1 ih2 =>
  refine .func f _ _ va vc (by rw [X0];exact ha) (by rw [X0];exact hc) (fun i y u hy hu=>?_) (fun i y u hy hu=>?_)
  ·obtain ⟨x,hx,rfl⟩:=Ul i y hy;exact ih1 i x u hx hu
  ·obtain ⟨x,hx,rfl⟩:=Ul i y hy;exact ih2 i x u hx hu
 | iface t x v _ ih=>exact .iface t _ v ih
 | agg cs vs hs _ h1 ih=>exact .agg _ vs (by rw [X0];exact hs) (fun i y u hy hu=>by obtain ⟨x,hx,rfl⟩:=Ul i y hy;exact ih i x u hx hu) h1
 | tuple cs vs hs _ ih=>exact .tuple _ vs (by rw [X0];exact hs) (fun i y u hy hu=>by obtain ⟨x,hx,rfl⟩:=Ul i y hy;exact ih i x u hx hu)
 | raw v=>exact .raw _
theorem Jv (hS:SRel G e σ w) (h:Handed e σ w bs rest e2 σ2) (hS3:SRel G e3 σ3 w') (hL:Later e2 σ2 w e3 σ3 w') (hb:Backed σ bs σ3 bx):Stepped e σ w (e.back σ.bx.length bs.length σ.nx e3) (Jd σ rest σ3 bx) w' where
 len:=by show σ.bx.length≤bx.length;rw [hb.len];omega
 beta:=fun i hi=>YI hi
 X:=rfl
 pres:=fun b off u hu ho=>by
  obtain ⟨h1,h2⟩:=hL.pres b off u hu (h.okc b off ho)
  exact ⟨Zgj hS h hL hb h1,h2⟩
 blocks:=fun b hlt hn ht=>hL.blocks b hlt (fun j hj=>by
   have hj':j<bs.length:=by rw [← h.len];exact hj
   have hbj:=Ti hj'
   rw [h.beta j _ hbj];exact hn _ (h.lt _ (TU hj'))) (fun t htm p hp=>by
   obtain ⟨t0,h1,_,h2⟩:=h.tok t htm p hp;exact ht t0 h1 p h2)
 size:=hL.size
 os:=hL.os
 tape:=hL.tape
 output:=hL.output
 fresh:=fun i h1 h2=>by
  rw [W9 h1]
  have hlen:=hb.len
  have hle:=hb.le
  have:i<bx.length:=h2
  exact hL.fresh _ (by rw [h.len];omega) (by omega)
 ftok:=fun t ht p hp=>by
  rcases Y8 hS h ht with ⟨h1,h2⟩ | ⟨t',h1,rfl⟩
  ·rw [XD h2] at hp;exact .inr ⟨t,h.restIn t h1,p,hp,rfl⟩
  ·rw [back_M_new] at hp
   rcases hL.ftok t' h1 p hp with h2 | ⟨t0,h3,p0,h4,h5⟩
   ·exact .inl h2
   ·obtain ⟨t1,g1,_,g2⟩:=h.tok t0 h3 p0 h4;exact .inr ⟨t1,g1,p0,g2,h5⟩
 nx:=Nat.le_add_right _ _
 toks:=fun t hlt ht=>by
  rcases Y8 hS h ht with ⟨h1,_⟩ | ⟨t',h1,rfl⟩
  ·exact ⟨h.restIn t h1,XD hlt⟩
  ·omega
 own:=fun t hlt ht p hp hplt=>by
  rcases Y8 hS h ht with ⟨h1,_⟩ | ⟨t',h1,rfl⟩
  ·obtain ⟨_,hnb,_⟩:=hS.own t (h.restIn t h1) p hp
   refine hL.blocks p.1 hplt (fun j hj=>?_) (fun t2 ht2 p2 hp2=>?_)
   ·have hj':j<bs.length:=by rw [← h.len];exact hj
    have hbj:=Ti hj'
    rw [h.beta j _ hbj];exact hnb _ (h.lt _ (TU hj'))
   ·obtain ⟨t0,g1,g2,g3⟩:=h.tok t2 ht2 p2 hp2
    exact hS.dis t0 t g1 (h.restIn t h1) (fun e=>g2 (e ▸ h1)) p2 p g3 hp
  ·omega
theorem SRel.back (hS:SRel G e σ w) (h:Handed e σ w bs rest e2 σ2) (hS3:SRel G e3 σ3 w') (hL:Later e2 σ2 w e3 σ3 w') (hb:Backed σ bs σ3 bx):SRel G (e.back σ.bx.length bs.length σ.nx e3) (Jd σ rest σ3 bx) w':=by
 have hst:=Jv hS h hS3 hL hb
 have hlen:=hb.len
 have hle:=hb.le
 have hbx:(Jd σ rest σ3 bx).bx.length=bx.length:=rfl
 have hnew:∀i,σ.bx.length≤i→i<bx.length→(e.back σ.bx.length bs.length σ.nx e3).β i=e3.β (bs.length+(i - σ.bx.length))∧bs.length+(i - σ.bx.length)<σ3.bx.length∧w.heap.size≤e3.β (bs.length+(i - σ.bx.length)):=fun i h1 h2=>by
  have:=hst.fresh i h1 h2
  rw [W9 h1] at this
  exact ⟨W9 h1,by omega,this⟩
 have hrest:∀t,t∈rest→∀p,e.M t=some p→p.1<w.heap.size:=fun t ht p hp=>by
  obtain ⟨_,_,cs,ty,fz,hh⟩:=hS.own t (h.restIn t ht) p hp
  exact (Tq.1 hh).1
 constructor
 ·intro i j hi hj he
  by_cases h1:i<σ.bx.length <;> by_cases h2:j<σ.bx.length
  ·rw [YI h1,YI h2] at he;exact hS.inj i j h1 h2 he
  ·obtain ⟨g1,g2,g3⟩:=hnew j (by omega) hj
   rw [YI h1,g1] at he
   have:=hS.lt h1;omega
  ·obtain ⟨g1,g2,g3⟩:=hnew i (by omega) hi
   rw [YI h2,g1] at he
   have:=hS.lt h2;omega
  ·obtain ⟨g1,g2,g3⟩:=hnew i (by omega) hi
   obtain ⟨k1,k2,k3⟩:=hnew j (by omega) hj
   rw [g1,k1] at he
   have:=hS3.inj _ _ g2 k2 he
   omega
 ·intro i x hx
  have hi:=(Tj.1 hx).1
  simp only at hx hi
  have hBk:∀(y:Box) (b:Nat),BRel G e3 σ3 w' y b→BRel G (e.back σ.bx.length bs.length σ.nx e3) (Jd σ rest σ3 bx) w' (ZaQ bs bs.length σ.bx.length σ.nx y) b:=fun y b hB=>by
   cases y with
   | cells t cs =>
    obtain ⟨vs,g1,g2,g3⟩:=hB
    refine ⟨vs,g1,by rw [X0];exact g2,fun k z u hz hu=>?_⟩
    obtain ⟨z',hz',rfl⟩:=Ul k z hz
    exact ⟨(g3 k z' u hz' hu).1.back hS h hL hb,(g3 k z' u hz' hu).2⟩
   | iter s p=>exact hB
   | loop st pd r=>exact hB
  by_cases h1:i<σ.bx.length
  ·rw [YI h1]
   rcases Zjz h hL h1 with ⟨j,hj,hbj,he⟩ | ⟨hni,hX⟩
   ·have hj3:j<σ3.bx.length:=TM hj hL.len
    have:=hb.some j i _ hbj (Ti hj3)
    rw [this] at hx
    cases hx
    rw [← he]
    exact hBk _ _ (hS3.box j _ (Ti hj3))
   ·rw [hb.old i h1 hni] at hx
    refine (hS.box i x hx).step hst (hL.blocks _ (hS.lt h1) (fun j hj=>?_) (fun t ht p hp=>?_))
    ·have hj':j<bs.length:=by rw [← h.len];exact hj
     have hbj:=Ti hj'
     rw [h.beta j _ hbj]
     intro he
     have:=hS.inj _ _ (h.lt _ (TU hj')) h1 he
     exact hni (this ▸ TU hj')
    ·obtain ⟨t0,g1,_,g2⟩:=h.tok t ht p hp
     exact fun he=>(hS.own t0 g1 p g2).2.1 i h1 he.symm
  ·obtain ⟨g1,g2,g3⟩:=hnew i (by omega) hi
   rw [hb.new i (by omega),Ti g2] at hx
   cases hx
   rw [g1]
   exact hBk _ _ (hS3.box _ _ (Ti g2))
 ·intro i hi
  by_cases h1:i<σ.bx.length
  ·rw [YI h1];exact hS.low i h1
  ·obtain ⟨g1,g2,g3⟩:=hnew i (by omega) hi
   rw [g1];exact hS3.low _ g2
 ·intro t ht
  rcases Y8 hS h ht with ⟨_,h2⟩ | ⟨t',h1,rfl⟩
  ·show t<σ.nx+σ3.nx;omega
  ·have:=hS3.tkn t' h1;show σ.nx+t'<σ.nx+σ3.nx;omega
 ·intro t ht p hp
  rcases Y8 hS h ht with ⟨h1,h2⟩ | ⟨t',h1,rfl⟩
  ·rw [XD h2] at hp
   obtain ⟨g1,g2,cs,ty,fz,g3⟩:=hS.own t (h.restIn t h1) p hp
   refine ⟨g1,fun i hi=>?_,cs,ty,fz,(hst.own t h2 ht p hp (hrest t h1 p hp)).trans g3⟩
   by_cases h3:i<σ.bx.length
   ·rw [YI h3];exact g2 i h3
   ·obtain ⟨k1,k2,k3⟩:=hnew i (by omega) hi
    rw [k1]
    have:=hrest t h1 p hp;omega
  ·rw [back_M_new] at hp
   obtain ⟨g1,g2,g3⟩:=hS3.own t' h1 p hp
   refine ⟨g1,fun i hi=>?_,g3⟩
   by_cases h3:i<σ.bx.length
   ·rw [YI h3]
    rcases Zjz h hL h3 with ⟨j,hj,_,he⟩ | ⟨_,hX⟩
    ·rw [← he];exact g2 j (TM hj hL.len)
    ·intro he
     exact hS3.xown t' h1 p hp p.2 (Tt _) (he ▸ hX p.2)
   ·obtain ⟨k1,k2,k3⟩:=hnew i (by omega) hi
    rw [k1];exact g2 _ k2
 ·intro t t' ht ht' hne p p' hp hp'
  have mixed:∀t t',t∈rest→t<σ.nx→t'∈σ3.tk→∀p p',e.M t=some p→e3.M t'=some p'→p.1≠p'.1:=fun t t' h1 h2 h3 p p' hp hp' he=>by
   refine hS3.xown t' h3 p' hp' (max p.2 p'.2) (Nat.le_max_right _ _) ?_
   rw [hL.X,h.X]
   exact .inr (.inr ⟨t,h1,p,hp,he,Nat.le_max_left _ _⟩)
  rcases Y8 hS h ht with ⟨h1,h2⟩ | ⟨s,h1,rfl⟩ <;> rcases Y8 hS h ht' with ⟨k1,k2⟩ | ⟨s',k1,rfl⟩
  ·rw [XD h2] at hp
   rw [XD k2] at hp'
   exact hS.dis t t' (h.restIn t h1) (h.restIn t' k1) hne p p' hp hp'
  ·rw [XD h2] at hp
   rw [back_M_new] at hp'
   exact mixed t s' h1 h2 k1 p p' hp hp'
  ·rw [back_M_new] at hp
   rw [XD k2] at hp'
   exact fun he=>mixed t' s k1 k2 h1 p' p hp' hp he.symm
  ·rw [back_M_new] at hp hp'
   exact hS3.dis s s' h1 k1 (fun e=>hne (by rw [e])) p p' hp hp'
 ·intro b off hX
  exact TM (hS.xlt b off hX) hL.size
 ·intro t ht p hp off hoff hX
  rcases Y8 hS h ht with ⟨h1,h2⟩ | ⟨t',h1,rfl⟩
  ·rw [XD h2] at hp;exact hS.xown t (h.restIn t h1) p hp off hoff hX
  ·rw [back_M_new] at hp
   refine hS3.xown t' h1 p hp off hoff ?_
   rw [hL.X,h.X];exact .inl hX
 ·exact hS3.glob
 ·exact hS3.big
theorem Zbs {g:FuncId} {sp:ZA} (hP:PCalls G g sp) {args:List PV} {K:PEnd→St→Prop} (hv:Zcf sp args σ K) :
  Ve G.P g∧∀(ro:Option Nat) (n:Nat) (e:Env) (w:World) (vs:Array Value),SRel G e σ w→ArgsRel G e σ w args vs→CallsIn (fw ro) n G.P g vs w (Ztp G e σ w K):=by
 unfold Zcf at hv
 simp only [Ug] at hv
 generalize ZfB σ.bx (σ.bx.length+1) 0 (Zfc args [])=bs at hv
 split at hv
 ·rename_i hnd
  obtain ⟨cb,hv,hcl,hcg⟩:=Zgg hv
  obtain ⟨args',tk1,as1,hv,hx1,hI1,hal,hav⟩:=Zgb (as:=[]) (ZC8 σ.tk σ.tk fun _ h=>h) hv
  exact m7
 ·exact hv.elim
theorem Zfd {g:FuncId} {sp:ZA} (hP:PCalls G g sp) {args:List PV} {K:PEnd→St→Prop} (hv:Zbr sp args σ K) :
  Ve G.P g∧∀(ro:Option Nat) (n:Nat) (e:Env) (w:World) (vs:Array Value),SRel G e σ w→ArgsRel G e σ w args vs→CallsIn (fw ro) n G.P g vs w (Ztp G e σ w K):=by
 unfold Zbr at hv
 simp only [Ug] at hv
 generalize ZfB σ.bx (σ.bx.length+1) 0 (Zfc args [])=bs at hv
 split at hv
 ·rename_i hnd
  obtain ⟨cb,hv,hcl,hcg⟩:=Zgg hv
  obtain ⟨args',tk1,as1,hv,hx1,hI1,hal,hav⟩:=ZkT (as:=[]) (ZC8 σ.tk σ.tk fun _ h=>h) hv
  exact m7
 ·exact hv.elim
def Zc (sp:ZA):Prop:=∀args σ (K K':PEnd→St→Prop),(∀e σ,K e σ→K' e σ)→sp args σ K→sp args σ K'
theorem Zbt {bs:List Nat} {bx:List Box}:∀{l:List Nat} {K K':List Box→Prop},(∀r,K r→K' r)→Zq1 bs bx l K→Zq1 bs bx l K'
 | [],K,K',hK,h=>hK _ h
 | b::l,K,K',hK,h=>by
  simp only [Zq1] at h ⊢
  split at h
  ·exact Zbt (fun r hr=>hK _ hr) h
  ·exact Zbt (fun r hr=>hK _ hr) h
  ·exact h.elim
  ·exact h.elim
theorem Zn8 {n:Nat} {tk:List Nat} {k:Nat} {v:PV} {K K':PV→List Nat→Nat→Prop} (hK:∀v t k,K v t k→K' v t k) (h:Zti n tk k v K):Zti n tk k v K':=by
 have gen:∀v,(match bnd n v with | true=>ZaF (clean v) fun v=>K v tk k | false=>K .undef tk k:Prop)→(match bnd n v with | true=>ZaF (clean v) fun v=>K' v tk k | false=>K' .undef tk k:Prop):=fun v h=>by
  split at h
  ·rw [YP] at h ⊢;exact hK _ _ _ h
  ·exact hK _ _ _ h
 cases v with
 | sl t el rows =>
  simp only [Zti] at h ⊢
  split at h <;> exact hK _ _ _ h
 | nils el=>exact hK _ _ _ h
 | d x=>exact gen (.d x) h
 | undef=>exact gen .undef h
 | ptr b o=>exact gen (.ptr b o) h
 | asl b o n=>exact gen (.asl b o n) h
 | elem r o=>exact gen (.elem r o) h
 | func f a c=>exact gen (.func f a c) h
 | iface t v=>exact gen (.iface t v) h
 | agg cs=>exact gen (.agg cs) h
 | tuple cs=>exact gen (.tuple cs) h
 | raw v=>exact gen (.raw v) h
theorem Zd2 {n:Nat}:∀{vs:List PV} {tk:List Nat} {k:Nat} {K K':List PV→List Nat→Nat→Prop},(∀v t k,K v t k→K' v t k)→Ztj n vs tk k K→Ztj n vs tk k K'
 | [],_,_,_,_,hK,h=>hK _ _ _ h
 | v::vs,_,_,_,_,hK,h=>Zn8 (fun v t k h=>Zd2 (fun vs t k h=>hK _ _ _ h) h) h
theorem Zmn {n:Nat} {tk:List Nat} {k:Nat} {v:PV} {K K':PV→List Nat→Nat→Prop} (hK:∀v t k,K v t k→K' v t k) (h:Zje n tk k v K):Zje n tk k v K':=by
 have gen:∀v,(match bnd n v with | true=>ZaF (cleanN v) fun v=>K v tk k | false=>K .undef tk k:Prop)→(match bnd n v with | true=>ZaF (cleanN v) fun v=>K' v tk k | false=>K' .undef tk k:Prop):=fun v h=>by
  split at h
  ·rw [YP] at h ⊢;exact hK _ _ _ h
  ·exact hK _ _ _ h
 cases v with
 | sl t el rows =>
  simp only [Zje] at h ⊢
  split at h <;> exact hK _ _ _ h
 | nils el=>exact hK _ _ _ h
 | d x=>exact gen (.d x) h
 | undef=>exact gen .undef h
 | ptr b o=>exact gen (.ptr b o) h
 | asl b o n=>exact gen (.asl b o n) h
 | elem r o=>exact gen (.elem r o) h
 | func f a c=>exact gen (.func f a c) h
 | iface t v=>exact gen (.iface t v) h
 | agg cs=>exact gen (.agg cs) h
 | tuple cs=>exact gen (.tuple cs) h
 | raw v=>exact gen (.raw v) h
theorem ZfC {n:Nat}:∀{vs:List PV} {tk:List Nat} {k:Nat} {K K':List PV→List Nat→Nat→Prop},(∀v t k,K v t k→K' v t k)→Znx n vs tk k K→Znx n vs tk k K'
 | [],_,_,_,_,hK,h=>hK _ _ _ h
 | v::vs,_,_,_,_,hK,h=>Zmn (fun v t k h=>ZfC (fun vs t k h=>hK _ _ _ h) h) h
theorem Jw {n:Nat}:∀{m:Nat} {bs:List Box} {tk:List Nat} {k:Nat} {K K':List Box→List Nat→Nat→Prop},(∀v t k,K v t k→K' v t k)→Zjf n m bs tk k K→Zjf n m bs tk k K'
 | 0,_,_,_,_,_,hK,h=>by simp only [Zjf] at h ⊢;exact hK _ _ _ h
 | _+1,[],_,_,_,_,_,h=>h.elim
 | _+1,.cells t cs::bs,_,_,_,_,hK,h=>by
  simp only [Zjf] at h ⊢
  exact Zd2 (fun v t k h=>Jw (fun _ _ _ h=>hK _ _ _ h) h) h
 | _+1,.iter s p::bs,_,_,K,K',hK,h=>by
  simp only [Zjf] at h ⊢
  exact Jw (K:=fun l tk k=>K (.iter s p::l) tk k) (K':=fun l tk k=>K' (.iter s p::l) tk k) (fun _ _ _ h=>hK _ _ _ h) h
 | _+1,.loop st pd r::bs,_,_,K,K',hK,h=>by
  simp only [Zjf] at h ⊢
  exact Jw (K:=fun l tk k=>K (.loop st pd r::l) tk k) (K':=fun l tk k=>K' (.loop st pd r::l) tk k) (fun _ _ _ h=>hK _ _ _ h) h
theorem Zch {bb:Box→Box}:∀{bs:List Nat} {xs acc:List Box} {K K':List Box→Prop},(∀r,K r→K' r)→Zd1 bb bs xs acc K→Zd1 bb bs xs acc K'
 | [],_,_,_,_,hK,h=>by simp only [Zd1] at h ⊢;exact hK _ h
 | _::_,[],_,_,_,_,h=>h.elim
 | b::bs,x::xs,_,_,_,hK,h=>by simp only [Zd1] at h ⊢;exact Zch hK h
theorem ZcT {sp:ZA} (hsp:Zc sp):Zc (Zcf sp):=fun args σ K K' hK h=>by
 unfold Zcf at h ⊢
 simp only [Ug] at h ⊢
 split at h
 ·exact Zbt (fun cb h=>Zd2 (fun a t k h=>Jw (fun cb' r k h=>hsp _ _ _ _ (fun pe σ3 h=>Zch (fun bx h=>hK _ _ h) h) h) h) h) h
 ·exact h.elim
theorem Zgk {sp:ZA} (hsp:Zc sp):Zc (Zbr sp):=fun args σ K K' hK h=>by
 unfold Zbr at h ⊢
 simp only [Ug] at h ⊢
 split at h
 ·exact Zbt (fun cb h=>ZfC (fun a t k h=>Jw (fun cb' r k h=>hsp _ _ _ _ (fun pe σ3 h=>Zch (fun bx h=>hK _ _ h) h) h) h) h) h
 ·exact h.elim
end
end Go.PM
end

section
namespace Go.PM
abbrev Tbl:=List (Nat×ZA)
def ZC5:Tbl→Nat→List PV→St→(PEnd→St→Prop)→Prop
 | [],_,_,_,_=>False
 | (g,sp)::l,n,args,σ,K=>match Nat.beq g n with
  | true=>Zcf sp args σ K
  | false=>ZC5 l n args σ K
def TblOK (G:GE):Tbl→Prop
 | []=>True
 | (g,sp)::l=>(PCalls G g sp∧Zc sp)∧TblOK G l
theorem TblOK.sem {G:GE}:∀{l:Tbl},TblOK G l→Zjk G (ZC5 l)
 | [],_=>fun _ _ _ _ h=>h.elim
 | (g,sp)::l,⟨⟨h1,_⟩,h2⟩=>fun n args σ K h=>by
  simp only [ZC5] at h
  split at h
  ·rename_i hb
   cases Tn hb
   exact Zbs h1 h
  ·exact TblOK.sem h2 n args σ K h
theorem TblOK.mono {G:GE}:∀{l:Tbl},TblOK G l→∀n args σ (K K':PEnd→St→Prop),(∀e σ,K e σ→K' e σ)→ZC5 l n args σ K→ZC5 l n args σ K'
 | [],_=>fun _ _ _ _ _ _ h=>h.elim
 | (g,sp)::l,⟨⟨_,h1⟩,h2⟩=>fun n args σ K K' hK h=>by
  simp only [ZC5] at h ⊢
  split at h
  ·exact ZcT h1 _ _ _ _ hK h
  ·exact TblOK.mono h2 n args σ K K' hK h
def ZC6 (nl:Nat→Bool) (tbl:Tbl):Tbl→Nat→List PV→St→(PEnd→St→Prop)→Prop
 | [],_,_,_,_=>False
 | (g,sp)::l,n,args,σ,K=>match Nat.beq g n with
  | true=>match nl n with | true=>Zbr sp args σ K | false=>Zcf sp args σ K
  | false=>ZC6 nl tbl l n args σ K
theorem TblOK.semN {G:GE} {nl:Nat→Bool} {tbl:Tbl}:∀{l:Tbl},TblOK G l→Zjk G (ZC6 nl tbl l)
 | [],_=>fun _ _ _ _ h=>h.elim
 | (g,sp)::l,⟨⟨h1,_⟩,h2⟩=>fun n args σ K h=>by
  simp only [ZC6] at h
  split at h
  ·rename_i hb
   cases Tn hb
   split at h
   ·exact Zfd h1 h
   ·exact Zbs h1 h
  ·exact TblOK.semN h2 n args σ K h
theorem TblOK.monoN {G:GE} {nl:Nat→Bool} {tbl:Tbl}:∀{l:Tbl},TblOK G l→∀n args σ (K K':PEnd→St→Prop),(∀e σ,K e σ→K' e σ)→ZC6 nl tbl l n args σ K→ZC6 nl tbl l n args σ K'
 | [],_=>fun _ _ _ _ _ _ h=>h.elim
 | (g,sp)::l,⟨⟨_,h1⟩,h2⟩=>fun n args σ K K' hK h=>by
  simp only [ZC6] at h ⊢
  split at h
  ·split at h
   ·exact Zgk h1 _ _ _ _ hK h
   ·exact ZcT h1 _ _ _ _ hK h
  ·exact TblOK.monoN h2 n args σ K K' hK h
def Zn9:Value→List PV→St→(PEnd→St→Prop)→Prop:=fun _ _ _ _=>False
abbrev Raw:=Value→List PV→St→(PEnd→St→Prop)→Prop
abbrev Zmo:=FuncId→List PV→Raw→St→(PEnd→St→Prop)→Prop
def WN:Zmo:=fun _ _ _ _ _=>False
def Zxu:LoopAnn:=⟨[],[],fun _ _=>False,fun _ _=>0⟩
def Za:List (Nat×LoopAnn)→Nat→LoopAnn
 | [],_=>Zxu
 | (k,a)::l,n=>match Nat.beq k n with | true=>a | false=>Za l n
def ctx (T:Tab) (tbl:Tbl) (loops:Nat→LoopAnn):Cx:=⟨T,ZC5 tbl,Zn9,WN,loops,fun _=>0,fun _=>false,fun _=>false,true,fun _=>none⟩
def ZB3 (T:Tab) (tbl:Tbl) (it:Zmo) (loops:Nat→LoopAnn):Cx:=⟨T,ZC5 tbl,Zn9,it,loops,fun _=>0,fun _=>false,fun _=>false,true,fun _=>none⟩
def Zmp (T:Tab) (tbl:Tbl) (it:Zmo) (loops:Nat→LoopAnn) (unr:Nat→Nat) (ties:Nat→Bool):Cx:=⟨T,ZC5 tbl,Zn9,it,loops,unr,ties,fun _=>false,true,fun _=>none⟩
def ZB4 (T:Tab) (tbl:Tbl) (it:Zmo) (loops:Nat→LoopAnn) (unr:Nat→Nat) (ties:Nat→Bool) (bsl nl:Nat→Bool):Cx:=⟨T,ZC6 nl tbl tbl,Zn9,it,loops,unr,ties,bsl,true,fun _=>none⟩
def ZB5 (T:Tab) (tbl:Tbl) (loops:Nat→LoopAnn) (unr:Nat→Nat) (ties:Nat→Bool) (bsl nl:Nat→Bool) (cut:Nat→Option (List Nat×(List PV→St→Prop))):Cx:=⟨T,ZC6 nl tbl tbl,Zn9,WN,loops,unr,ties,bsl,true,cut⟩
def Zxv:List (Nat×List Nat×(List PV→St→Prop))→Nat→Option (List Nat×(List PV→St→Prop))
 | [],_=>none
 | (k,a)::l,n=>match Nat.beq k n with | true=>some a | false=>Zxv l n
def Vh:List Nat→Nat→Bool
 | [],_=>false
 | k::l,n=>match Nat.beq k n with | true=>true | false=>Vh l n
def ZaS:List (Nat×Nat)→Nat→Nat
 | [],_=>0
 | (k,a)::l,n=>match Nat.beq k n with | true=>a | false=>ZaS l n
def Zoa (T:Tab) (tbl:Tbl) (it:Zmo) (gid:FuncId) (fn:Func) (loops:Nat→LoopAnn):Zmo:=fun g args raw σ K=>match Nat.beq gid g with
 | true=>Nat.ble args.length fn.ntmps=true∧W ⟨T,ZC5 tbl,raw,it,loops,fun _=>0,fun _=>false,fun _=>false,true,fun _=>none⟩ (VD fn) (fun e f σ'=>match e with
   | .normal | .ret=>pres T f σ'.bx fn.results.toList fun vs=>K (.ret (Jn vs)) σ'
   | .panic v=>K (.panic v) σ'
   | _=>False) (Ze7 0 args) σ
 | false=>False
theorem Y9 {G:GE}:UP G WN:=fun _ _ _ _ _ h=>h.elim
theorem Zmq {G : GE} {T : Tab} {tbl : Tbl} (hT : TabOK T G.P) (hmix : G.P.follows .mixedOrders = true) (ht : TblOK G tbl) {it : Zmo} (hit : UP G it) {gid : FuncId} {fn : Func} {c : Code} (hf : G.P.funcs[gid]? = some fn) (hb : fn.body = some c) (hname : (fn.name == "runtime.NumGoroutine") = false)
  (hok:ZS fn.ntmps c=true) (loops:Nat→LoopAnn):UP G (Zoa T tbl it gid fn loops):=fun g args raw σ K h=>by
 unfold Zoa at h
 split at h
 ·rename_i hbq
  cases Tn hbq
  refine ⟨Zh hf hname hb,fun n e w vs hS hargs hraw=>?_⟩
  have hbo:VD fn=c:=by simp [VD,hb]
  rw [hbo] at h
  have presM:∀{T:Tab} {f:Frame} {bx:List Box} {l:List ResultVar} {K K':List PV→Prop},(∀vs,K vs→K' vs)→pres T f bx l K→pres T f bx l K':=by
   intro T f bx l
   induction l with
   | nil=>exact fun hK h=>hK _ h
   | cons r l ih =>
    intro K K' hK h
    exact m81
  refine Zd0 hmix (C:=⟨T,ZC5 tbl,raw,it,loops,fun _=>0,fun _=>false,fun _=>false,true,fun _=>none⟩) ⟨hT,ht.sem,hraw,hit,.inl rfl⟩ ⟨fun _ h1 h2=>hT.one h1 h2,ht.mono,fun _ _ _ _ h=>h.elim,rfl⟩ hf hb hok (Tb h.1) h.2 (fun pe f' σ' hq=>?_) hS hargs
  cases pe with
  | normal=>exact presM (fun vs hK e' w' v h1 h2 h3=>⟨.ret (Jn vs),σ',e',hK,⟨v,rfl,h2⟩,h1,h3⟩) hq
  | ret=>exact presM (fun vs hK e' w' v h1 h2 h3=>⟨.ret (Jn vs),σ',e',hK,⟨v,rfl,h2⟩,h1,h3⟩) hq
  | panic p=>exact fun e' w' v h1 h2 h3=>⟨.panic p,_,e',hq,⟨v,rfl,h2⟩,h1,h3⟩
  | exit id=>exact hq.elim
  | goto l=>exact hq.elim
 ·exact h.elim
theorem Zob {G : GE} {T : Tab} {tbl : Tbl} (hT : TabOK T G.P) (hmix : G.P.follows .mixedOrders = true) (ht : TblOK G tbl) {it : Zmo} (hit : UP G it) {g : FuncId} {fn : Func} {c : Code} (hf : G.P.funcs[g]? = some fn) (hb : fn.body = some c) (hname : (fn.name == "runtime.NumGoroutine") = false)
  (hok:ZS fn.ntmps c=true) {sp:ZA}
  (h:∀args σ K,sp args σ K→∃loops keep own,σ.bx.length≤keep∧args.length≤fn.ntmps∧WF (ZB3 T tbl it loops) fn keep own args σ K):PCalls G g sp where
 enters:=Zh hf hname hb
 calls:=fun args σ K hs n e w vs hS ha=>by
  obtain ⟨loops,keep,own,h1,h2,h3⟩:=h args σ K hs
  exact VJ hmix (C:=ZB3 T tbl it loops) ⟨hT,ht.sem,fun _ _ _ _ h=>h.elim,hit,.inl rfl⟩ ⟨fun _ h1 h2=>hT.one h1 h2,ht.mono,fun _ _ _ _ h=>h.elim,rfl⟩ hf hb hok h1 h2 h3 hS ha
theorem Zoc {G : GE} {T : Tab} {tbl : Tbl} (hT : TabOK T G.P) (hmix : G.P.follows .mixedOrders = true) (ht : TblOK G tbl) {it : Zmo} (hit : UP G it) {g : FuncId} {fn : Func} {c : Code} (hf : G.P.funcs[g]? = some fn) (hb : fn.body = some c) (hname : (fn.name == "runtime.NumGoroutine") = false)
  (hok:ZS fn.ntmps c=true) {sp:ZA}
  (h:∀args σ K,sp args σ K→∃loops unr ties keep own,σ.bx.length≤keep∧args.length≤fn.ntmps∧WF (Zmp T tbl it loops unr ties) fn keep own args σ K):PCalls G g sp where
 enters:=Zh hf hname hb
 calls:=fun args σ K hs n e w vs hS ha=>by
  obtain ⟨loops,unr,ties,keep,own,h1,h2,h3⟩:=h args σ K hs
  exact VJ hmix (C:=Zmp T tbl it loops unr ties) ⟨hT,ht.sem,fun _ _ _ _ h=>h.elim,hit,.inl rfl⟩ ⟨fun _ h1 h2=>hT.one h1 h2,ht.mono,fun _ _ _ _ h=>h.elim,rfl⟩ hf hb hok h1 h2 h3 hS ha
theorem ZjA {G : GE} {T : Tab} {tbl : Tbl} (hT : TabOK T G.P) (hmix : G.P.follows .mixedOrders = true) (ht : TblOK G tbl) {g : FuncId} {fn : Func} {c : Code} (hf : G.P.funcs[g]? = some fn) (hb : fn.body = some c) (hname : (fn.name == "runtime.NumGoroutine") = false)
  (hok:ZS fn.ntmps c=true) {sp:ZA}
  (h:∀args σ K,sp args σ K→∃loops unr ties bsl nl keep own,σ.bx.length≤keep∧args.length≤fn.ntmps∧WF (ZB4 T tbl WN loops unr ties bsl nl) fn keep own args σ K):PCalls G g sp where
 enters:=Zh hf hname hb
 calls:=fun args σ K hs n e w vs hS ha=>by
  obtain ⟨loops,unr,ties,bsl,nl,keep,own,h1,h2,h3⟩:=h args σ K hs
  exact VJ hmix (C:=ZB4 T tbl WN loops unr ties bsl nl) ⟨hT,ht.semN,fun _ _ _ _ h=>h.elim,Y9,.inl rfl⟩ ⟨fun _ h1 h2=>hT.one h1 h2,ht.monoN,fun _ _ _ _ h=>h.elim,rfl⟩ hf hb hok h1 h2 h3 hS ha
theorem Ztv {G : GE} {T : Tab} {tbl : Tbl} (hT : TabOK T G.P) (hmix : G.P.follows .mixedOrders = true) (ht : TblOK G tbl) {g : FuncId} {fn : Func} {c : Code} (hf : G.P.funcs[g]? = some fn) (hb : fn.body = some c) (hname : (fn.name == "runtime.NumGoroutine") = false)
  (hok:ZS fn.ntmps c=true) {sp:ZA}
  (h:∀args σ K,sp args σ K→∃loops unr ties bsl nl cut keep own,σ.bx.length≤keep∧args.length≤fn.ntmps∧WF (ZB5 T tbl loops unr ties bsl nl cut) fn keep own args σ K):PCalls G g sp where
 enters:=Zh hf hname hb
 calls:=fun args σ K hs n e w vs hS ha=>by
  obtain ⟨loops,unr,ties,bsl,nl,cut,keep,own,h1,h2,h3⟩:=h args σ K hs
  exact VJ hmix (C:=ZB5 T tbl loops unr ties bsl nl cut) ⟨hT,ht.semN,fun _ _ _ _ h=>h.elim,Y9,.inl rfl⟩ ⟨fun _ h1 h2=>hT.one h1 h2,ht.monoN,fun _ _ _ _ h=>h.elim,rfl⟩ hf hb hok h1 h2 h3 hS ha
theorem Zgl {G : GE} {T : Tab} {tbl : Tbl} (hT : TabOK T G.P) (hmix : G.P.follows .mixedOrders = true) (ht : TblOK G tbl) {g : FuncId} {fn : Func} {c : Code} (hf : G.P.funcs[g]? = some fn) (hb : fn.body = some c) (hname : (fn.name == "runtime.NumGoroutine") = false)
  (hok:ZS fn.ntmps c=true) {sp:ZA}
  (h:∀args σ K,sp args σ K→∃loops unr ties keep own,σ.bx.length≤keep∧args.length≤fn.ntmps∧WF (Zmp T tbl WN loops unr ties) fn keep own args σ K):PCalls G g sp :=
 Zoc hT hmix ht Y9 hf hb hname hok h
theorem ZhI {G : GE} {T : Tab} {tbl : Tbl} (hT : TabOK T G.P) (hmix : G.P.follows .mixedOrders = true) (ht : TblOK G tbl) {g : FuncId} {fn : Func} {c : Code} (hf : G.P.funcs[g]? = some fn) (hb : fn.body = some c) (hname : (fn.name == "runtime.NumGoroutine") = false)
  (hok:ZS fn.ntmps c=true) {sp:ZA}
  (h:∀args σ K,sp args σ K→∃loops keep own,σ.bx.length≤keep∧args.length≤fn.ntmps∧WF (ctx T tbl loops) fn keep own args σ K):PCalls G g sp :=
 Zob hT hmix ht Y9 hf hb hname hok h
theorem ZCX {p:Prop} [Decidable p] {X Y:Prop} (h1:p→X) (h2:¬p→Y):CondP (decide p) X Y:=by
 by_cases h:p
 ·simp only [h,decide_true];exact h1 h
 ·simp only [h,decide_false];exact h2 h
theorem ZCY {p:Prop} [Decidable p] {X Y:Prop} (h1:¬p→X) (h2:p→Y):CondP (!decide p) X Y:=by
 by_cases h:p
 ·simp only [h,decide_true];exact h2 h
 ·simp only [h,decide_false];exact h1 h
theorem InR.i64 {n:Int} (h1:-9223372036854775808≤n) (h2:n≤9223372036854775807):InR .i64 n:=by
 unfold InR IntKind.wrap
 simp only [show IntKind.i64.bits=64 from rfl,show IntKind.i64.signed=true from rfl,Tu]
 split <;> simp at * <;> omega
theorem InR.i32 {n:Int} (h1:-2147483648≤n) (h2:n≤2147483647):InR .i32 n:=by
 unfold InR IntKind.wrap
 simp only [show IntKind.i32.bits=32 from rfl,show IntKind.i32.signed=true from rfl,Tu]
 split <;> simp at * <;> omega
theorem InR.u8 {n:Int} (h1:0≤n) (h2:n≤255):InR .u8 n:=by
 unfold InR IntKind.wrap
 simp only [show IntKind.u8.bits=8 from rfl,show IntKind.u8.signed=false from rfl,Tx]
 simp;omega
theorem InR.u32 {n:Int} (h1:0≤n) (h2:n≤4294967295):InR .u32 n:=by
 unfold InR IntKind.wrap
 simp only [show IntKind.u32.bits=32 from rfl,show IntKind.u32.signed=false from rfl,Tx]
 simp;omega
theorem InR.u64 {n:Int} (h1:0≤n) (h2:n≤18446744073709551615):InR .u64 n:=by
 unfold InR IntKind.wrap
 simp only [show IntKind.u64.bits=64 from rfl,show IntKind.u64.signed=false from rfl,Tx]
 simp;omega
theorem oiO {n:Int} {K X:Prop} (q:K) (h1:-9223372036854775808≤n:=by omega) (h2:n≤9223372036854775807:=by omega):InR .i64 n∧K∨X:=.inl ⟨InR.i64 h1 h2,q⟩
theorem oiD {n:Int} {K X:Prop} (q:K) (h1:-9223372036854775808≤n:=by decide) (h2:n≤9223372036854775807:=by decide):InR .i64 n∧K∨X:=.inl ⟨InR.i64 h1 h2,q⟩
theorem oiB {n:Int} {K X:Prop} (q:K) (h1:0≤n:=by omega) (h2:n≤255:=by omega):InR .u8 n∧K∨X:=.inl ⟨InR.u8 h1 h2,q⟩
theorem oiU {n:Int} {K X:Prop} (q:K) (h1:0≤n:=by omega) (h2:n≤18446744073709551615:=by omega):InR .u64 n∧K∨X:=.inl ⟨InR.u64 h1 h2,q⟩
theorem ZqG {K:PEnd→St→Prop} {p p':PEnd} {σ σ':St} (h:K p σ) (h1:p=p') (h2:σ=σ'):K p' σ':=by subst h1;subst h2;exact h
end Go.PM
end

section
namespace Go.PM
structure PDef (G:GE) (g:FuncId) (spR:List PV→St→(St→Prop)→Prop) (spP:PV→List PV→St→(St→Prop)→Prop):Prop where
 enters:Ve G.P g
 ret:∀args σ K,spR args σ K→∀(n:Nat) (e:Env) (w:World) (vs:Array Value),SRel G e σ w→ArgsRel G e σ w args vs →
  CallsDIn (fw none) n G.P g vs .returning w fun en u' w'=>u'=.returning∧(∃r,en=.returned r)∧∃σ' e',K σ'∧SRel G e' σ' w'∧Later e σ w e' σ' w'
 pan:∀pv args σ K,spP pv args σ K→∀(n:Nat) (e:Env) (w:World) (vs:Array Value) (v:Value),SRel G e σ w→ArgsRel G e σ w args vs→VRel G e σ w pv v →
  CallsDIn (fw none) n G.P g vs (.panicking [{ v:=v,recovered:=false }]) w fun en u' w'=>u'=.panicking [{ v:=v,recovered:=true }]∧(∃r,en=.returned r)∧∃σ' e',K σ'∧SRel G e' σ' w'∧Later e σ w e' σ' w'
def ZAK (c:Code):Option (Nat×Nat×Code):=match c with
 | .seq (.region _ ops false) rest=>match ops.toList with
  | [o1,o2]=>match o1.op,o1.dst,o1.guard,o2.op,o2.dst,o2.guard with
   | .call { callee:=.builtin .recover,args,.. },some a,none,.assign (.tmp a'),some b,none=>match args.toList,Nat.beq a a' with
    | [],true=>some (a,b,rest)
    | _,_=>none
   | _,_,_,_,_,_=>none
  | _=>none
 | _=>none
theorem Zov {c:Code} {a b:Nat} {rest:Code} (h:ZAK c=some (a,b,rest)):∃id ops o1 o2 at',c=.seq (.region id ops false) rest∧ops=#[o1,o2]∧o1.op=.call { callee:=.builtin .recover,args:=#[],argTypes:=at' }∧o1.dst=some a∧o1.guard=none∧o2.op=.assign (.tmp a)∧o2.dst=some b∧o2.guard=none:=by
 unfold ZAK at h
 split at h
 ·rename_i id ops rest'
  split at h
  ·rename_i o1 o2 hops
   split at h
   ·rename_i args at' a1 a2 b1 h1 h2 h3 h4 h5 h6
    split at h
    ·rename_i h7 h8
     cases h
     have:=Tn h8
     subst this
     have ha:args=#[]:=by apply Array.ext';simpa using h7
     subst ha
     exact ⟨id,ops,o1,o2,at',rfl,by apply Array.ext';simpa using hops,h1,h2,h3,h4,h5,h6⟩
    ·cases h
   ·cases h
  ·cases h
 ·cases h
section
variable {G:GE}
def ZxK (T:Tab) (fn:Func) (keep:Nat) (K:St→Prop):PQ:=fun e f σ=>match e with
 | .normal | .ret=>pres T f σ.bx fn.results.toList fun vs=>ZaG keep false (Jn vs) σ fun _ σ'=>K σ'
 | _=>False
theorem ZtO {T : Tab} {tbl : Tbl} (hT : TabOK T G.P) (hmix : G.P.follows .mixedOrders = true) (ht : TblOK G tbl) {g : FuncId} {fn : Func} {c : Code} (hf : G.P.funcs[g]? = some fn) (hb : fn.body = some c) (hname : (fn.name == "runtime.NumGoroutine") = false)
  {a b:Nat} {rest:Code} (hrec:ZAK c=some (a,b,rest)) (hok:ZS fn.ntmps c=true) {spR:List PV→St→(St→Prop)→Prop} {spP:PV→List PV→St→(St→Prop)→Prop}
  (hr:∀args σ K,spR args σ K→∃loops keep,σ.bx.length≤keep∧args.length≤fn.ntmps∧W (ctx T tbl loops) rest (ZxK T fn keep K) (Zaj (Zaj (Ze7 0 args) a (.d .nili)) b (.d .nili)) σ)
  (hp:∀pv args σ K,spP pv args σ K→∃loops keep,σ.bx.length≤keep∧args.length≤fn.ntmps∧W (ctx T tbl loops) rest (ZxK T fn keep K) (Zaj (Zaj (Ze7 0 args) a pv) b pv) σ):PDef G g spR spP:=by
 obtain ⟨id,ops,o1,o2,at',rfl,rfl,q1,q2,q3,q4,q5,q6⟩:=Zov hrec
 simp only [ZS,Tk,Zn7,q2,q5] at hok
 have ha:a<fn.ntmps:=by have:=Tb hok.1.1.1;omega
 have hbN:b<fn.ntmps:=by have:=Tb hok.1.1.2.1;omega
 have walk:∀(pv:PV) (v:Value) (u u':FrameMode) (args:List PV) (σ:St) (K:St→Prop) (loops:Nat→LoopAnn) (keep:Nat),σ.bx.length≤keep→args.length≤fn.ntmps→W (ctx T tbl loops) rest (ZxK T fn keep K) (Zaj (Zaj (Ze7 0 args) a pv) b pv) σ →
   (∀(c₀:Go.Frame) (cs:List Go.Frame),c₀.mode=u→match recoverD (c₀::cs) with | some (x,cs')=>x=v∧cs'={ c₀ with mode:=u' }::cs | none=>v=.nilIface∧u'=u) →
   ∀(n:Nat) (e:Env) (w:World) (vs:Array Value),SRel G e σ w→ArgsRel G e σ w args vs→VRel G e σ w pv v →
   CallsDIn (fw none) n G.P g vs u w fun en u2 w'=>u2=u'∧(∃r,en=.returned r)∧∃σ' e',K σ'∧SRel G e' σ' w'∧Later e σ w e' σ' w':=by
  intro pv v u u' args σ K loops keep hk hlen hW hrc n e w vs hS hargs hv
  refine callsDIn_of_wpSIn hf hb trivial fun c₀ cs hu=>?_
  have hsz:vs.size=args.length:=hargs.1
  have hF:FRel G e σ w (Ze7 0 args) (vs++Array.replicate (fn.ntmps - vs.size) undef):=J5 args 0 fun k x hx=>by
   exact m34
  refine wpSIn_seq (wpSIn_region ?_)
  let A0:Act:={ tmps:=vs++Array.replicate (fn.ntmps - vs.size) undef,defers:=[] }
  have hA0:A0.tmps.size=fn.ntmps:=by simp [A0];omega
  have s0:(#[o1,o2]:Array Oper)[0]?=some o1:=rfl
  have s1:(#[o1,o2]:Array Oper)[1]?=some o2:=rfl
  have w1:∀t,Region.wanted o1 (yielded #[o1,o2] t)=true:=fun t=>by simp [Region.wanted,q3]
  have w2:∀t,Region.wanted o2 (yielded #[o1,o2] t)=true:=fun t=>by simp [Region.wanted,q6]
  have x1:∀A:Act,(execOp A.eval o1).run G.P w=.ok .recover w:=fun A=>by
   unfold execOp
   simp only [q1,resolve,Sem.run_bind,Sem.run_pure,Result.andThen,invoke,builtin]
  have x2:∀A:Act,(execOp A.eval o2).run G.P w=.ok (.value (A.eval (.tmp a))) w:=fun A=>by
   unfold execOp
   simp only [q4,Sem.run_pure]
  have y2:(A0.put (some a) v).eval (.tmp a)=v:=by
   simp [Act.put,Act.eval,T4,hA0,ha]
  have tail:rest.wpSIn (fw none) n G.P (bodyPostS G.P fn c₀ cs fun en u2 w'=>u2=u'∧(∃r,en=.returned r)∧∃σ' e',K σ'∧SRel G e' σ' w'∧Later e σ w e' σ' w') ((A0.put (some a) v).put (some b) v) ({ c₀ with mode:=u' }::cs) w:=by
   have hF1:FRel G e σ w (Zaj (Ze7 0 args) a pv) (A0.put (some a) v).tmps:=FRel.put (a:=A0) (d:=some a) hF hv (fun i hi=>by cases hi;rw [hA0];exact ha)
   have hF2:FRel G e σ w (Zaj (Zaj (Ze7 0 args) a pv) b pv) ((A0.put (some a) v).put (some b) v).tmps:=FRel.put (a:=A0.put (some a) v) (d:=some b) hF1 hv (fun i hi=>by cases hi;rw [Xg,hA0];exact hbN)
   refine wpSIn_of_wpIn rfl (wpIn_mono (Jt (n:=n) (ro:=none) (ds:=(w.heap.size,[],true)) hmix rest (C:=ctx T tbl loops) ⟨hT,ht.sem,fun _ _ _ _ h=>h.elim,Y9,.inl rfl⟩ ⟨fun _ h1 h2=>hT.one h1 h2,ht.mono,fun _ _ _ _ h=>h.elim,rfl⟩ (fun _ _ _ _ _ _ h=>h) hok.2 [] #[] (YM _) _
    (a:=(A0.put (some a) v).put (some b) v) hS hF2 (Later.refl e σ w) (by rw [Xg,Xg,hA0]) (by rw [Wq,Wq];exact Marks.nil e σ (Tt _)) (fun i hi=>by cases hi) hW) fun x a' w' hp=>?_)
   obtain ⟨pe,f',e',σ',hq,hx,h1,h2,h3,h4,⟨_,rs,h5,h5f,_⟩,h6⟩:=hp
   have hd0:a'.defers=[]:=by rw [h5,h5f rfl];rfl
   have done:(pres T f' σ'.bx fn.results.toList fun vs=>ZaG keep false (Jn vs) σ' fun _ σ''=>K σ'')→∃r,(results fn a'.tmps).run G.P w'=.ok r w'∧u'=u'∧(∃r',Ending.returned r=.returned r')∧∃σ' e',K σ'∧SRel G e' σ' w'∧Later e σ w e' σ' w':=fun hl=>by
    obtain ⟨pvs,r,hlv,hr,hvr⟩:=X7 (C:=ctx T tbl loops) hT h1 h2 hl
    exact m142
   cases pe with
   | normal=>obtain rfl:x=.normal:=hx;obtain ⟨r,hr,hR⟩:=done hq;exact ⟨hd0,u',rfl,r,hr,hR⟩
   | ret=>obtain rfl:x=.ret:=hx;obtain ⟨r,hr,hR⟩:=done hq;exact ⟨hd0,u',rfl,r,hr,hR⟩
   | exit id=>exact hq.elim
   | goto l=>exact hq.elim
   | panic p=>exact hq.elim
  show wpOpsSIn (fw none) n G.P #[o1,o2] _ [0,1] A0 (c₀::cs) w
  simp only [wpOpsSIn,s0,s1,w1,w2,if_true,x1,x2,q2,q5]
  refine ⟨fun _ _=>trivial,?_⟩
  have hh:=hrc c₀ cs hu
  cases hrd:recoverD (c₀::cs) with
  | none =>
   rw [hrd] at hh
   obtain ⟨rfl,rfl⟩:=hh
   have hc0:({ c₀ with mode:=u' }:Go.Frame)=c₀:=by subst hu;rfl
   rw [hc0] at tail
   simp only [y2]
   exact ⟨fun _ _=>trivial,tail⟩
  | some p =>
   obtain ⟨x,cs'⟩:=p
   rw [hrd] at hh
   obtain ⟨rfl,rfl⟩:=hh
   simp only [y2]
   exact ⟨fun _ _=>trivial,tail⟩
 refine ⟨Zh hf hname hb,fun args σ K hs n e w vs hS hargs=>?_,fun pv args σ K hs n e w vs v hS hargs hv=>?_⟩
 ·obtain ⟨loops,keep,h1,h2,h3⟩:=hr args σ K hs
  exact walk (.d .nili) .nilIface .returning .returning args σ K loops keep h1 h2 h3 (fun c₀ cs hu=>by simp [recoverD,hu]) n e w vs hS hargs (.d _ _ .nili)
 ·obtain ⟨loops,keep,h1,h2,h3⟩:=hp pv args σ K hs
  exact walk pv v _ _ args σ K loops keep h1 h2 h3 (fun c₀ cs hu=>by simp [recoverD,hu]) n e w vs hS hargs hv
end
def ZbB:List Oper→Option (List Oper×Oper)
 | []=>none
 | [o]=>some ([],o)
 | o::p::l=>match ZbB (p::l) with | some (a,b)=>some (o::a,b) | none=>none
theorem VZ:∀{l:List Oper} {i:List Oper} {o:Oper},ZbB l=some (i,o)→l=i++[o]
 | [],i,o,h=>by cases h
 | [x],i,o,h=>by cases h;rfl
 | x::p::l,i,o,h=>by
  simp only [ZbB] at h
  split at h
  ·rename_i a b hs
   cases h
   rw [VZ hs];rfl
  ·cases h
def Zef (o:Oper):Option (Operand×List Operand):=match o.op,o.guard,o.dst with
 | .defer { callee:=.value x,args,.. },none,none=>some (x,args.toList)
 | _,_,_=>none
theorem Zaw {o:Oper} {x:Operand} {args:List Operand} (h:Zef o=some (x,args)):∃as at',o.op=.defer { callee:=.value x,args:=as,argTypes:=at' }∧as.toList=args∧o.guard=none∧o.dst=none:=by
 unfold Zef at h
 split at h
 ·rename_i x' as at' h1 h2 h3;cases h;exact ⟨as,at',h1,rfl,h2,h3⟩
 ·cases h
def Zeg (c:Code):Option (List Oper×List Oper×Operand×List Operand):=match c with
 | .region _ ops false=>match ZbB ops.toList with
  | some (init,last)=>match Zef last with
   | some (x,args)=>some (ops.toList,init,x,args)
   | none=>none
  | none=>none
 | _=>none
def WD (C:Cx) (g0:FuncId) (Q0:PQ) (Q1:List PV→PQ):Code→Frame→St→Prop
 | .seq a b,f,σ=>match Zeg a with
  | some (all,init,x,args)=>ZsA C all (fun e f σ=>match e with
    | .normal=>(match ev f x with
     | .func g first caps=>(match Nat.beq g g0 with
      | true=>W C b (Q1 (XY (first++args.map (ev f)++caps))) f σ
      | false=>False)
     | _=>False)
    | e=>Q0 e f σ) init f σ
  | none=>W C a (fun e f σ=>match e with | .normal=>WD C g0 Q0 Q1 b f σ | e=>Q0 e f σ) f σ
 | c,f,σ=>W C c Q0 f σ
section
variable {G:GE} {C:Cx} {e0:Env} {σ0:St} {w0:World} {n N:Nat} {ds:Nat×List Deferred×Bool} {Z:Array Value→Prop} {Q:PQ}
theorem ZaY (hC:CxOK G C none e0 σ0 w0) {ops:Array Oper} {rest:List Nat} {QQ:Exit→Act→World→Prop} (hd:∀o,o∈ops→∀d,o.dst=some d→d<N∧∀t v,Z t→Z (t.setIfInBounds d v))
  (hQQ:∀x a w,x≠.normal→Yg G e0 σ0 w0 ds N Z Q x a w→QQ x a w) (hend:∀a w,Yg G e0 σ0 w0 ds N Z Q .normal a w→wpOpsIn (fw none) n G.P ops QQ rest a w) :
  ∀(l:List Oper) (k:Nat),(∀j,j<l.length→l[j]?=ops[k+j]?)→∀{e:Env} {σ:St} {w:World} {a:Act} {f:Frame},
  SRel G e σ w→FRel G e σ w f a.tmps→Later e0 σ0 w0 e σ w→a.tmps.size=N→Marks ds e σ w a.defers→Z a.tmps→ZsA C ops.toList Q l f σ→wpOpsIn (fw none) n G.P ops QQ (List.range' k l.length++rest) a w
 | [],k,_,e,σ,w,a,f,hS,hF,hL,hN,hds,hZ,h=>hend a w ⟨.normal,f,e,σ,h,rfl,hS,hF,hL,hN,hds,hZ⟩
 | o::l,k,hl,e,σ,w,a,f,hS,hF,hL,hN,hds,hZ,h=>by
  have h0:ops[k]?=some o:=by simpa using (hl 0 (by simp)).symm
  have hstep:=ZcN (ro:=none) (n:=n) hC hS hF hL hN hds hZ (ops:=ops) (hd o (Se h0)) h
  have next:∀a' w',KRel G e0 σ0 w0 ds N Z (ZsA C ops.toList Q l) a' w'→wpOpsIn (fw none) n G.P ops QQ (List.range' (k+1) l.length++rest) a' w':=fun a' w' ⟨f',e',σ',h1,h2,h3,h4,h5,h6,h7⟩ =>
   ZaY hC hd hQQ hend l (k+1) (fun j hj=>by have:=hl (j+1) (by simp;omega);simpa [Sk,Nat.add_comm 1 j] using this) h2 h3 h4 h5 h6 h7 h1
  rw [Tc,List.range'_succ,Tm]
  simp only [wpOpsIn,h0]
  split at hstep
  ·rename_i hw
   rw [Th hw]
   exact ZC9 hQQ (Oper.wpIn_mono next hstep)
  ·rename_i hw
   rw [Tf hw]
   exact ⟨fun _ _=>trivial,next _ _ hstep⟩
def ZV (g0:FuncId) (va vc:Array Value):Deferred:={ target:=.fn (.func g0) vc,args:=va }
def Zmw (G:GE) (g0:FuncId) (e0:Env) (σ0:St) (w0:World) (N:Nat) (Q0:PQ) (Q1:List PV→PQ):Exit→Act→World→Prop:=fun x a w =>
 Yg G e0 σ0 w0 (0,[],true) N (Kept [] #[]) Q0 x a w ∨
 ∃fa va vc e1 σ1 w1,Later e0 σ0 w0 e1 σ1 w1∧ArgsRel G e1 σ1 w1 fa (va++vc)∧Yg G e1 σ1 w1 (0,[ZV g0 va vc],true) N (Kept [] #[]) (Q1 (XY fa)) x a w
theorem Zrb {g0:FuncId} {Q0:PQ} {Q1:List PV→PQ} (hmix:G.P.follows .mixedOrders=true) (hC:∀e σ w,CxOK G C none e σ w) (hM:CxMono C.calm) (hI:∀g args raw σ K,¬C.iter g args raw σ K) :
  ∀(c:Code),ZS N c=true→∀{e:Env} {σ:St} {w:World} {a:Act} {f:Frame},SRel G e σ w→FRel G e σ w f a.tmps→Later e0 σ0 w0 e σ w→a.tmps.size=N→a.defers=[]→WD C g0 Q0 Q1 c f σ →
   c.wpIn (fw none) n G.P (Zmw G g0 e0 σ0 w0 N Q0 Q1) a w:=by
 have plain:∀(c:Code),ZS N c=true→∀{e:Env} {σ:St} {w:World} {a:Act} {f:Frame},SRel G e σ w→FRel G e σ w f a.tmps→Later e0 σ0 w0 e σ w→a.tmps.size=N→a.defers=[]→W C c Q0 f σ→c.wpIn (fw none) n G.P (Zmw G g0 e0 σ0 w0 N Q0 Q1) a w :=
  fun c hok {e σ w a f} hS hF hL hN hd h=>wpIn_mono (Jt (n:=n) (ro:=none) (ds:=(0,[],true)) hmix c (hC _ _ _) hM (fun _=>hI) hok [] #[] (YM _) _ hS hF hL hN (by rw [hd];exact Marks.nil e σ (T7 _)) (fun i hi=>by cases hi) h) fun x a w hp=>.inl hp
 intro c
 induction c with
 | seq c1 c2 ih1 ih2 =>
  intro hok e σ w a f hS hF hL hN hd h
  have hok':=hok
  simp only [ZS,Tk] at hok'
  have hM0:Marks (0,[],true) e σ w a.defers:=by rw [hd];exact Marks.nil e σ (T7 _)
  simp only [WD] at h
  split at h
  ·rename_i all init x args hdi
   unfold Zeg at hdi
   split at hdi
   ·rename_i id ops
    split at hdi
    ·rename_i init' last hsl
     split at hdi
     ·rename_i x' args' hdc
      cases hdi
      have hops:=VZ hsl
      obtain ⟨as,at',hop,has,hg,hdst⟩:=Zaw hdc
      have hsize:ops.size=init.length+1:=by rw [← Sm,hops];simp
      have hlast:ops[init.length]?=some last:=by rw [← TB,hops];simp
      have hopsOK:=hok'.1
      simp only [ZS,Tk] at hopsOK
      have hd2:∀o,o∈ops→∀d,o.dst=some d→d<N∧∀t v,Kept [] #[] t→Kept [] #[] (t.setIfInBounds d v):=fun o ho d hdd=>⟨J4 hopsOK.1 o (TQ.1 ho) d hdd,fun t v _ i hi=>by cases hi⟩
      refine wpIn_seq (wpIn_region ?_)
      rw [show List.range ops.size=List.range' 0 init.length++[init.length] from by rw [hsize,List.range_succ,List.range_eq_range']]
      refine ZaY (N:=N) (Z:=Kept [] #[]) (ds:=(0,[],true)) (hC e0 σ0 w0) hd2 (fun x a w hx hp=>?_) (fun a1 w1 hp=>?_) init 0 (fun j hj=>?_) hS hF hL hN hM0 (fun i hi=>by cases hi) h
      ·exact m84
      ·obtain ⟨pe,f',e',σ',hq,hxr,h1,h2,h3,h4,⟨_,rs,h5,h5f,_⟩,h6⟩:=hp
       cases pe with
       | normal =>
        simp only at hq
        have hv:=Zam h2 x
        split at hq
        ·rename_i g first caps heq
         split at hq
         ·rename_i hgb
          cases Tn hgb
          rw [heq] at hv
          generalize hgv:a1.eval x=v at hv
          cases hv with
          | func _ _ _ va vc ha hc k1 k2 =>
           have hd0:a1.defers=[]:=by rw [h5,h5f rfl];rfl
           have hargs:ArgsRel G e' σ' w1 (first++args.map (ev f')++caps) (va++as.map a1.eval++vc):=by
            exact m108
           have hw:Region.wanted last (yielded ops a1.tmps)=true:=by simp [Region.wanted,hg]
           simp only [wpOpsIn,hlast,hw,if_true]
           have hrun:(execOp a1.eval last).run G.P w1=.ok (.defer (ZV g0 (va++as.map a1.eval) vc)) w1:=by
            exact m149
           refine ⟨fun _ _=>trivial,?_⟩
           rw [show (fw none).round=none from rfl,Oper.semAt_none,hrun,Oper.uponIn_defer]
           rw [hdst]
           show c2.wpIn (fw none) n G.P (Zmw G g0 e0 σ0 w0 N Q0 Q1) { a1 with defers:=ZV g0 (va++as.map a1.eval) vc::a1.defers } w1
           rw [hd0]
           refine wpIn_mono (Jt (n:=n) (ro:=none) (ds:=(0,[ZV g0 (va++as.map a1.eval) vc],true)) hmix c2 (hC e' σ' w1) hM (fun _=>hI) hok'.2 [] #[] (YM _) _ (a:={ a1 with defers:=[ZV g0 (va++as.map a1.eval) vc] }) h1 h2 (Later.refl _ _ _) h4
            ⟨T7 _,[],rfl,fun _=>rfl,List.nodup_nil,fun r h=>by cases h⟩ (fun i hi=>by cases hi) hq) fun x a w hp=>.inr ⟨_,_,_,e',σ',w1,h3,hargs,hp⟩
         ·exact hq.elim
        ·exact hq.elim
       | exit id=>cases hxr
       | goto l=>cases hxr
       | ret=>cases hxr
       | panic p=>obtain ⟨_,hxr,_⟩:=hxr;cases hxr
      ·rw [← TB,hops,So,TH hj]
     ·cases hdi
    ·cases hdi
   ·cases hdi
  ·refine wpIn_seq (wpIn_mono (Jt (n:=n) (ro:=none) (ds:=(0,[],true)) hmix c1 (hC _ _ _) hM (fun _=>hI) hok'.1 [] #[] (YM _) _ hS hF hL hN hM0 (fun i hi=>by cases hi) h) fun x a1 w1 hp=>?_)
   obtain ⟨pe,f',e',σ',hq,hxr,h1,h2,h3,h4,h5,h6⟩:=hp
   cases pe with
   | normal =>
    obtain rfl:x=.normal:=hxr
    obtain ⟨_,rs,h5,h5f,_⟩:=h5
    exact ih2 hok'.2 h1 h2 h3 h4 (by rw [h5,h5f rfl];rfl) hq
   | exit id=>obtain rfl:x=.exit id:=hxr;exact .inl ⟨.exit id,f',e',σ',hq,rfl,h1,h2,h3,h4,h5,h6⟩
   | goto l=>obtain rfl:x=.goto l:=hxr;exact .inl ⟨.goto l,f',e',σ',hq,rfl,h1,h2,h3,h4,h5,h6⟩
   | ret=>obtain rfl:x=.ret:=hxr;exact .inl ⟨.ret,f',e',σ',hq,rfl,h1,h2,h3,h4,h5,h6⟩
   | panic p=>obtain ⟨v,rfl,hv⟩:=hxr;exact .inl ⟨.panic p,f',e',σ',hq,⟨v,rfl,hv⟩,h1,h2,h3,h4,h5,h6⟩
 | _=>intro hok e σ w a f hS hF hL hN hd h;exact plain _ hok hS hF hL hN hd h
end
def ZtP (T:Tab) (fn:Func) (keep:Nat) (own:Bool) (spR:List PV→St→(St→Prop)→Prop) (spP:PV→List PV→St→(St→Prop)→Prop) (R:PEnd→St→Prop) (fa:List PV):PQ:=fun e f σ=>match e with
 | .normal | .ret=>spR fa σ fun σ2=>pres T (Ja f) σ2.bx fn.results.toList fun vs=>ZaG keep own (Jn vs) σ2 fun v σ'=>R (.ret v) σ'
 | .panic pv=>spP pv fa σ fun σ2=>pres T (Ja f) σ2.bx fn.results.toList fun vs=>ZaG keep own (Jn vs) σ2 fun v σ'=>R (.ret v) σ'
 | _=>False
theorem ArgsRel.clean {G:GE} {e e':Env} {σ σ':St} {w w':World} {fa:List PV} {vs:Array Value} (h:ArgsRel G e σ w fa vs) (hL:Later e σ w e' σ' w'):ArgsRel G e' σ' w' (XY fa) vs:=by
 refine ⟨by rw [XC];exact h.1,fun i y u hy hu=>?_⟩
 obtain ⟨x,hx,rfl⟩:=W8 i y hy
 have hv:=h.2 i x u hx hu
 exact VRel.clean hL.len hL.beta hL.pres hv hv.bnd
theorem CallsDIn.mono {F:Fence} {n:Nat} {P:Program} {f:FuncId} {args:Array Value} {u:FrameMode} {w:World} {R R':Ending→FrameMode→World→Prop} (h:CallsDIn F n P f args u w R) (hR:∀e u w,R e u w→R' e u w):CallsDIn F n P f args u w R' :=
 ⟨h.1,fun c cs hu hr=>let ⟨e,u',w',fr,h1,h2⟩:=h.2 c cs hu hr;⟨e,u',w',fr,hR _ _ _ h1,h2⟩⟩
theorem Zow {G : GE} {T : Tab} {tbl : Tbl} (hT : TabOK T G.P) (hmix : G.P.follows .mixedOrders = true) (ht : TblOK G tbl) {g : FuncId} {fn : Func} {c : Code} (hf : G.P.funcs[g]? = some fn) (hb : fn.body = some c) (hname : (fn.name == "runtime.NumGoroutine") = false)
  (hok:ZS fn.ntmps c=true) {g0:FuncId} {spR:List PV→St→(St→Prop)→Prop} {spP:PV→List PV→St→(St→Prop)→Prop} (hd:PDef G g0 spR spP) {sp:ZA}
  (h:∀args σ K,sp args σ K→∃loops unr ties keep own,σ.bx.length≤keep∧args.length≤fn.ntmps∧WD (Zmp T tbl WN loops unr ties) g0 (ZqQ T fn keep own K) (ZtP T fn keep own spR spP K) (VD fn) (Ze7 0 args) σ):PCalls G g sp where
 enters:=Zh hf hname hb
 calls:=fun args σ K hs n e w vs hS hargs=>by
  obtain ⟨loops,unr,ties,keep,own,hk,hlen,hW⟩:=h args σ K hs
  have hbo:VD fn=c:=by simp [VD,hb]
  rw [hbo] at hW
  have hsz:vs.size=args.length:=hargs.1
  have hF:FRel G e σ w (Ze7 0 args) (vs++Array.replicate (fn.ntmps - vs.size) undef):=J5 args 0 fun k x hx=>by
   exact m34
  refine callsIn_of_wp_defers hf hb trivial (wpIn_mono (Zrb (n:=n) (e0:=e) (σ0:=σ) (w0:=w) hmix (C:=Zmp T tbl WN loops unr ties) (fun _ _ _=>⟨hT,ht.sem,fun _ _ _ _ h=>h.elim,Y9,.inl rfl⟩) ⟨fun _ h1 h2=>hT.one h1 h2,ht.mono,fun _ _ _ _ h=>h.elim,rfl⟩ (fun _ _ _ _ _ h=>h) c hok
   (a:={ tmps:=vs++Array.replicate (fn.ntmps - vs.size) undef,defers:=[] }) hS hF (Later.refl e σ w) (by simp;omega) rfl hW) fun x a' w' hp=>?_)
  exact m6
end Go.PM
end

section
namespace Go.PM
def ZyW (T:Tab) (fn:Func) (keep:Nat) (K:St→Prop):PQ:=fun e f σ=>match e with
 | .normal | .ret=>pres T f σ.bx fn.results.toList fun vs=>ZaG keep true (Jn vs) σ fun _ σ'=>K σ'
 | _=>False
section
variable {G:GE}
theorem Zm2 {T : Tab} {tbl : Tbl} (hT : TabOK T G.P) (hmix : G.P.follows .mixedOrders = true) (ht : TblOK G tbl) {g : FuncId} {fn : Func} {c : Code} (hf : G.P.funcs[g]? = some fn) (hb : fn.body = some c) (hname : (fn.name == "runtime.NumGoroutine") = false)
  (hok:ZS fn.ntmps c=true) {spR:List PV→St→(St→Prop)→Prop}
  (hr:∀args σ K,spR args σ K→∃loops unr keep,σ.bx.length≤keep∧args.length≤fn.ntmps∧W (Zmp T tbl WN loops unr (fun _=>false)) c (ZyW T fn keep K) (Ze7 0 args) σ):PDef G g spR (fun _ _ _ _=>False):=by
 refine ⟨Zh hf hname hb,fun args σ K hs n e w vs hS hargs=>?_,fun pv args σ K hs=>hs.elim⟩
 obtain ⟨loops,unr,keep,hk,hlen,hW⟩:=hr args σ K hs
 refine callsDIn_of_wpSIn hf hb trivial fun c₀ cs hu=>?_
 have hsz:vs.size=args.length:=hargs.1
 have hF:FRel G e σ w (Ze7 0 args) (vs++Array.replicate (fn.ntmps - vs.size) undef):=J5 args 0 fun k x hx=>by
  exact m34
 refine wpSIn_of_wpIn rfl (wpIn_mono (Jt (n:=n) (ro:=none) (ds:=(0,[],true)) hmix c (C:=Zmp T tbl WN loops unr (fun _=>false)) ⟨hT,ht.sem,fun _ _ _ _ h=>h.elim,Y9,.inl rfl⟩ ⟨fun _ h1 h2=>hT.one h1 h2,ht.mono,fun _ _ _ _ h=>h.elim,rfl⟩ (fun _ _ _ _ _ _ h=>h) hok [] #[] (YM _) _
  (a:={ tmps:=vs++Array.replicate (fn.ntmps - vs.size) undef,defers:=[] }) hS hF (Later.refl e σ w) (by simp;omega) (Marks.nil e σ (T7 _)) (fun i hi=>by cases hi) hW) fun x a' w' hp=>?_)
 obtain ⟨pe,f',e',σ',hq,hx,h1,h2,h3,h4,⟨_,rs,h5,h5f,_⟩,h6⟩:=hp
 have hd0:a'.defers=[]:=by rw [h5,h5f rfl];rfl
 have done:(pres T f' σ'.bx fn.results.toList fun vs=>ZaG keep true (Jn vs) σ' fun _ σ''=>K σ'')→∃r,(results fn a'.tmps).run G.P w'=.ok r w'∧FrameMode.returning=.returning∧(∃r',Ending.returned r=.returned r')∧∃σ' e',K σ'∧SRel G e' σ' w'∧Later e σ w e' σ' w':=fun hl=>by
  obtain ⟨pvs,r,hlv,hr,hvr⟩:=X7 (C:=Zmp T tbl WN loops unr (fun _=>false)) hT h1 h2 hl
  exact m142
 cases pe with
 | normal=>obtain rfl:x=.normal:=hx;obtain ⟨r,hr,hR⟩:=done hq;exact ⟨hd0,.returning,by rw [← hu],r,hr,hR⟩
 | ret=>obtain rfl:x=.ret:=hx;obtain ⟨r,hr,hR⟩:=done hq;exact ⟨hd0,.returning,by rw [← hu],r,hr,hR⟩
 | exit id=>exact hq.elim
 | goto l=>exact hq.elim
 | panic p=>exact hq.elim
end
def ZyX:Code→Bool
 | .seq a b=>ZyX a || ZyX b
 | .cond _ a b=>ZyX a || ZyX b
 | .region id ops d=>(Zeg (.region id ops d)).isSome
 | _=>false
def WL (C:Cx) (Q:PQ):List Code→Frame→St→Prop
 | [],f,σ=>Q .normal f σ
 | c::l,f,σ=>W C c (fun e f σ=>match e with | .normal=>WL C Q l f σ | e=>Q e f σ) f σ
def WDl (C:Cx) (g0:FuncId) (Q0:PQ) (Q1:List PV→PQ):Nat→List Code→Frame→St→Prop
 | 0,_,_,_=>False
 | _+1,[],f,σ=>Q0 .normal f σ
 | n+1,c::l,f,σ=>match ZyX c with
  | false=>W C c (fun e f σ=>match e with | .normal=>WDl C g0 Q0 Q1 n l f σ | e=>Q0 e f σ) f σ
  | true=>match c with
   | .seq a b=>WDl C g0 Q0 Q1 n (a::b::l) f σ
   | .cond x a b=>match ev f x with | .d (.bool t)=>CondP t (WDl C g0 Q0 Q1 n (a::l) f σ) (WDl C g0 Q0 Q1 n (b::l) f σ) | _=>False
   | c=>match Zeg c with
    | some (all,init,x,args)=>ZsA C all (fun e f σ=>match e with
      | .normal=>(match ev f x with
       | .func g first caps=>(match Nat.beq g g0 with
        | true=>WL C (Q1 (XY (first++args.map (ev f)++caps))) l f σ
        | false=>False)
       | _=>False)
      | e=>Q0 e f σ) init f σ
    | none=>False
section
variable {G:GE} {C:Cx} {e0:Env} {σ0:St} {w0:World} {n N:Nat}
def wpl (n:Nat) (P:Program) (Q:Exit→Act→World→Prop):List Code→Act→World→Prop
 | [],a,w=>Q .normal a w
 | c::l,a,w=>c.wpIn (fw none) n P (Exit.then (wpl n P Q l) Q) a w
theorem Zlx (hmix:G.P.follows .mixedOrders=true) (hC:∀e σ w,CxOK G C none e σ w) (hM:CxMono C.calm) (hI:∀g args raw σ K,¬C.iter g args raw σ K) {ds:Nat×List Deferred×Bool} {Q:PQ} :
  ∀(l:List Code),(∀c∈l,ZS N c=true)→∀{e:Env} {σ:St} {w:World} {a:Act} {f:Frame},SRel G e σ w→FRel G e σ w f a.tmps→Later e0 σ0 w0 e σ w→a.tmps.size=N→Marks ds e σ w a.defers→WL C Q l f σ →
   wpl n G.P (Yg G e0 σ0 w0 ds N (Kept [] #[]) Q) l a w
 | [],_,e,σ,w,a,f,hS,hF,hL,hN,hds,h=>⟨.normal,f,e,σ,h,rfl,hS,hF,hL,hN,hds,fun i hi=>by cases hi⟩
 | c::l,hok,e,σ,w,a,f,hS,hF,hL,hN,hds,h=>by
  refine wpIn_mono (Jt (n:=n) (ro:=none) hmix c (hC _ _ _) hM (fun _=>hI) (hok c (by simp)) [] #[] (YM _) _ hS hF hL hN hds (fun i hi=>by cases hi) h) fun x a' w' hp=>?_
  obtain ⟨pe,f',e',σ',hq,hx,h1,h2,h3,h4,h5,h6⟩:=hp
  cases pe with
  | normal=>obtain rfl:x=.normal:=hx;exact Zlx hmix hC hM hI l (fun c hc=>hok c (Tp _ hc)) h1 h2 h3 h4 h5 hq
  | exit id=>obtain rfl:x=.exit id:=hx;exact ⟨.exit id,f',e',σ',hq,rfl,h1,h2,h3,h4,h5,h6⟩
  | goto l=>obtain rfl:x=.goto l:=hx;exact ⟨.goto l,f',e',σ',hq,rfl,h1,h2,h3,h4,h5,h6⟩
  | ret=>obtain rfl:x=.ret:=hx;exact ⟨.ret,f',e',σ',hq,rfl,h1,h2,h3,h4,h5,h6⟩
  | panic p=>obtain ⟨v,rfl,hv⟩:=hx;exact ⟨.panic p,f',e',σ',hq,⟨v,rfl,hv⟩,h1,h2,h3,h4,h5,h6⟩
theorem Zly {P:Program} {Q Q':Exit→Act→World→Prop} (hQ:∀x a w,Q x a w→Q' x a w):∀{l:List Code} {a:Act} {w:World},wpl n P Q l a w→wpl n P Q' l a w
 | [],a,w,h=>hQ _ _ _ h
 | c::l,a,w,h=>wpIn_mono h fun x a' w' hp=>by
  cases x with
  | normal=>exact Zly hQ hp
  | _=>exact hQ _ _ _ hp
theorem Zpk {g0:FuncId} {Q0:PQ} {Q1:List PV→PQ} (hmix:G.P.follows .mixedOrders=true) (hC:∀e σ w,CxOK G C none e σ w) (hM:CxMono C.calm) (hI:∀g args raw σ K,¬C.iter g args raw σ K) :
  ∀(k:Nat) (l:List Code),(∀c∈l,ZS N c=true)→∀{e:Env} {σ:St} {w:World} {a:Act} {f:Frame},SRel G e σ w→FRel G e σ w f a.tmps→Later e0 σ0 w0 e σ w→a.tmps.size=N→a.defers=[]→WDl C g0 Q0 Q1 k l f σ →
   wpl n G.P (Zmw G g0 e0 σ0 w0 N Q0 Q1) l a w:=by
 intro k
 induction k with
 | zero=>intro l hok e σ w a f hS hF hL hN hd h;exact h.elim
 | succ k ih =>
  intro l hok e σ w a f hS hF hL hN hd h
  have hM0:Marks (0,[],true) e σ w a.defers:=by rw [hd];exact Marks.nil e σ (T7 _)
  cases l with
  | nil=>exact .inl ⟨.normal,f,e,σ,h,rfl,hS,hF,hL,hN,hM0,fun i hi=>by cases hi⟩
  | cons c l =>
   have hokc:=hok c (by simp)
   have hokl:∀c∈l,ZS N c=true:=fun c hc=>hok c (Tp _ hc)
   simp only [WDl] at h
   split at h
   ·show c.wpIn (fw none) n G.P _ a w
    refine wpIn_mono (Jt (n:=n) (ro:=none) (ds:=(0,[],true)) hmix c (hC _ _ _) hM (fun _=>hI) hokc [] #[] (YM _) _ hS hF hL hN hM0 (fun i hi=>by cases hi) h) fun x a1 w1 hp=>?_
    obtain ⟨pe,f',e',σ',hq,hxr,h1,h2,h3,h4,h5,h6⟩:=hp
    cases pe with
    | normal =>
     obtain rfl:x=.normal:=hxr
     obtain ⟨_,rs,h5,h5f,_⟩:=h5
     exact ih l hokl h1 h2 h3 h4 (by rw [h5,h5f rfl];rfl) hq
    | exit id=>obtain rfl:x=.exit id:=hxr;exact .inl ⟨.exit id,f',e',σ',hq,rfl,h1,h2,h3,h4,h5,h6⟩
    | goto l=>obtain rfl:x=.goto l:=hxr;exact .inl ⟨.goto l,f',e',σ',hq,rfl,h1,h2,h3,h4,h5,h6⟩
    | ret=>obtain rfl:x=.ret:=hxr;exact .inl ⟨.ret,f',e',σ',hq,rfl,h1,h2,h3,h4,h5,h6⟩
    | panic p=>obtain ⟨v,rfl,hv⟩:=hxr;exact .inl ⟨.panic p,f',e',σ',hq,⟨v,rfl,hv⟩,h1,h2,h3,h4,h5,h6⟩
   ·split at h
    ·rename_i x y hD
     simp only [ZS,Tk] at hokc
     have:=ih (x::y::l) (fun c hc=>by
      rcases Tw.1 hc with rfl | hc
      ·exact hokc.1
      ·rcases Tw.1 hc with rfl | hc
       ·exact hokc.2
       ·exact hokl c hc) hS hF hL hN hd h
     refine wpIn_seq (wpIn_mono (show x.wpIn (fw none) n G.P _ a w from this) fun z a' w' hp=>?_)
     cases z with
     | normal=>exact hp
     | _=>exact hp
    ·rename_i x y z hD
     simp only [ZS,Tk] at hokc
     have hv:=Zam hF x
     split at h
     ·rename_i t hc
      rw [hc] at hv
      cases t with
      | true=>exact wpIn_cond_true hv.dbool (ih (y::l) (fun c hc=>by
        rcases Tw.1 hc with rfl | hc
        ·exact hokc.1
        ·exact hokl c hc) hS hF hL hN hd h)
      | false=>exact wpIn_cond_false hv.dbool (ih (z::l) (fun c hc=>by
        rcases Tw.1 hc with rfl | hc
        ·exact hokc.2
        ·exact hokl c hc) hS hF hL hN hd h)
     ·exact h.elim
    ·split at h
     ·rename_i all init x args hdi
      unfold Zeg at hdi
      split at hdi
      ·rename_i id ops hD hD1 hD2
       split at hdi
       ·rename_i init' last hsl
        split at hdi
        ·rename_i x' args' hdc
         cases hdi
         have hops:=VZ hsl
         obtain ⟨as,at',hop,has,hg,hdst⟩:=Zaw hdc
         have hsize:ops.size=init.length+1:=by rw [← Sm,hops];simp
         have hlast:ops[init.length]?=some last:=by rw [← TB,hops];simp
         simp only [ZS,Tk] at hokc
         have hd2:∀o,o∈ops→∀d,o.dst=some d→d<N∧∀t v,Kept [] #[] t→Kept [] #[] (t.setIfInBounds d v):=fun o ho d hdd=>⟨J4 hokc.1 o (TQ.1 ho) d hdd,fun t v _ i hi=>by cases hi⟩
         refine wpIn_region ?_
         rw [show List.range ops.size=List.range' 0 init.length++[init.length] from by rw [hsize,List.range_succ,List.range_eq_range']]
         refine ZaY (N:=N) (Z:=Kept [] #[]) (ds:=(0,[],true)) (hC e0 σ0 w0) hd2 (fun x a w hx hp=>?_) (fun a1 w1 hp=>?_) init 0 (fun j hj=>?_) hS hF hL hN hM0 (fun i hi=>by cases hi) h
         ·exact m84
         ·obtain ⟨pe,f',e',σ',hq,hxr,h1,h2,h3,h4,⟨_,rs,h5,h5f,_⟩,h6⟩:=hp
          cases pe with
          | normal =>
           simp only at hq
           have hv:=Zam h2 x
           split at hq
           ·rename_i g first caps heq
            split at hq
            ·rename_i hgb
             cases Tn hgb
             rw [heq] at hv
             generalize hgv:a1.eval x=v at hv
             cases hv with
             | func _ _ _ va vc ha hc k1 k2 =>
              have hd0:a1.defers=[]:=by rw [h5,h5f rfl];rfl
              have hargs:ArgsRel G e' σ' w1 (first++args.map (ev f')++caps) (va++as.map a1.eval++vc):=by
               exact m108
              have hw:Region.wanted last (yielded ops a1.tmps)=true:=by simp [Region.wanted,hg]
              simp only [wpOpsIn,hlast,hw,if_true]
              have hrun:(execOp a1.eval last).run G.P w1=.ok (.defer (ZV g0 (va++as.map a1.eval) vc)) w1:=by
               exact m149
              refine ⟨fun _ _=>trivial,?_⟩
              rw [show (fw none).round=none from rfl,Oper.semAt_none,hrun,Oper.uponIn_defer]
              rw [hdst]
              show wpl n G.P (Zmw G g0 e0 σ0 w0 N Q0 Q1) l { a1 with defers:=ZV g0 (va++as.map a1.eval) vc::a1.defers } w1
              rw [hd0]
              exact Zly (fun x a w hp=>.inr ⟨_,_,_,e',σ',w1,h3,hargs,hp⟩) (Zlx (n:=n) (e0:=e') (σ0:=σ') (w0:=w1) hmix hC hM hI (ds:=(0,[ZV g0 (va++as.map a1.eval) vc],true)) l hokl
               (a:={ a1 with defers:=[ZV g0 (va++as.map a1.eval) vc] }) h1 h2 (Later.refl _ _ _) h4 ⟨T7 _,[],rfl,fun _=>rfl,List.nodup_nil,fun r h=>by cases h⟩ hq)
            ·exact hq.elim
           ·exact hq.elim
          | exit id=>cases hxr
          | goto l=>cases hxr
          | ret=>cases hxr
          | panic p=>obtain ⟨_,hxr,_⟩:=hxr;cases hxr
         ·rw [← TB,hops,So,TH hj]
        ·cases hdi
       ·cases hdi
      ·cases hdi
     ·exact h.elim
end
theorem ZrI {G : GE} {T : Tab} {tbl : Tbl} (hT : TabOK T G.P) (hmix : G.P.follows .mixedOrders = true) (ht : TblOK G tbl) {g : FuncId} {fn : Func} {c : Code} (hf : G.P.funcs[g]? = some fn) (hb : fn.body = some c) (hname : (fn.name == "runtime.NumGoroutine") = false)
  (hok:ZS fn.ntmps c=true) {g0:FuncId} {spR:List PV→St→(St→Prop)→Prop} {spP:PV→List PV→St→(St→Prop)→Prop} (hd:PDef G g0 spR spP) {sp:ZA}
  (h:∀args σ K,sp args σ K→∃loops unr ties keep own,σ.bx.length≤keep∧args.length≤fn.ntmps∧WDl (Zmp T tbl WN loops unr ties) g0 (ZqQ T fn keep own K) (ZtP T fn keep own spR spP K) 99 [VD fn] (Ze7 0 args) σ):PCalls G g sp where
 enters:=Zh hf hname hb
 calls:=fun args σ K hs n e w vs hS hargs=>by
  obtain ⟨loops,unr,ties,keep,own,hk,hlen,hW⟩:=h args σ K hs
  have hbo:VD fn=c:=by simp [VD,hb]
  rw [hbo] at hW
  have hsz:vs.size=args.length:=hargs.1
  have hF:FRel G e σ w (Ze7 0 args) (vs++Array.replicate (fn.ntmps - vs.size) undef):=J5 args 0 fun k x hx=>by
   exact m34
  have hwp:=Zpk (n:=n) (N:=fn.ntmps) (e0:=e) (σ0:=σ) (w0:=w) hmix (C:=Zmp T tbl WN loops unr ties) (fun _ _ _=>⟨hT,ht.sem,fun _ _ _ _ h=>h.elim,Y9,.inl rfl⟩) ⟨fun _ h1 h2=>hT.one h1 h2,ht.mono,fun _ _ _ _ h=>h.elim,rfl⟩ (fun _ _ _ _ _ h=>h) 99 [c] (fun c' hc'=>by cases List.mem_singleton.1 hc';exact hok)
   (a:={ tmps:=vs++Array.replicate (fn.ntmps - vs.size) undef,defers:=[] }) hS hF (Later.refl e σ w) (by simp;omega) rfl hW
  have hwp:c.wpIn (fw none) n G.P (Zmw G g0 e σ w fn.ntmps (ZqQ T fn keep own K) (ZtP T fn keep own spR spP K)) { tmps:=vs++Array.replicate (fn.ntmps - vs.size) undef,defers:=[] } w:=wpIn_mono hwp fun x a' w' hp=>by
   cases x with
   | normal=>exact hp
   | _=>exact hp
  refine callsIn_of_wp_defers hf hb trivial (wpIn_mono hwp fun x a' w' hp=>?_)
  exact m6
end Go.PM
end
