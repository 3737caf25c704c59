/- A part of the proof: plain logic, contracts and laws over the given program. -/
import Derived.Test.YtflgockgjnddnaaGreatDoorU03
set_option linter.unusedVariables false
set_option linter.unusedSimpArgs false
set_option linter.all false
section
namespace Go.PM
def recQ2 (T:Tab) (fn:Func) (keep:Nat) (K:St→Prop):PQ:=fun e f σ=>match e with
 | .normal | .ret=>pres T f σ.bx fn.results.toList fun vs=>leave keep true (oneOf vs) σ fun _ σ'=>K σ'
 | _=>False
section
variable {G:GE}
theorem pdef_plain {T : Tab} {tbl : Tbl} (hT : TabOK T G.P) (hmix : G.P.follows .mixedOrders = true) (ht : TblOK G tbl) {g : FuncId} {fn : Func} {c : Code} (hf : G.P.funcs[g]? = some fn) (hb : fn.body = some c) (hname : (fn.name == "runtime.NumGoroutine") = false)
  (hok:codeOK fn.ntmps c=true) {spR:List PV→St→(St→Prop)→Prop}
  (hr:∀args σ K,spR args σ K→∃loops unr keep,σ.bx.length≤keep∧args.length≤fn.ntmps∧W (ctxU T tbl noIter loops unr (fun _=>false)) c (recQ2 T fn keep K) (argF 0 args) σ):PDef G g spR (fun _ _ _ _=>False):=by
 refine ⟨enters_of hf hname hb,fun args σ K hs n e w vs hS hargs=>?_,fun pv args σ K hs=>hs.elim⟩
 obtain ⟨loops,unr,keep,hk,hlen,hW⟩:=hr args σ K hs
 refine callsDIn_of_wpSIn hf hb trivial fun c₀ cs hu=>?_
 have hsz:vs.size=args.length:=hargs.1
 have hF:FRel G e σ w (argF 0 args) (vs++Array.replicate (fn.ntmps - vs.size) undef):=argF_rel args 0 fun k x hx=>by
  have hk:=(List.getElem?_eq_some_iff.1 hx).1
  have hkv:k<vs.size:=by omega
  have:(vs++Array.replicate (fn.ntmps - vs.size) undef).getD (0+k) Go.undef=vs[k]:=by
   simp [Array.getD,Array.getElem_append,hkv]
   intro h;omega
  rw [this]
  exact hargs.2 k x _ hx (Array.getElem?_eq_getElem hkv)
 refine wpSIn_of_wpIn rfl (wpIn_mono (W_sound (n:=n) (ro:=none) (ds:=(0,[],true)) hmix c (C:=ctxU T tbl noIter loops unr (fun _=>false)) ⟨hT,ht.sem,fun _ _ _ _ h=>h.elim,noIter_sem,.inl rfl⟩ ⟨fun _ h1 h2=>hT.one h1 h2,ht.mono,fun _ _ _ _ h=>h.elim,rfl⟩ (fun _ _ _ _ _ _ h=>h) hok [] #[] (noWrite_nil _) _
  (a:={ tmps:=vs++Array.replicate (fn.ntmps - vs.size) undef,defers:=[] }) hS hF (Later.refl e σ w) (by simp;omega) (Marks.nil e σ (Nat.zero_le _)) (fun i hi=>by cases hi) hW) fun x a' w' hp=>?_)
 obtain ⟨pe,f',e',σ',hq,hx,h1,h2,h3,h4,⟨_,rs,h5,h5f,_⟩,h6⟩:=hp
 have hd0:a'.defers=[]:=by rw [h5,h5f rfl];rfl
 have done:(pres T f' σ'.bx fn.results.toList fun vs=>leave keep true (oneOf vs) σ' fun _ σ''=>K σ'')→∃r,(results fn a'.tmps).run G.P w'=.ok r w'∧FrameMode.returning=.returning∧(∃r',Ending.returned r=.returned r')∧∃σ' e',K σ'∧SRel G e' σ' w'∧Later e σ w e' σ' w':=fun hl=>by
  obtain ⟨pvs,r,hlv,hr,hvr⟩:=results_sound (C:=ctxU T tbl noIter loops unr (fun _=>false)) hT h1 h2 hl
  obtain ⟨pv',σ2,e2,hK,_,hS2,hL2⟩:=leave_sound h1 h3 hk hvr hlv
  exact ⟨r,hr,rfl,⟨r,rfl⟩,σ2,e2,hK,hS2,hL2⟩
 cases pe with
 | normal=>obtain rfl:x=.normal:=hx;obtain ⟨r,hr,hR⟩:=done hq;exact ⟨hd0,.returning,by rw [← hu],r,hr,hR⟩
 | ret=>obtain rfl:x=.ret:=hx;obtain ⟨r,hr,hR⟩:=done hq;exact ⟨hd0,.returning,by rw [← hu],r,hr,hR⟩
 | exit id=>exact hq.elim
 | goto l=>exact hq.elim
 | panic p=>exact hq.elim
end
def hasD:Code→Bool
 | .seq a b=>hasD a || hasD b
 | .cond _ a b=>hasD a || hasD b
 | .region id ops d=>(deferIn (.region id ops d)).isSome
 | _=>false
def WL (C:Cx) (Q:PQ):List Code→Frame→St→Prop
 | [],f,σ=>Q .normal f σ
 | c::l,f,σ=>W C c (fun e f σ=>match e with | .normal=>WL C Q l f σ | e=>Q e f σ) f σ
def WDl (C:Cx) (g0:FuncId) (Q0:PQ) (Q1:List PV→PQ):Nat→List Code→Frame→St→Prop
 | 0,_,_,_=>False
 | _+1,[],f,σ=>Q0 .normal f σ
 | n+1,c::l,f,σ=>match hasD c with
  | false=>W C c (fun e f σ=>match e with | .normal=>WDl C g0 Q0 Q1 n l f σ | e=>Q0 e f σ) f σ
  | true=>match c with
   | .seq a b=>WDl C g0 Q0 Q1 n (a::b::l) f σ
   | .cond x a b=>match ev f x with | .d (.bool t)=>CondP t (WDl C g0 Q0 Q1 n (a::l) f σ) (WDl C g0 Q0 Q1 n (b::l) f σ) | _=>False
   | c=>match deferIn c with
    | some (all,init,x,args)=>pops C all (fun e f σ=>match e with
      | .normal=>(match ev f x with
       | .func g first caps=>(match Nat.beq g g0 with
        | true=>WL C (Q1 (cleanL (first++args.map (ev f)++caps))) l f σ
        | false=>False)
       | _=>False)
      | e=>Q0 e f σ) init f σ
    | none=>False
section
variable {G:GE} {C:Cx} {e0:Env} {σ0:St} {w0:World} {n N:Nat}
def wpl (n:Nat) (P:Program) (Q:Exit→Act→World→Prop):List Code→Act→World→Prop
 | [],a,w=>Q .normal a w
 | c::l,a,w=>c.wpIn (fw none) n P (Exit.then (wpl n P Q l) Q) a w
theorem WL_sound (hmix:G.P.follows .mixedOrders=true) (hC:∀e σ w,CxOK G C none e σ w) (hM:CxMono C.calm) (hI:∀g args raw σ K,¬C.iter g args raw σ K) {ds:Nat×List Deferred×Bool} {Q:PQ} :
  ∀(l:List Code),(∀c∈l,codeOK N c=true)→∀{e:Env} {σ:St} {w:World} {a:Act} {f:Frame},SRel G e σ w→FRel G e σ w f a.tmps→Later e0 σ0 w0 e σ w→a.tmps.size=N→Marks ds e σ w a.defers→WL C Q l f σ →
   wpl n G.P (PostOf G e0 σ0 w0 ds N (Kept [] #[]) Q) l a w
 | [],_,e,σ,w,a,f,hS,hF,hL,hN,hds,h=>⟨.normal,f,e,σ,h,rfl,hS,hF,hL,hN,hds,fun i hi=>by cases hi⟩
 | c::l,hok,e,σ,w,a,f,hS,hF,hL,hN,hds,h=>by
  refine wpIn_mono (W_sound (n:=n) (ro:=none) hmix c (hC _ _ _) hM (fun _=>hI) (hok c (by simp)) [] #[] (noWrite_nil _) _ hS hF hL hN hds (fun i hi=>by cases hi) h) fun x a' w' hp=>?_
  obtain ⟨pe,f',e',σ',hq,hx,h1,h2,h3,h4,h5,h6⟩:=hp
  cases pe with
  | normal=>obtain rfl:x=.normal:=hx;exact WL_sound hmix hC hM hI l (fun c hc=>hok c (List.mem_cons_of_mem _ hc)) h1 h2 h3 h4 h5 hq
  | exit id=>obtain rfl:x=.exit id:=hx;exact ⟨.exit id,f',e',σ',hq,rfl,h1,h2,h3,h4,h5,h6⟩
  | goto l=>obtain rfl:x=.goto l:=hx;exact ⟨.goto l,f',e',σ',hq,rfl,h1,h2,h3,h4,h5,h6⟩
  | ret=>obtain rfl:x=.ret:=hx;exact ⟨.ret,f',e',σ',hq,rfl,h1,h2,h3,h4,h5,h6⟩
  | panic p=>obtain ⟨v,rfl,hv⟩:=hx;exact ⟨.panic p,f',e',σ',hq,⟨v,rfl,hv⟩,h1,h2,h3,h4,h5,h6⟩
theorem wpl_mono {P:Program} {Q Q':Exit→Act→World→Prop} (hQ:∀x a w,Q x a w→Q' x a w):∀{l:List Code} {a:Act} {w:World},wpl n P Q l a w→wpl n P Q' l a w
 | [],a,w,h=>hQ _ _ _ h
 | c::l,a,w,h=>wpIn_mono h fun x a' w' hp=>by
  cases x with
  | normal=>exact wpl_mono hQ hp
  | _=>exact hQ _ _ _ hp
theorem WDl_sound {g0:FuncId} {Q0:PQ} {Q1:List PV→PQ} (hmix:G.P.follows .mixedOrders=true) (hC:∀e σ w,CxOK G C none e σ w) (hM:CxMono C.calm) (hI:∀g args raw σ K,¬C.iter g args raw σ K) :
  ∀(k:Nat) (l:List Code),(∀c∈l,codeOK N c=true)→∀{e:Env} {σ:St} {w:World} {a:Act} {f:Frame},SRel G e σ w→FRel G e σ w f a.tmps→Later e0 σ0 w0 e σ w→a.tmps.size=N→a.defers=[]→WDl C g0 Q0 Q1 k l f σ →
   wpl n G.P (PostD G g0 e0 σ0 w0 N Q0 Q1) l a w:=by
 intro k
 induction k with
 | zero=>intro l hok e σ w a f hS hF hL hN hd h;exact h.elim
 | succ k ih =>
  intro l hok e σ w a f hS hF hL hN hd h
  have hM0:Marks (0,[],true) e σ w a.defers:=by rw [hd];exact Marks.nil e σ (Nat.zero_le _)
  cases l with
  | nil=>exact .inl ⟨.normal,f,e,σ,h,rfl,hS,hF,hL,hN,hM0,fun i hi=>by cases hi⟩
  | cons c l =>
   have hokc:=hok c (by simp)
   have hokl:∀c∈l,codeOK N c=true:=fun c hc=>hok c (List.mem_cons_of_mem _ hc)
   simp only [WDl] at h
   split at h
   ·show c.wpIn (fw none) n G.P _ a w
    refine wpIn_mono (W_sound (n:=n) (ro:=none) (ds:=(0,[],true)) hmix c (hC _ _ _) hM (fun _=>hI) hokc [] #[] (noWrite_nil _) _ hS hF hL hN hM0 (fun i hi=>by cases hi) h) fun x a1 w1 hp=>?_
    obtain ⟨pe,f',e',σ',hq,hxr,h1,h2,h3,h4,h5,h6⟩:=hp
    cases pe with
    | normal =>
     obtain rfl:x=.normal:=hxr
     obtain ⟨_,rs,h5,h5f,_⟩:=h5
     exact ih l hokl h1 h2 h3 h4 (by rw [h5,h5f rfl];rfl) hq
    | exit id=>obtain rfl:x=.exit id:=hxr;exact .inl ⟨.exit id,f',e',σ',hq,rfl,h1,h2,h3,h4,h5,h6⟩
    | goto l=>obtain rfl:x=.goto l:=hxr;exact .inl ⟨.goto l,f',e',σ',hq,rfl,h1,h2,h3,h4,h5,h6⟩
    | ret=>obtain rfl:x=.ret:=hxr;exact .inl ⟨.ret,f',e',σ',hq,rfl,h1,h2,h3,h4,h5,h6⟩
    | panic p=>obtain ⟨v,rfl,hv⟩:=hxr;exact .inl ⟨.panic p,f',e',σ',hq,⟨v,rfl,hv⟩,h1,h2,h3,h4,h5,h6⟩
   ·split at h
    ·rename_i x y hD
     simp only [codeOK,Bool.and_eq_true] at hokc
     have:=ih (x::y::l) (fun c hc=>by
      rcases List.mem_cons.1 hc with rfl | hc
      ·exact hokc.1
      ·rcases List.mem_cons.1 hc with rfl | hc
       ·exact hokc.2
       ·exact hokl c hc) hS hF hL hN hd h
     refine wpIn_seq (wpIn_mono (show x.wpIn (fw none) n G.P _ a w from this) fun z a' w' hp=>?_)
     cases z with
     | normal=>exact hp
     | _=>exact hp
    ·rename_i x y z hD
     simp only [codeOK,Bool.and_eq_true] at hokc
     have hv:=ev_rel hF x
     split at h
     ·rename_i t hc
      rw [hc] at hv
      cases t with
      | true=>exact wpIn_cond_true hv.dbool (ih (y::l) (fun c hc=>by
        rcases List.mem_cons.1 hc with rfl | hc
        ·exact hokc.1
        ·exact hokl c hc) hS hF hL hN hd h)
      | false=>exact wpIn_cond_false hv.dbool (ih (z::l) (fun c hc=>by
        rcases List.mem_cons.1 hc with rfl | hc
        ·exact hokc.2
        ·exact hokl c hc) hS hF hL hN hd h)
     ·exact h.elim
    ·split at h
     ·rename_i all init x args hdi
      unfold deferIn at hdi
      split at hdi
      ·rename_i id ops hD hD1 hD2
       split at hdi
       ·rename_i init' last hsl
        split at hdi
        ·rename_i x' args' hdc
         cases hdi
         have hops:=splitLast_spec hsl
         obtain ⟨as,at',hop,has,hg,hdst⟩:=deferCall_spec hdc
         have hsize:ops.size=init.length+1:=by rw [← Array.length_toList,hops];simp
         have hlast:ops[init.length]?=some last:=by rw [← Array.getElem?_toList,hops];simp
         simp only [codeOK,Bool.and_eq_true] at hokc
         have hd2:∀o,o∈ops→∀d,o.dst=some d→d<N∧∀t v,Kept [] #[] t→Kept [] #[] (t.setIfInBounds d v):=fun o ho d hdd=>⟨opsOK_spec hokc.1 o (Array.mem_def.1 ho) d hdd,fun t v _ i hi=>by cases hi⟩
         refine wpIn_region ?_
         rw [show List.range ops.size=List.range' 0 init.length++[init.length] from by rw [hsize,List.range_succ,List.range_eq_range']]
         refine popsD_sound (N:=N) (Z:=Kept [] #[]) (ds:=(0,[],true)) (hC e0 σ0 w0) hd2 (fun x a w hx hp=>?_) (fun a1 w1 hp=>?_) init 0 (fun j hj=>?_) hS hF hL hN hM0 (fun i hi=>by cases hi) h
         ·cases x with
          | normal=>exact absurd rfl hx
          | _ =>
           obtain ⟨pe,f',e',σ',hq,hxr,hrest⟩:=hp
           refine .inl ⟨pe,f',e',σ',?_,hxr,hrest⟩
           cases pe <;> first | exact hq | (cases hxr;done) | (obtain ⟨_,hxr,_⟩:=hxr;cases hxr)
         ·obtain ⟨pe,f',e',σ',hq,hxr,h1,h2,h3,h4,⟨_,rs,h5,h5f,_⟩,h6⟩:=hp
          cases pe with
          | normal =>
           simp only at hq
           have hv:=ev_rel h2 x
           split at hq
           ·rename_i g first caps heq
            split at hq
            ·rename_i hgb
             cases Nat.eq_of_beq_eq_true hgb
             rw [heq] at hv
             generalize hgv:a1.eval x=v at hv
             cases hv with
             | func _ _ _ va vc ha hc k1 k2 =>
              have hd0:a1.defers=[]:=by rw [h5,h5f rfl];rfl
              have hargs:ArgsRel G e' σ' w1 (first++args.map (ev f')++caps) (va++as.map a1.eval++vc):=by
               have hm:=args_rel (G:=G) (e:=e') (σ:=σ') (w:=w1) (a:=a1) (f:=f') (args:=as) (fun x=>ev_rel h2 x)
               rw [has] at hm
               exact ArgsRel.append (ArgsRel.append ⟨ha,k1⟩ hm) ⟨hc,k2⟩
              have hw:Region.wanted last (yielded ops a1.tmps)=true:=by simp [Region.wanted,hg]
              simp only [wpOpsIn,hlast,hw,if_true]
              have hrun:(execOp a1.eval last).run G.P w1=.ok (.defer (deferredOf g0 (va++as.map a1.eval) vc)) w1:=by
               unfold execOp
               simp only [hop,resolve,hgv,Deferred.ofValue,Sem.run_bind,Sem.run_pure,Result.andThen]
               rfl
              refine ⟨fun _ _=>trivial,?_⟩
              rw [show (fw none).round=none from rfl,Oper.semAt_none,hrun,Oper.uponIn_defer]
              rw [hdst]
              show wpl n G.P (PostD G g0 e0 σ0 w0 N Q0 Q1) l { a1 with defers:=deferredOf g0 (va++as.map a1.eval) vc::a1.defers } w1
              rw [hd0]
              exact wpl_mono (fun x a w hp=>.inr ⟨_,_,_,e',σ',w1,h3,hargs,hp⟩) (WL_sound (n:=n) (e0:=e') (σ0:=σ') (w0:=w1) hmix hC hM hI (ds:=(0,[deferredOf g0 (va++as.map a1.eval) vc],true)) l hokl
               (a:={ a1 with defers:=[deferredOf g0 (va++as.map a1.eval) vc] }) h1 h2 (Later.refl _ _ _) h4 ⟨Nat.zero_le _,[],rfl,fun _=>rfl,List.nodup_nil,fun r h=>by cases h⟩ hq)
            ·exact hq.elim
           ·exact hq.elim
          | exit id=>cases hxr
          | goto l=>cases hxr
          | ret=>cases hxr
          | panic p=>obtain ⟨_,hxr,_⟩:=hxr;cases hxr
         ·rw [← Array.getElem?_toList,hops,Nat.zero_add,List.getElem?_append_left hj]
        ·cases hdi
       ·cases hdi
      ·cases hdi
     ·exact h.elim
end
theorem pcallsDl {G : GE} {T : Tab} {tbl : Tbl} (hT : TabOK T G.P) (hmix : G.P.follows .mixedOrders = true) (ht : TblOK G tbl) {g : FuncId} {fn : Func} {c : Code} (hf : G.P.funcs[g]? = some fn) (hb : fn.body = some c) (hname : (fn.name == "runtime.NumGoroutine") = false)
  (hok:codeOK fn.ntmps c=true) {g0:FuncId} {spR:List PV→St→(St→Prop)→Prop} {spP:PV→List PV→St→(St→Prop)→Prop} (hd:PDef G g0 spR spP) {sp:Spec}
  (h:∀args σ K,sp args σ K→∃loops unr ties keep own,σ.bx.length≤keep∧args.length≤fn.ntmps∧WDl (ctxU T tbl noIter loops unr ties) g0 (exitQ T fn keep own K) (exitD T fn keep own spR spP K) 99 [bodyOf fn] (argF 0 args) σ):PCalls G g sp where
 enters:=enters_of hf hname hb
 calls:=fun args σ K hs n e w vs hS hargs=>by
  obtain ⟨loops,unr,ties,keep,own,hk,hlen,hW⟩:=h args σ K hs
  have hbo:bodyOf fn=c:=by simp [bodyOf,hb]
  rw [hbo] at hW
  have hsz:vs.size=args.length:=hargs.1
  have hF:FRel G e σ w (argF 0 args) (vs++Array.replicate (fn.ntmps - vs.size) undef):=argF_rel args 0 fun k x hx=>by
   have hk:=(List.getElem?_eq_some_iff.1 hx).1
   have hkv:k<vs.size:=by omega
   have:(vs++Array.replicate (fn.ntmps - vs.size) undef).getD (0+k) Go.undef=vs[k]:=by
    simp [Array.getD,Array.getElem_append,hkv]
    intro h;omega
   rw [this]
   exact hargs.2 k x _ hx (Array.getElem?_eq_getElem hkv)
  have hwp:=WDl_sound (n:=n) (N:=fn.ntmps) (e0:=e) (σ0:=σ) (w0:=w) hmix (C:=ctxU T tbl noIter loops unr ties) (fun _ _ _=>⟨hT,ht.sem,fun _ _ _ _ h=>h.elim,noIter_sem,.inl rfl⟩) ⟨fun _ h1 h2=>hT.one h1 h2,ht.mono,fun _ _ _ _ h=>h.elim,rfl⟩ (fun _ _ _ _ _ h=>h) 99 [c] (fun c' hc'=>by cases List.mem_singleton.1 hc';exact hok)
   (a:={ tmps:=vs++Array.replicate (fn.ntmps - vs.size) undef,defers:=[] }) hS hF (Later.refl e σ w) (by simp;omega) rfl hW
  have hwp:c.wpIn (fw none) n G.P (PostD G g0 e σ w fn.ntmps (exitQ T fn keep own K) (exitD T fn keep own spR spP K)) { tmps:=vs++Array.replicate (fn.ntmps - vs.size) undef,defers:=[] } w:=wpIn_mono hwp fun x a' w' hp=>by
   cases x with
   | normal=>exact hp
   | _=>exact hp
  refine callsIn_of_wp_defers hf hb trivial (wpIn_mono hwp fun x a' w' hp=>?_)
  have ends:∀{f':Frame} {tm:Array Value} {e':Env} {σ':St} {w':World},SRel G e' σ' w'→FRel G e' σ' w' f' tm→Later e σ w e' σ' w' →
    (pres T f' σ'.bx fn.results.toList fun vs=>leave keep own (oneOf vs) σ' fun v σ''=>K (.ret v) σ'')→∃v,(results fn tm).run G.P w'=.ok v w'∧AfterL G e σ w K (.returned v) w':=fun h1 h2 h3 hl=>by
   obtain ⟨pvs,r,hlv,hr,hvr⟩:=results_sound (C:=ctx T tbl loops) hT h1 h2 hl
   obtain ⟨pv',σ2,e2,hK,hv2,hS2,hL2⟩:=leave_sound h1 h3 hk hvr hlv
   exact ⟨r,hr,.ret pv',σ2,e2,hK,⟨r,rfl,hv2⟩,hS2,hL2⟩
  rcases hp with ⟨pe,f',e',σ',hq,hx,h1,h2,h3,h4,⟨_,rs,h5,h5f,_⟩,h6⟩ | ⟨fa,va,vc,e1,σ1,w1,hL1,hfa,pe,f',e',σ',hq,hx,h1,h2,h3,h4,⟨_,rs,h5,h5f,_⟩,h6⟩
  ·have hd0:a'.defers=[]:=by rw [h5,h5f rfl];rfl
   cases pe with
   | normal=>obtain rfl:x=.normal:=hx;show LeavesIn _ _ _ _ _ _ _ _ _;rw [hd0];exact ends h1 h2 h3 hq
   | ret=>obtain rfl:x=.ret:=hx;show LeavesIn _ _ _ _ _ _ _ _ _;rw [hd0];exact ends h1 h2 h3 hq
   | panic p =>
    obtain ⟨v,rfl,hv⟩:=hx
    show LeavesIn _ _ _ _ _ _ _ _ _
    rw [hd0]
    obtain ⟨pv',σ2,e2,hK,hv2,hS2,hL2⟩:=leave_sound h1 h3 hk hv hq
    exact ⟨.panic pv',σ2,e2,hK,⟨v,rfl,hv2⟩,hS2,hL2⟩
   | exit id=>exact hq.elim
   | goto l=>exact hq.elim
  ·have hd0:a'.defers=[deferredOf g0 va vc]:=by rw [h5,h5f rfl];rfl
   have hL2:Later e σ w e' σ' w':=hL1.trans h3
   have hinv:(invoke (deferredOf g0 va vc).target (deferredOf g0 va vc).args).run G.P w'=.ok (.enter g0 (va++vc)) w':=by
    show (callFunc g0 (va++vc)).run G.P w'=_
    exact hd.enters _ _
   have after:∀{e2:Env} {σ2:St} {w2:World},SRel G e2 σ2 w2→Later e' σ' w' e2 σ2 w2→(pres T (cleanF f') σ2.bx fn.results.toList fun vs=>leave keep own (oneOf vs) σ2 fun v σ''=>K (.ret v) σ'')→∃v,(results fn a'.tmps).run G.P w2=.ok v w2∧AfterL G e σ w K (.returned v) w2 :=
    fun h1' hL' hl=>ends h1' (h2.clean hL') (hL2.trans hL') hl
   have hfa':ArgsRel G e' σ' w' (cleanL fa) (va++vc):=hfa.clean h3
   have go:∀u,u≠.run→CallsDIn (fw none) (n - 1) G.P g0 (va++vc) u w' (fun
     | .returned _,u',w'=>LeavesIn (fw none) n G.P fn a'.tmps (AfterL G e σ w K) [] (settle u') w'
     | .panicked chain,u',w'=>LeavesIn (fw none) n G.P fn a'.tmps (AfterL G e σ w K) [] (raised u' chain) w'
     | .outgrown,_,w'=>AfterL G e σ w K .outgrown w')→LeavesIn (fw none) n G.P fn a'.tmps (AfterL G e σ w K) [deferredOf g0 va vc] u w':=fun u hu hc =>
    ⟨hu,(fun h=>by cases h),.func g0,vc,g0,va++vc,rfl,hinv,fun _ _=>trivial,hc⟩
   cases pe with
   | normal =>
    obtain rfl:x=.normal:=hx
    show LeavesIn _ _ _ _ _ _ _ _ _
    rw [hd0]
    refine go _ (by simp) ((hd.ret _ _ _ hq _ _ _ _ h1 hfa').mono fun en u2 w2 hh=>?_)
    obtain ⟨rfl,⟨r,rfl⟩,σ2,e2,hK,hS2,hL'⟩:=hh
    exact after hS2 hL' hK
   | ret =>
    obtain rfl:x=.ret:=hx
    show LeavesIn _ _ _ _ _ _ _ _ _
    rw [hd0]
    refine go _ (by simp) ((hd.ret _ _ _ hq _ _ _ _ h1 hfa').mono fun en u2 w2 hh=>?_)
    obtain ⟨rfl,⟨r,rfl⟩,σ2,e2,hK,hS2,hL'⟩:=hh
    exact after hS2 hL' hK
   | panic p =>
    obtain ⟨v,rfl,hv⟩:=hx
    show LeavesIn _ _ _ _ _ _ _ _ _
    rw [hd0]
    refine go _ (by simp) ((hd.pan _ _ _ _ hq _ _ _ _ v h1 hfa' hv).mono fun en u2 w2 hh=>?_)
    obtain ⟨rfl,⟨r,rfl⟩,σ2,e2,hK,hS2,hL'⟩:=hh
    exact after hS2 hL' hK
   | exit id=>exact hq.elim
   | goto l=>exact hq.elim
end Go.PM
end
