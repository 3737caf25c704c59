/- A part of the proof: plain logic, contracts and laws over the given program. -/
import Derived.Test.YtafpcgfiedfldaaGreatDoorB04
set_option linter.unusedVariables false
set_option linter.unusedSimpArgs false
set_option linter.all false
set_option maxRecDepth 100000
set_option maxHeartbeats 16000000
section
namespace Go.PM
def ZzG (T:Tab) (fn:Func) (keep:Nat) (K:St->Prop):PQ:=fun e f σ=>match e with
 | .normal | .ret=>pres T f σ.bx fn.results.toList fun vs=>ZhD keep true (Ua vs) σ fun _ σ'=>K σ'
 | _=>False
section
variable {G:GE}
def Zne {T : Tab} (hT : TabOK T G.P) (az : G.P.follows .mixedOrders = true) {g : FuncId} {fn : Func} {c : Code} (hf : G.P.funcs[g]? = some fn) (hb : fn.body = some c) (ak : (fn.name == "runtime.NumGoroutine") = false)
  (av:ZD fn.ntmps c=true) {spR:List PV->St->(St->Prop)->Prop}
  (hr:∀args σ K,spR args σ K->∃C keep,CxG G T C/\σ.bx.length<=keep/\args.length<=fn.ntmps/\W C c (ZzG T fn keep K) (Zb7 0 args) σ):PDef G g spR (fun _ _ _ _=>False):=by
 refine ⟨Zf hf ak hb,fun args σ K hs n e w vs hS ac=>?_,fun pv args σ K hs=>hs.elim⟩;obtain ⟨C,keep,hC,hk,hlen,hW⟩:=hr args σ K hs;refine callsDIn_of_wpSIn hf hb trivial fun c₀ cs hu=>?_
 have hsz:vs.size=args.length:=ac.1;have hF:FRel G e σ w (Zb7 0 args) (vs++Array.replicate (fn.ntmps - vs.size) undef):=J5 args 0 fun k x hx=>by
  exact mq37
 refine wpSIn_of_wpIn rfl (wpIn_mono (Zc7 (n:=n) (ro:=none) (ds:=(0,[],true)) az c (C:=C) (hC.ok _ _ _) hC.mono (fun _ _ _ _ _ _=>hC.it _ _ _ _ _) av [] #[] (Y4 _) _
  (a:={ tmps:=vs++Array.replicate (fn.ntmps - vs.size) undef,defers:=[] }) hS hF (Later.refl e σ w) sO (Marks.nil e σ (T6 _)) (fun i hi=>by cases hi) hW) fun x a' w' hp=>?_)
 obtain ⟨pe,f',e',σ',hq,hx,h1,h2,h3,h4,⟨_,rs,h5,ox,_⟩,h6⟩:=hp;have ke:a'.defers=[]:=by rw [h5,ox rfl];rfl
 have done:(pres T f' σ'.bx fn.results.toList fun vs=>ZhD keep true (Ua vs) σ' fun _ σ''=>K σ'')->∃r,(results fn a'.tmps).run G.P w'=.ok r w'/\FrameMode.returning=.returning/\(∃r',Ending.returned r=.returned r')/\∃σ' e',K σ'/\SRel G e' σ' w'/\Later e σ w e' σ' w':=fun hl=>by
  exact mq95
 cases pe with
 | normal=>obtain rfl:x=.normal:=hx;obtain ⟨r,hr,hR⟩:=done hq;exact ⟨ke,.returning,by rw [<- hu],r,hr,hR⟩
 | ret=>obtain rfl:x=.ret:=hx;obtain ⟨r,hr,hR⟩:=done hq;exact ⟨ke,.returning,by rw [<- hu],r,hr,hR⟩
 | exit id=>exact hq.elim
 | goto l=>exact hq.elim
 | panic p=>exact hq.elim
end
def ZzH:Code->Bool
 | .seq a b=>ZzH a || ZzH b
 | .cond _ a b=>ZzH a || ZzH b
 | .region id ops d=>(Zj2 (.region id ops d)).isSome
 | _=>false
def WL (C:Cx) (Q:PQ):List Code->Frame->St->Prop
 | [],f,σ=>Q .normal f σ
 | c::l,f,σ=>W C c (fun e f σ=>match e with | .normal=>WL C Q l f σ | e=>Q e f σ) f σ
def WDl (C:Cx) (g0:FuncId) (Q0:PQ) (Q1:List PV->PQ):Nat->List Code->Frame->St->Prop
 | 0,_,_,_=>False
 | _+1,[],f,σ=>Q0 .normal f σ
 | n+1,c::l,f,σ=>match ZzH c with
  | false=>W C c (fun e f σ=>match e with | .normal=>WDl C g0 Q0 Q1 n l f σ | e=>Q0 e f σ) f σ
  | true=>match c with
   | .seq a b=>WDl C g0 Q0 Q1 n (a::b::l) f σ
   | .cond x a b=>match ev f x with | .d (.bool t)=>CondP t (WDl C g0 Q0 Q1 n (a::l) f σ) (WDl C g0 Q0 Q1 n (b::l) f σ) | _=>False
   | c=>match Zj2 c with
    | some (all,init,x,args)=>Zn5 C all (fun e f σ=>match e with
      | .normal=>(match ev f x with
       | .func g first caps=>(match Nat.beq g g0 with
        | true=>WL C (Q1 (Xd (first++args.map (ev f)++caps))) l f σ
        | false=>False)
       | _=>False)
      | e=>Q0 e f σ) init f σ
    | none=>False
section
variable {G:GE} {C:Cx} {e0:Env} {σ0:St} {w0:World} {n N:Nat}
def wpl (n:Nat) (P:Program) (Q:Exit->Act->World->Prop):List Code->Act->World->Prop
 | [],a,w=>Q .normal a w
 | c::l,a,w=>c.wpIn (fw none) n P (Exit.then (wpl n P Q l) Q) a w
def Zll (az:G.P.follows .mixedOrders=true) (hC:∀e σ w,CxOK G C none e σ w) (hM:CxMono C.calm) (hI:∀g args raw σ K,¬C.iter g args raw σ K) {ds:Nat×List Deferred×Bool} {Q:PQ} :
  ∀(l:List Code),(∀c∈l,ZD N c=true)->∀{e:Env} {σ:St} {w:World} {a:Act} {f:Frame},SRel G e σ w->FRel G e σ w f a.tmps->Later e0 σ0 w0 e σ w->a.tmps.size=N->Marks ds e σ w a.defers->WL C Q l f σ ->
   wpl n G.P (ZL G e0 σ0 w0 ds N (Kept [] #[]) Q) l a w
 | [],_,e,σ,w,a,f,hS,hF,hL,hN,bf,h=>⟨.normal,f,e,σ,h,rfl,hS,hF,hL,hN,bf,fun i hi=>by cases hi⟩
 | c::l,av,e,σ,w,a,f,hS,hF,hL,hN,bf,h=>by
  refine wpIn_mono (Zc7 (n:=n) (ro:=none) az c (hC _ _ _) hM (fun _=>hI) (av c sM) [] #[] (Y4 _) _ hS hF hL hN bf (fun i hi=>by cases hi) h) fun x a' w' hp=>?_
  obtain ⟨pe,f',e',σ',hq,hx,h1,h2,h3,h4,h5,h6⟩:=hp
  cases pe with
  | normal=>obtain rfl:x=.normal:=hx;exact Zll az hC hM hI l (fun c hc=>av c (Tx _ hc)) h1 h2 h3 h4 h5 hq
  | exit id=>obtain rfl:x=.exit id:=hx;exact ⟨.exit id,f',e',σ',hq,rfl,h1,h2,h3,h4,h5,h6⟩
  | goto l=>obtain rfl:x=.goto l:=hx;exact ⟨.goto l,f',e',σ',hq,rfl,h1,h2,h3,h4,h5,h6⟩
  | ret=>obtain rfl:x=.ret:=hx;exact ⟨.ret,f',e',σ',hq,rfl,h1,h2,h3,h4,h5,h6⟩
  | panic p=>obtain ⟨v,rfl,hv⟩:=hx;exact ⟨.panic p,f',e',σ',hq,⟨v,rfl,hv⟩,h1,h2,h3,h4,h5,h6⟩
def Zlm {P:Program} {Q Q':Exit->Act->World->Prop} (hQ:∀x a w,Q x a w->Q' x a w):∀{l:List Code} {a:Act} {w:World},wpl n P Q l a w->wpl n P Q' l a w
 | [],a,w,h=>hQ _ _ _ h
 | c::l,a,w,h=>wpIn_mono h fun x a' w' hp=>by
  cases x with
  | normal=>exact Zlm hQ hp
  | _=>exact hQ _ _ _ hp
def Zps {g0:FuncId} {Q0:PQ} {Q1:List PV->PQ} (az:G.P.follows .mixedOrders=true) (hC:∀e σ w,CxOK G C none e σ w) (hM:CxMono C.calm) (hI:∀g args raw σ K,¬C.iter g args raw σ K) :
  ∀(k:Nat) (l:List Code),(∀c∈l,ZD N c=true)->∀{e:Env} {σ:St} {w:World} {a:Act} {f:Frame},SRel G e σ w->FRel G e σ w f a.tmps->Later e0 σ0 w0 e σ w->a.tmps.size=N->a.defers=[]->WDl C g0 Q0 Q1 k l f σ ->
   wpl n G.P (Zvx G g0 e0 σ0 w0 N Q0 Q1) l a w:=by
 intro k
 induction k with
 | zero=>intro l av e σ w a f hS hF hL hN hd h;exact h.elim
 | succ k ih =>
 intro l av e σ w a f hS hF hL hN hd h
 have lw:Marks (0,[],true) e σ w a.defers:=by rw [hd];exact Marks.nil e σ (T6 _)
 cases l with
 | nil=>exact .inl ⟨.normal,f,e,σ,h,rfl,hS,hF,hL,hN,lw,fun i hi=>by cases hi⟩
 | cons c l =>
 have ig:=av c sM;have oy:∀c∈l,ZD N c=true:=fun c hc=>av c (Tx _ hc)
 simp only [WDl] at h;split at h
 ·show c.wpIn (fw none) n G.P _ a w;refine wpIn_mono (Zc7 (n:=n) (ro:=none) (ds:=(0,[],true)) az c (hC _ _ _) hM (fun _=>hI) ig [] #[] (Y4 _) _ hS hF hL hN lw (fun i hi=>by cases hi) h) fun x a1 w1 hp=>?_
  obtain ⟨pe,f',e',σ',hq,gj,h1,h2,h3,h4,h5,h6⟩:=hp
  cases pe with
  | normal =>
   obtain rfl:x=.normal:=gj;obtain ⟨_,rs,h5,ox,_⟩:=h5;exact ih l oy h1 h2 h3 h4 (by rw [h5,ox rfl];rfl) hq
  | exit id=>obtain rfl:x=.exit id:=gj;exact .inl ⟨.exit id,f',e',σ',hq,rfl,h1,h2,h3,h4,h5,h6⟩
  | goto l=>obtain rfl:x=.goto l:=gj;exact .inl ⟨.goto l,f',e',σ',hq,rfl,h1,h2,h3,h4,h5,h6⟩
  | ret=>obtain rfl:x=.ret:=gj;exact .inl ⟨.ret,f',e',σ',hq,rfl,h1,h2,h3,h4,h5,h6⟩
  | panic p=>obtain ⟨v,rfl,hv⟩:=gj;exact .inl ⟨.panic p,f',e',σ',hq,⟨v,rfl,hv⟩,h1,h2,h3,h4,h5,h6⟩
 split at h
 ·rename_i x y hD
  simp only [ZD,Tn] at ig;have:=ih (x::y::l) (fun c hc=>by
   rcases Tu.1 hc with rfl | hc
   ·exact ig.1
   rcases Tu.1 hc with rfl | hc
   ·exact ig.2
   exact oy c hc) hS hF hL hN hd h
  refine wpIn_seq (wpIn_mono (show x.wpIn (fw none) n G.P _ a w from this) fun z a' w' hp=>?_)
  cases z with
  | normal=>exact hp
  | _=>exact hp
 ·rename_i x y z hD
  simp only [ZD,Tn] at ig;have hv:=ZbC hF x;split at h
  ·rename_i t hc
   rw [hc] at hv
   cases t with
   | true=>exact wpIn_cond_true hv.dbool (ih (y::l) (fun c hc=>by
     rcases Tu.1 hc with rfl | hc
     ·exact ig.1
     exact oy c hc) hS hF hL hN hd h)
   | false=>exact wpIn_cond_false hv.dbool (ih (z::l) (fun c hc=>by
     rcases Tu.1 hc with rfl | hc
     ·exact ig.2
     exact oy c hc) hS hF hL hN hd h)
  exact h.elim
 split at h
 ·rename_i all init x args rx
  unfold Zj2 at rx
  split at rx
  ·rename_i id ops hD hD1 hD2
   split at rx
   ·rename_i init' last em
    split at rx
    ·rename_i x' args' hdc
     cases rx
     have jv:=U9 em;obtain ⟨as,at',eg,has,hg,ab1⟩:=ZeM hdc;have cm:ops.size=init.length+1:=by rw [<- Sm,jv];simp
     have xo:ops[init.length]?=some last:=by rw [<- Tw,jv];simp
     simp only [ZD,Tn] at ig;have cd:∀o,o∈ops->∀d,o.dst=some d->d<N/\∀t v,Kept [] #[] t->Kept [] #[] (t.setIfInBounds d v):=fun o ho d oh=>⟨ZaU ig.1 o (TJ.1 ho) d oh,fun t v _ i hi=>by cases hi⟩
     refine wpIn_region ?_;rw [show List.range ops.size=List.range' 0 init.length++[init.length] from by rw [cm,List.range_succ,List.range_eq_range']];refine Zds (N:=N) (Z:=Kept [] #[]) (ds:=(0,[],true)) (hC e0 σ0 w0) cd (fun x a w hx hp=>?_) (fun a1 w1 hp=>?_) init 0 (fun j hj=>?_) hS hF hL hN lw (fun i hi=>by cases hi) h
     ·cases x with
      | normal=>exact absurd rfl hx
      | _ =>
      obtain ⟨pe,f',e',σ',hq,gj,am⟩:=hp;refine .inl ⟨pe,f',e',σ',?_,gj,am⟩
      cases pe <;> first | exact hq | (cases gj;done) | (obtain ⟨_,gj,_⟩:=gj;cases gj)
     ·obtain ⟨pe,f',e',σ',hq,gj,h1,h2,h3,h4,⟨_,rs,h5,ox,_⟩,h6⟩:=hp
      cases pe with
      | normal =>
       simp only at hq;have hv:=ZbC h2 x;split at hq
       ·rename_i g first caps bv
        split at hq
        ·rename_i hgb
         cases Tl hgb
         rw [bv] at hv;generalize hgv:a1.eval x=v at hv
         cases hv with
         | func _ _ _ va vc ha hc k1 k2 =>
         have ke:a1.defers=[]:=by rw [h5,ox rfl];rfl
         have ac:ArgsRel G e' σ' w1 (first++args.map (ev f')++caps) (va++as.map a1.eval++vc):=by
          have hm:=Zgf (G:=G) (e:=e') (σ:=σ') (w:=w1) (a:=a1) (f:=f') (args:=as) (fun x=>ZbC h2 x);rw [has] at hm;exact ArgsRel.append (ArgsRel.append ⟨ha,k1⟩ hm) ⟨hc,k2⟩
         have hw:Region.wanted last (yielded ops a1.tmps)=true:=by simp [Region.wanted,hg]
         simp only [wpOpsIn,xo,hw,if_true];have af:(execOp a1.eval last).run G.P w1=.ok (.defer (YO g0 (va++as.map a1.eval) vc)) w1:=by
          unfold execOp
          simp only [eg,resolve,hgv,Deferred.ofValue,Sem.run_bind,Sem.run_pure,Result.andThen];rfl
         refine ⟨fun _ _=>trivial,?_⟩;rw [show (fw none).round=none from rfl,Oper.semAt_none,af,Oper.uponIn_defer];rw [ab1];show wpl n G.P (Zvx G g0 e0 σ0 w0 N Q0 Q1) l { a1 with defers:=YO g0 (va++as.map a1.eval) vc::a1.defers } w1;rw [ke];exact Zlm (fun x a w hp=>.inr ⟨_,_,_,e',σ',w1,h3,ac,hp⟩) (Zll (n:=n) (e0:=e') (σ0:=σ') (w0:=w1) az hC hM hI (ds:=(0,[YO g0 (va++as.map a1.eval) vc],true)) l oy
          (a:={ a1 with defers:=[YO g0 (va++as.map a1.eval) vc] }) h1 h2 (Later.refl _ _ _) h4 ⟨T6 _,[],rfl,fun _=>rfl,List.nodup_nil,fun r h=>by cases h⟩ hq)
        exact hq.elim
       exact hq.elim
      | exit id=>cases gj
      | goto l=>cases gj
      | ret=>cases gj
      | panic p=>obtain ⟨_,gj,_⟩:=gj;cases gj
     rw [<- Tw,jv,T5,TH hj]
    cases rx
   cases rx
  cases rx
 exact h.elim
end
def Zcr {G : GE} {T : Tab} (hT : TabOK T G.P) (az : G.P.follows .mixedOrders = true) {g : FuncId} {fn : Func} {c : Code} (hf : G.P.funcs[g]? = some fn) (hb : fn.body = some c) (ak : (fn.name == "runtime.NumGoroutine") = false)
  (av:ZD fn.ntmps c=true) {g0:FuncId} {spR:List PV->St->(St->Prop)->Prop} {spP:PV->List PV->St->(St->Prop)->Prop} (hd:PDef G g0 spR spP) {sp:Zo}
  (h:∀args σ K,sp args σ K->∃C keep own,CxG G T C/\σ.bx.length<=keep/\args.length<=fn.ntmps/\WDl C g0 (Zzk T fn keep own K) (ZzF T fn keep own spR spP K) 99 [YR fn] (Zb7 0 args) σ):PCalls G g sp where
 enters:=Zf hf ak hb
 calls:=fun args σ K hs n e w vs hS ac=>by
  obtain ⟨C,keep,own,hC,hk,hlen,hW⟩:=h args σ K hs;have xg:YR fn=c:=by simp [YR,hb]
  rw [xg] at hW;have hsz:vs.size=args.length:=ac.1;have hF:FRel G e σ w (Zb7 0 args) (vs++Array.replicate (fn.ntmps - vs.size) undef):=J5 args 0 fun k x hx=>by
   exact mq37
  have pn:=Zps (n:=n) (N:=fn.ntmps) (e0:=e) (σ0:=σ) (w0:=w) az (C:=C) hC.ok hC.mono hC.it 99 [c] (fun c' hc'=>by cases List.mem_singleton.1 hc';exact av)
   (a:={ tmps:=vs++Array.replicate (fn.ntmps - vs.size) undef,defers:=[] }) hS hF (Later.refl e σ w) sO rfl hW
  have pn:c.wpIn (fw none) n G.P (Zvx G g0 e σ w fn.ntmps (Zzk T fn keep own K) (ZzF T fn keep own spR spP K)) { tmps:=vs++Array.replicate (fn.ntmps - vs.size) undef,defers:=[] } w:=wpIn_mono pn fun x a' w' hp=>by
   cases x with
   | normal=>exact hp
   | _=>exact hp
  refine callsIn_of_wp_defers hf hb trivial (wpIn_mono pn fun x a' w' hp=>?_);have ends:∀{f':Frame} {tm:Array Value} {e':Env} {σ':St} {w':World},SRel G e' σ' w'->FRel G e' σ' w' f' tm->Later e σ w e' σ' w' ->
    (pres T f' σ'.bx fn.results.toList fun vs=>ZhD keep own (Ua vs) σ' fun v σ''=>K (.ret v) σ'')->∃v,(results fn tm).run G.P w'=.ok v w'/\YD G e σ w K (.returned v) w':=fun h1 h2 h3 hl=>by
   obtain ⟨pvs,r,hlv,hr,hvr⟩:=X5 (C:=C) (by rw [hC.T];exact hT) h1 h2 (by rw [hC.T];exact hl);obtain ⟨pv',σ2,e2,hK,pt,jj,mc⟩:=Wn h1 h3 hk hvr hlv;exact ⟨r,hr,.ret pv',σ2,e2,hK,⟨r,rfl,pt⟩,jj,mc⟩
  rcases hp with ⟨pe,f',e',σ',hq,hx,h1,h2,h3,h4,⟨_,rs,h5,ox,_⟩,h6⟩ | ⟨fa,va,vc,e1,σ1,w1,qn,hfa,pe,f',e',σ',hq,hx,h1,h2,h3,h4,⟨_,rs,h5,ox,_⟩,h6⟩
  ·have ke:a'.defers=[]:=by rw [h5,ox rfl];rfl
   cases pe with
   | normal=>obtain rfl:x=.normal:=hx;show LeavesIn _ _ _ _ _ _ _ _ _;rw [ke];exact ends h1 h2 h3 hq
   | ret=>obtain rfl:x=.ret:=hx;show LeavesIn _ _ _ _ _ _ _ _ _;rw [ke];exact ends h1 h2 h3 hq
   | panic p =>
    obtain ⟨v,rfl,hv⟩:=hx;show LeavesIn _ _ _ _ _ _ _ _ _;rw [ke];obtain ⟨pv',σ2,e2,hK,pt,jj,mc⟩:=Wn h1 h3 hk hv hq;exact ⟨.panic pv',σ2,e2,hK,⟨v,rfl,pt⟩,jj,mc⟩
   | exit id=>exact hq.elim
   | goto l=>exact hq.elim
  have ke:a'.defers=[YO g0 va vc]:=by rw [h5,ox rfl];rfl
  have mc:Later e σ w e' σ' w':=qn.trans h3;have ab6:(invoke (YO g0 va vc).target (YO g0 va vc).args).run G.P w'=.ok (.enter g0 (va++vc)) w':=by
   show (callFunc g0 (va++vc)).run G.P w'=_;exact hd.enters _ _
  have after:∀{e2:Env} {σ2:St} {w2:World},SRel G e2 σ2 w2->Later e' σ' w' e2 σ2 w2->(pres T (VU f') σ2.bx fn.results.toList fun vs=>ZhD keep own (Ua vs) σ2 fun v σ''=>K (.ret v) σ'')->∃v,(results fn a'.tmps).run G.P w2=.ok v w2/\YD G e σ w K (.returned v) w2 :=
   fun n8 ik hl=>ends n8 (h2.clean ik) (mc.trans ik) hl
  have xp:ArgsRel G e' σ' w' (Xd fa) (va++vc):=hfa.clean h3;have go:∀u,u≠.run->CallsDIn (fw none) (n - 1) G.P g0 (va++vc) u w' (fun
    | .returned _,u',w'=>LeavesIn (fw none) n G.P fn a'.tmps (YD G e σ w K) [] (settle u') w'
    | .panicked chain,u',w'=>LeavesIn (fw none) n G.P fn a'.tmps (YD G e σ w K) [] (raised u' chain) w'
    | .outgrown,_,w'=>YD G e σ w K .outgrown w')->LeavesIn (fw none) n G.P fn a'.tmps (YD G e σ w K) [YO g0 va vc] u w':=fun u hu hc =>
   ⟨hu,(fun h=>by cases h),.func g0,vc,g0,va++vc,rfl,ab6,fun _ _=>trivial,hc⟩
  cases pe with
  | normal =>
   obtain rfl:x=.normal:=hx;exact mq107
  | ret =>
   obtain rfl:x=.ret:=hx;exact mq107
  | panic p =>
   obtain ⟨v,rfl,hv⟩:=hx;show LeavesIn _ _ _ _ _ _ _ _ _;rw [ke];refine go _ sM ((hd.pan _ _ _ _ hq _ _ _ _ v h1 xp hv).mono fun en u2 w2 hh=>?_);obtain ⟨rfl,⟨r,rfl⟩,σ2,e2,hK,jj,ik⟩:=hh;exact after jj ik hK
  | exit id=>exact hq.elim
  | goto l=>exact hq.elim
end Go.PM
end
