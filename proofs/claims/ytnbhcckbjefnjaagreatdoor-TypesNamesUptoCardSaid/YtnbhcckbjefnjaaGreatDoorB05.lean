/- A part of the proof: plain logic, contracts and laws over the given program. -/
import Derived.Test.YtnbhcckbjefnjaaGreatDoorB04
set_option linter.unusedVariables false
set_option linter.unusedSimpArgs false
set_option linter.all false
set_option maxRecDepth 100000
set_option maxHeartbeats 16000000
section
namespace Go.PM
def Zy4 (T:Tab) (fn:Func) (keep:Nat) (K:St->Prop):PQ:=fun e f σ=>match e with
 | .normal | .ret=>pres T f σ.bx fn.results.toList fun vs=>Zhq keep true (Uc vs) σ fun _ σ'=>K σ'
 | _=>False
section
variable {G:GE}
def ZmQ {T : Tab} (hT : TabOK T G.P) (be : G.P.follows .mixedOrders = true) {g : FuncId} {fn : Func} {c : Code} (hf : G.P.funcs[g]? = some fn) (hb : fn.body = some c) (av : (fn.name == "runtime.NumGoroutine") = false)
  (ax:ZA fn.ntmps c=true) {spR:List PV->St->(St->Prop)->Prop}
  (hr:∀args σ K,spR args σ K->∃C keep,CxG G T C/\σ.bx.length<=keep/\args.length<=fn.ntmps/\W C c (Zy4 T fn keep K) (ZcH 0 args) σ):PDef G g spR (fun _ _ _ _=>False):=by
 refine ⟨Ze hf av hb,fun args σ K hs n e w vs hS af=>?_,fun pv args σ K hs=>hs.elim⟩;obtain ⟨C,keep,hC,hk,aa,hW⟩:=hr args σ K hs;refine callsDIn_of_wpSIn hf hb trivial fun c₀ cs hu=>?_
 have hsz:vs.size=args.length:=af.1;have hF:FRel G e σ w (ZcH 0 args) (vs++Array.replicate (fn.ntmps - vs.size) undef):=Zab args 0 fun k x hx=>by
  exact mq35
 refine wpSIn_of_wpIn rfl (wpIn_mono (Zc3 (n:=n) (ro:=none) (ds:=(0,[],true)) be c (C:=C) (hC.ok _ _ _) hC.mono (fun _ _ _ _ _ _=>hC.it _ _ _ _ _) ax [] #[] (Y2 _) _
  (a:={ tmps:=vs++Array.replicate (fn.ntmps - vs.size) undef,defers:=[] }) hS hF (Later.refl e σ w) sO (Marks.nil e σ (T7 _)) (fun i hi=>by cases hi) hW) fun x a' w' hp=>?_)
 obtain ⟨pe,f',e',σ',hq,hx,h1,h2,h3,h4,⟨_,rs,h5,ol,_⟩,h6⟩:=hp;have j7:a'.defers=[]:=by rw [h5,ol rfl];rfl
 have done:(pres T f' σ'.bx fn.results.toList fun vs=>Zhq keep true (Uc vs) σ' fun _ σ''=>K σ'')->∃r,(results fn a'.tmps).run G.P w'=.ok r w'/\FrameMode.returning=.returning/\(∃r',Ending.returned r=.returned r')/\∃σ' e',K σ'/\SRel G e' σ' w'/\Later e σ w e' σ' w':=fun hl=>by
  exact mq87
 cases pe with
 | normal=>obtain rfl:x=.normal:=hx;obtain ⟨r,hr,hR⟩:=done hq;exact ⟨j7,.returning,by rw [<- hu],r,hr,hR⟩
 | ret=>obtain rfl:x=.ret:=hx;obtain ⟨r,hr,hR⟩:=done hq;exact ⟨j7,.returning,by rw [<- hu],r,hr,hR⟩
 | exit id=>exact hq.elim
 | goto l=>exact hq.elim
 | panic p=>exact hq.elim
end
def Zy5:Code->Bool
 | .seq a b=>Zy5 a || Zy5 b
 | .cond _ a b=>Zy5 a || Zy5 b
 | .region id ops d=>(ZjF (.region id ops d)).isSome
 | _=>false
def WL (C:Cx) (Q:PQ):List Code->Frame->St->Prop
 | [],f,σ=>Q .normal f σ
 | c::l,f,σ=>W C c (fun e f σ=>match e with | .normal=>WL C Q l f σ | e=>Q e f σ) f σ
def WDl (C:Cx) (g0:FuncId) (Q0:PQ) (Q1:List PV->PQ):Nat->List Code->Frame->St->Prop
 | 0,_,_,_=>False
 | _+1,[],f,σ=>Q0 .normal f σ
 | n+1,c::l,f,σ=>match Zy5 c with
  | false=>W C c (fun e f σ=>match e with | .normal=>WDl C g0 Q0 Q1 n l f σ | e=>Q0 e f σ) f σ
  | true=>match c with
   | .seq a b=>WDl C g0 Q0 Q1 n (a::b::l) f σ
   | .cond x a b=>match ev f x with | .d (.bool t)=>CondP t (WDl C g0 Q0 Q1 n (a::l) f σ) (WDl C g0 Q0 Q1 n (b::l) f σ) | _=>False
   | c=>match ZjF c with
    | some (all,init,x,args)=>ZnJ C all (fun e f σ=>match e with
      | .normal=>(match ev f x with
       | .func g first caps=>(match Nat.beq g g0 with
        | true=>WL C (Q1 (Xc (first++args.map (ev f)++caps))) l f σ
        | false=>False)
       | _=>False)
      | e=>Q0 e f σ) init f σ
    | none=>False
section
variable {G:GE} {C:Cx} {e0:Env} {σ0:St} {w0:World} {n N:Nat}
def wpl (n:Nat) (P:Program) (Q:Exit->Act->World->Prop):List Code->Act->World->Prop
 | [],a,w=>Q .normal a w
 | c::l,a,w=>c.wpIn (fw none) n P (Exit.then (wpl n P Q l) Q) a w
def ZkU (be:G.P.follows .mixedOrders=true) (hC:∀e σ w,CxOK G C none e σ w) (hM:CxMono C.calm) (hI:∀g args raw σ K,¬C.iter g args raw σ K) {ds:Nat×List Deferred×Bool} {Q:PQ} :
  ∀(l:List Code),(∀c∈l,ZA N c=true)->∀{e:Env} {σ:St} {w:World} {a:Act} {f:Frame},SRel G e σ w->FRel G e σ w f a.tmps->Later e0 σ0 w0 e σ w->a.tmps.size=N->Marks ds e σ w a.defers->WL C Q l f σ ->
   wpl n G.P (ZJ G e0 σ0 w0 ds N (Kept [] #[]) Q) l a w
 | [],_,e,σ,w,a,f,hS,hF,hL,hN,bf,h=>⟨.normal,f,e,σ,h,rfl,hS,hF,hL,hN,bf,fun i hi=>by cases hi⟩
 | c::l,ax,e,σ,w,a,f,hS,hF,hL,hN,bf,h=>by
  refine wpIn_mono (Zc3 (n:=n) (ro:=none) be c (hC _ _ _) hM (fun _=>hI) (ax c sM) [] #[] (Y2 _) _ hS hF hL hN bf (fun i hi=>by cases hi) h) fun x a' w' hp=>?_
  obtain ⟨pe,f',e',σ',hq,hx,h1,h2,h3,h4,h5,h6⟩:=hp
  cases pe with
  | normal=>obtain rfl:x=.normal:=hx;exact ZkU be hC hM hI l (fun c hc=>ax c (Tz _ hc)) h1 h2 h3 h4 h5 hq
  | exit id=>obtain rfl:x=.exit id:=hx;exact ⟨.exit id,f',e',σ',hq,rfl,h1,h2,h3,h4,h5,h6⟩
  | goto l=>obtain rfl:x=.goto l:=hx;exact ⟨.goto l,f',e',σ',hq,rfl,h1,h2,h3,h4,h5,h6⟩
  | ret=>obtain rfl:x=.ret:=hx;exact ⟨.ret,f',e',σ',hq,rfl,h1,h2,h3,h4,h5,h6⟩
  | panic p=>obtain ⟨v,rfl,hv⟩:=hx;exact ⟨.panic p,f',e',σ',hq,⟨v,rfl,hv⟩,h1,h2,h3,h4,h5,h6⟩
def ZkV {P:Program} {Q Q':Exit->Act->World->Prop} (hQ:∀x a w,Q x a w->Q' x a w):∀{l:List Code} {a:Act} {w:World},wpl n P Q l a w->wpl n P Q' l a w
 | [],a,w,h=>hQ _ _ _ h
 | c::l,a,w,h=>wpIn_mono h fun x a' w' hp=>by
  cases x with
  | normal=>exact ZkV hQ hp
  | _=>exact hQ _ _ _ hp
def Zo9 {g0:FuncId} {Q0:PQ} {Q1:List PV->PQ} (be:G.P.follows .mixedOrders=true) (hC:∀e σ w,CxOK G C none e σ w) (hM:CxMono C.calm) (hI:∀g args raw σ K,¬C.iter g args raw σ K) :
  ∀(k:Nat) (l:List Code),(∀c∈l,ZA N c=true)->∀{e:Env} {σ:St} {w:World} {a:Act} {f:Frame},SRel G e σ w->FRel G e σ w f a.tmps->Later e0 σ0 w0 e σ w->a.tmps.size=N->a.defers=[]->WDl C g0 Q0 Q1 k l f σ ->
   wpl n G.P (Zvd G g0 e0 σ0 w0 N Q0 Q1) l a w:=by
 intro k
 induction k with
 | zero=>intro l ax e σ w a f hS hF hL hN hd h;exact h.elim
 | succ k ih =>
 intro l ax e σ w a f hS hF hL hN hd h
 have lp:Marks (0,[],true) e σ w a.defers:=by rw [hd];exact Marks.nil e σ (T7 _)
 cases l with
 | nil=>exact .inl ⟨.normal,f,e,σ,h,rfl,hS,hF,hL,hN,lp,fun i hi=>by cases hi⟩
 | cons c l =>
 have gw:=ax c sM;have om:∀c∈l,ZA N c=true:=fun c hc=>ax c (Tz _ hc)
 simp only [WDl] at h;split at h
 ·show c.wpIn (fw none) n G.P _ a w;refine wpIn_mono (Zc3 (n:=n) (ro:=none) (ds:=(0,[],true)) be c (hC _ _ _) hM (fun _=>hI) gw [] #[] (Y2 _) _ hS hF hL hN lp (fun i hi=>by cases hi) h) fun x a1 w1 hp=>?_
  obtain ⟨pe,f',e',σ',hq,gc,h1,h2,h3,h4,h5,h6⟩:=hp
  cases pe with
  | normal =>
   obtain rfl:x=.normal:=gc;obtain ⟨_,rs,h5,ol,_⟩:=h5;exact ih l om h1 h2 h3 h4 (by rw [h5,ol rfl];rfl) hq
  | exit id=>obtain rfl:x=.exit id:=gc;exact .inl ⟨.exit id,f',e',σ',hq,rfl,h1,h2,h3,h4,h5,h6⟩
  | goto l=>obtain rfl:x=.goto l:=gc;exact .inl ⟨.goto l,f',e',σ',hq,rfl,h1,h2,h3,h4,h5,h6⟩
  | ret=>obtain rfl:x=.ret:=gc;exact .inl ⟨.ret,f',e',σ',hq,rfl,h1,h2,h3,h4,h5,h6⟩
  | panic p=>obtain ⟨v,rfl,hv⟩:=gc;exact .inl ⟨.panic p,f',e',σ',hq,⟨v,rfl,hv⟩,h1,h2,h3,h4,h5,h6⟩
 split at h
 ·rename_i x y hD
  simp only [ZA,Tm] at gw;have:=ih (x::y::l) (fun c hc=>by
   rcases Tt.1 hc with rfl | hc
   ·exact gw.1
   rcases Tt.1 hc with rfl | hc
   ·exact gw.2
   exact om c hc) hS hF hL hN hd h
  refine wpIn_seq (wpIn_mono (show x.wpIn (fw none) n G.P _ a w from this) fun z a' w' hp=>?_)
  cases z with
  | normal=>exact hp
  | _=>exact hp
 ·rename_i x y z hD
  simp only [ZA,Tm] at gw;have hv:=Zby hF x;split at h
  ·rename_i t hc
   rw [hc] at hv
   cases t with
   | true=>exact wpIn_cond_true hv.dbool (ih (y::l) (fun c hc=>by
     rcases Tt.1 hc with rfl | hc
     ·exact gw.1
     exact om c hc) hS hF hL hN hd h)
   | false=>exact wpIn_cond_false hv.dbool (ih (z::l) (fun c hc=>by
     rcases Tt.1 hc with rfl | hc
     ·exact gw.2
     exact om c hc) hS hF hL hN hd h)
  exact h.elim
 split at h
 ·rename_i all init x args rl
  unfold ZjF at rl
  split at rl
  ·rename_i id ops hD hD1 hD2
   split at rl
   ·rename_i init' last ee
    split at rl
    ·rename_i x' args' hdc
     cases rl
     have jq:=Jh ee;obtain ⟨as,at',gt,has,hg,ab7⟩:=Zes hdc;have cp:ops.size=init.length+1:=by rw [<- Sr,jq];simp
     have xk:ops[init.length]?=some last:=by rw [<- Tw,jq];simp
     simp only [ZA,Tm] at gw;have cg:∀o,o∈ops->∀d,o.dst=some d->d<N/\∀t v,Kept [] #[] t->Kept [] #[] (t.setIfInBounds d v):=fun o ho d n8=>⟨ZaY gw.1 o (TJ.1 ho) d n8,fun t v _ i hi=>by cases hi⟩
     refine wpIn_region ?_;rw [show List.range ops.size=List.range' 0 init.length++[init.length] from by rw [cp,List.range_succ,List.range_eq_range']];refine Zdo (N:=N) (Z:=Kept [] #[]) (ds:=(0,[],true)) (hC e0 σ0 w0) cg (fun x a w hx hp=>?_) (fun a1 w1 hp=>?_) init 0 (fun j hj=>?_) hS hF hL hN lp (fun i hi=>by cases hi) h
     ·cases x with
      | normal=>exact absurd rfl hx
      | _ =>
      obtain ⟨pe,f',e',σ',hq,gc,am⟩:=hp;refine .inl ⟨pe,f',e',σ',?_,gc,am⟩
      cases pe <;> first | exact hq | (cases gc;done) | (obtain ⟨_,gc,_⟩:=gc;cases gc)
     ·obtain ⟨pe,f',e',σ',hq,gc,h1,h2,h3,h4,⟨_,rs,h5,ol,_⟩,h6⟩:=hp
      cases pe with
      | normal =>
       simp only at hq;have hv:=Zby h2 x;split at hq
       ·rename_i g first caps bu
        split at hq
        ·rename_i hgb
         cases Tk hgb
         rw [bu] at hv;generalize hgv:a1.eval x=v at hv
         cases hv with
         | func _ _ _ va vc ha hc k1 k2 =>
         have j7:a1.defers=[]:=by rw [h5,ol rfl];rfl
         have af:ArgsRel G e' σ' w1 (first++args.map (ev f')++caps) (va++as.map a1.eval++vc):=by
          have hm:=Zf1 (G:=G) (e:=e') (σ:=σ') (w:=w1) (a:=a1) (f:=f') (args:=as) (fun x=>Zby h2 x);rw [has] at hm;exact ArgsRel.append (ArgsRel.append ⟨ha,k1⟩ hm) ⟨hc,k2⟩
         have hw:Region.wanted last (yielded ops a1.tmps)=true:=by simp [Region.wanted,hg]
         simp only [wpOpsIn,xk,hw,if_true];have ah:(execOp a1.eval last).run G.P w1=.ok (.defer (YK g0 (va++as.map a1.eval) vc)) w1:=by
          unfold execOp
          simp only [gt,resolve,hgv,Deferred.ofValue,Sem.run_bind,Sem.run_pure,Result.andThen];rfl
         refine ⟨fun _ _=>trivial,?_⟩;rw [show (fw none).round=none from rfl,Oper.semAt_none,ah,Oper.uponIn_defer];rw [ab7];show wpl n G.P (Zvd G g0 e0 σ0 w0 N Q0 Q1) l { a1 with defers:=YK g0 (va++as.map a1.eval) vc::a1.defers } w1;rw [j7];exact ZkV (fun x a w hp=>.inr ⟨_,_,_,e',σ',w1,h3,af,hp⟩) (ZkU (n:=n) (e0:=e') (σ0:=σ') (w0:=w1) be hC hM hI (ds:=(0,[YK g0 (va++as.map a1.eval) vc],true)) l om
          (a:={ a1 with defers:=[YK g0 (va++as.map a1.eval) vc] }) h1 h2 (Later.refl _ _ _) h4 ⟨T7 _,[],rfl,fun _=>rfl,List.nodup_nil,fun r h=>by cases h⟩ hq)
        exact hq.elim
       exact hq.elim
      | exit id=>cases gc
      | goto l=>cases gc
      | ret=>cases gc
      | panic p=>obtain ⟨_,gc,_⟩:=gc;cases gc
     rw [<- Tw,jq,Sa,TN hj]
    cases rl
   cases rl
  cases rl
 exact h.elim
end
def Zgy {G : GE} {T : Tab} (hT : TabOK T G.P) (be : G.P.follows .mixedOrders = true) {g : FuncId} {fn : Func} {c : Code} (hf : G.P.funcs[g]? = some fn) (hb : fn.body = some c) (av : (fn.name == "runtime.NumGoroutine") = false)
  (ax:ZA fn.ntmps c=true) {g0:FuncId} {spR:List PV->St->(St->Prop)->Prop} {spP:PV->List PV->St->(St->Prop)->Prop} (hd:PDef G g0 spR spP) {sp:Zp}
  (h:∀args σ K,sp args σ K->∃C keep own,CxG G T C/\σ.bx.length<=keep/\args.length<=fn.ntmps/\WDl C g0 (ZyH T fn keep own K) (Zy3 T fn keep own spR spP K) 99 [YW fn] (ZcH 0 args) σ):PCalls G g sp where
 enters:=Ze hf av hb
 calls:=fun args σ K hs n e w vs hS af=>by
  obtain ⟨C,keep,own,hC,hk,aa,hW⟩:=h args σ K hs;have xa:YW fn=c:=by simp [YW,hb]
  rw [xa] at hW;have hsz:vs.size=args.length:=af.1;have hF:FRel G e σ w (ZcH 0 args) (vs++Array.replicate (fn.ntmps - vs.size) undef):=Zab args 0 fun k x hx=>by
   exact mq35
  have o6:=Zo9 (n:=n) (N:=fn.ntmps) (e0:=e) (σ0:=σ) (w0:=w) be (C:=C) hC.ok hC.mono hC.it 99 [c] (fun c' hc'=>by cases List.mem_singleton.1 hc';exact ax)
   (a:={ tmps:=vs++Array.replicate (fn.ntmps - vs.size) undef,defers:=[] }) hS hF (Later.refl e σ w) sO rfl hW
  have o6:c.wpIn (fw none) n G.P (Zvd G g0 e σ w fn.ntmps (ZyH T fn keep own K) (Zy3 T fn keep own spR spP K)) { tmps:=vs++Array.replicate (fn.ntmps - vs.size) undef,defers:=[] } w:=wpIn_mono o6 fun x a' w' hp=>by
   cases x with
   | normal=>exact hp
   | _=>exact hp
  refine callsIn_of_wp_defers hf hb trivial (wpIn_mono o6 fun x a' w' hp=>?_);have ends:∀{f':Frame} {tm:Array Value} {e':Env} {σ':St} {w':World},SRel G e' σ' w'->FRel G e' σ' w' f' tm->Later e σ w e' σ' w' ->
    (pres T f' σ'.bx fn.results.toList fun vs=>Zhq keep own (Uc vs) σ' fun v σ''=>K (.ret v) σ'')->∃v,(results fn tm).run G.P w'=.ok v w'/\Y8 G e σ w K (.returned v) w':=fun h1 h2 h3 hl=>by
   obtain ⟨pvs,r,hlv,hr,hvr⟩:=X9 (C:=C) (by rw [hC.T];exact hT) h1 h2 (by rw [hC.T];exact hl);obtain ⟨pv',σ2,e2,hK,ph,jc,l9⟩:=Ws h1 h3 hk hvr hlv;exact ⟨r,hr,.ret pv',σ2,e2,hK,⟨r,rfl,ph⟩,jc,l9⟩
  rcases hp with ⟨pe,f',e',σ',hq,hx,h1,h2,h3,h4,⟨_,rs,h5,ol,_⟩,h6⟩ | ⟨fa,va,vc,e1,σ1,w1,qz,hfa,pe,f',e',σ',hq,hx,h1,h2,h3,h4,⟨_,rs,h5,ol,_⟩,h6⟩
  ·have j7:a'.defers=[]:=by rw [h5,ol rfl];rfl
   cases pe with
   | normal=>obtain rfl:x=.normal:=hx;show LeavesIn _ _ _ _ _ _ _ _ _;rw [j7];exact ends h1 h2 h3 hq
   | ret=>obtain rfl:x=.ret:=hx;show LeavesIn _ _ _ _ _ _ _ _ _;rw [j7];exact ends h1 h2 h3 hq
   | panic p =>
    obtain ⟨v,rfl,hv⟩:=hx;show LeavesIn _ _ _ _ _ _ _ _ _;rw [j7];obtain ⟨pv',σ2,e2,hK,ph,jc,l9⟩:=Ws h1 h3 hk hv hq;exact ⟨.panic pv',σ2,e2,hK,⟨v,rfl,ph⟩,jc,l9⟩
   | exit id=>exact hq.elim
   | goto l=>exact hq.elim
  have j7:a'.defers=[YK g0 va vc]:=by rw [h5,ol rfl];rfl
  have l9:Later e σ w e' σ' w':=qz.trans h3;have acd:(invoke (YK g0 va vc).target (YK g0 va vc).args).run G.P w'=.ok (.enter g0 (va++vc)) w':=by
   show (callFunc g0 (va++vc)).run G.P w'=_;exact hd.enters _ _
  have after:∀{e2:Env} {σ2:St} {w2:World},SRel G e2 σ2 w2->Later e' σ' w' e2 σ2 w2->(pres T (Ua f') σ2.bx fn.results.toList fun vs=>Zhq keep own (Uc vs) σ2 fun v σ''=>K (.ret v) σ'')->∃v,(results fn a'.tmps).run G.P w2=.ok v w2/\Y8 G e σ w K (.returned v) w2 :=
   fun nv ir hl=>ends nv (h2.clean ir) (l9.trans ir) hl
  have xl:ArgsRel G e' σ' w' (Xc fa) (va++vc):=hfa.clean h3;have go:∀u,u≠.run->CallsDIn (fw none) (n - 1) G.P g0 (va++vc) u w' (fun
    | .returned _,u',w'=>LeavesIn (fw none) n G.P fn a'.tmps (Y8 G e σ w K) [] (settle u') w'
    | .panicked chain,u',w'=>LeavesIn (fw none) n G.P fn a'.tmps (Y8 G e σ w K) [] (raised u' chain) w'
    | .outgrown,_,w'=>Y8 G e σ w K .outgrown w')->LeavesIn (fw none) n G.P fn a'.tmps (Y8 G e σ w K) [YK g0 va vc] u w':=fun u hu hc =>
   ⟨hu,(fun h=>by cases h),.func g0,vc,g0,va++vc,rfl,acd,fun _ _=>trivial,hc⟩
  cases pe with
  | normal =>
   obtain rfl:x=.normal:=hx;exact mq99
  | ret =>
   obtain rfl:x=.ret:=hx;exact mq99
  | panic p =>
   obtain ⟨v,rfl,hv⟩:=hx;show LeavesIn _ _ _ _ _ _ _ _ _;rw [j7];refine go _ sM ((hd.pan _ _ _ _ hq _ _ _ _ v h1 xl hv).mono fun en u2 w2 hh=>?_);obtain ⟨rfl,⟨r,rfl⟩,σ2,e2,hK,jc,ir⟩:=hh;exact after jc ir hK
  | exit id=>exact hq.elim
  | goto l=>exact hq.elim
end Go.PM
end
