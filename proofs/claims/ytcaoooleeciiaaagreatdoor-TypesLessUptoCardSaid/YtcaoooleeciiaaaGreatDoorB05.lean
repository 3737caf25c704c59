/- A part of the proof: plain logic, contracts and laws over the given program. -/
import Derived.Test.YtcaoooleeciiaaaGreatDoorB04
set_option linter.unusedVariables false
set_option linter.unusedSimpArgs false
set_option linter.all false
set_option maxRecDepth 100000
set_option maxHeartbeats 16000000
section
namespace Go.PM
def ZDT (T:Tab) (fn:Func) (keep:Nat) (K:St->Prop):PQ:=fun e f σ=>match e with
 | .normal | .ret=>pres T f σ.bx fn.results.toList fun vs=>ZjM keep true (Jc vs) σ fun _ σ'=>K σ'
 | _=>False
section
variable {G:GE}
def Zqg {T : Tab} (hT : TabOK T G.P) (be : G.P.follows .mixedOrders = true) {g : FuncId} {fn : Func} {c : Code} (hf : G.P.funcs[g]? = some fn) (hb : fn.body = some c) (ax : (fn.name == "runtime.NumGoroutine") = false)
  (ba:ZF fn.ntmps c=true) {spR:List PV->St->(St->Prop)->Prop}
  (hr:∀args σ K,spR args σ K->∃C keep,CxG G T C/\σ.bx.length<=keep/\args.length<=fn.ntmps/\W C c (ZDT T fn keep K) (Zen 0 args) σ):PDef G g spR (fun _ _ _ _=>False):=by
 refine ⟨Zg hf ax hb,fun args σ K hs n e w vs hS ah=>?_,fun pv args σ K hs=>hs.elim⟩;obtain ⟨C,keep,hC,hk,aa,hW⟩:=hr args σ K hs;refine callsDIn_of_wpSIn hf hb trivial fun c₀ cs hu=>?_
 have hsz:vs.size=args.length:=ah.1;have hF:FRel G e σ w (Zen 0 args) (vs++Array.replicate (fn.ntmps - vs.size) undef):=Zbt args 0 fun k x hx=>by
  exact mq35
 refine wpSIn_of_wpIn rfl (wpIn_mono (ZeJ (n:=n) (ro:=none) (ds:=(0,[],true)) be c (C:=C) (hC.ok _ _ _) hC.mono (fun _ _ _ _ _ _=>hC.it _ _ _ _ _) ba [] #[] (Xu _) _
  (a:={ tmps:=vs++Array.replicate (fn.ntmps - vs.size) undef,defers:=[] }) hS hF (Later.refl e σ w) sO (Marks.nil e σ (Sl _)) (fun i hi=>by cases hi) hW) fun x a' w' hp=>?_)
 obtain ⟨pe,f',e',σ',hq,hx,h1,h2,h3,h4,⟨_,rs,h5,o5,_⟩,h6⟩:=hp;have km:a'.defers=[]:=by rw [h5,o5 rfl];rfl
 have done:(pres T f' σ'.bx fn.results.toList fun vs=>ZjM keep true (Jc vs) σ' fun _ σ''=>K σ'')->∃r,(results fn a'.tmps).run G.P w'=.ok r w'/\FrameMode.returning=.returning/\(∃r',Ending.returned r=.returned r')/\∃σ' e',K σ'/\SRel G e' σ' w'/\Later e σ w e' σ' w':=fun hl=>by
  exact mq86
 cases pe with
 | normal=>obtain rfl:x=.normal:=hx;obtain ⟨r,hr,hR⟩:=done hq;exact ⟨km,.returning,by rw [<- hu],r,hr,hR⟩
 | ret=>obtain rfl:x=.ret:=hx;obtain ⟨r,hr,hR⟩:=done hq;exact ⟨km,.returning,by rw [<- hu],r,hr,hR⟩
 | exit id=>exact hq.elim
 | goto l=>exact hq.elim
 | panic p=>exact hq.elim
end
def ZDU:Code->Bool
 | .seq a b=>ZDU a || ZDU b
 | .cond _ a b=>ZDU a || ZDU b
 | .region id ops d=>(Zmx (.region id ops d)).isSome
 | _=>false
def WL (C:Cx) (Q:PQ):List Code->Frame->St->Prop
 | [],f,σ=>Q .normal f σ
 | c::l,f,σ=>W C c (fun e f σ=>match e with | .normal=>WL C Q l f σ | e=>Q e f σ) f σ
def WDl (C:Cx) (g0:FuncId) (Q0:PQ) (Q1:List PV->PQ):Nat->List Code->Frame->St->Prop
 | 0,_,_,_=>False
 | _+1,[],f,σ=>Q0 .normal f σ
 | n+1,c::l,f,σ=>match ZDU c with
  | false=>W C c (fun e f σ=>match e with | .normal=>WDl C g0 Q0 Q1 n l f σ | e=>Q0 e f σ) f σ
  | true=>match c with
   | .seq a b=>WDl C g0 Q0 Q1 n (a::b::l) f σ
   | .cond x a b=>match ev f x with | .d (.bool t)=>CondP t (WDl C g0 Q0 Q1 n (a::l) f σ) (WDl C g0 Q0 Q1 n (b::l) f σ) | _=>False
   | c=>match Zmx c with
    | some (all,init,x,args)=>Zrj C all (fun e f σ=>match e with
      | .normal=>(match ev f x with
       | .func g first caps=>(match Nat.beq g g0 with
        | true=>WL C (Q1 (XE (first++args.map (ev f)++caps))) l f σ
        | false=>False)
       | _=>False)
      | e=>Q0 e f σ) init f σ
    | none=>False
section
variable {G:GE} {C:Cx} {e0:Env} {σ0:St} {w0:World} {n N:Nat}
def wpl (n:Nat) (P:Program) (Q:Exit->Act->World->Prop):List Code->Act->World->Prop
 | [],a,w=>Q .normal a w
 | c::l,a,w=>c.wpIn (fw none) n P (Exit.then (wpl n P Q l) Q) a w
def Zn8 (be:G.P.follows .mixedOrders=true) (hC:∀e σ w,CxOK G C none e σ w) (hM:CxMono C.calm) (hI:∀g args raw σ K,¬C.iter g args raw σ K) {ds:Nat×List Deferred×Bool} {Q:PQ} :
  ∀(l:List Code),(∀c∈l,ZF N c=true)->∀{e:Env} {σ:St} {w:World} {a:Act} {f:Frame},SRel G e σ w->FRel G e σ w f a.tmps->Later e0 σ0 w0 e σ w->a.tmps.size=N->Marks ds e σ w a.defers->WL C Q l f σ ->
   wpl n G.P (ZQ G e0 σ0 w0 ds N (Kept [] #[]) Q) l a w
 | [],_,e,σ,w,a,f,hS,hF,hL,hN,bh,h=>⟨.normal,f,e,σ,h,rfl,hS,hF,hL,hN,bh,fun i hi=>by cases hi⟩
 | c::l,ba,e,σ,w,a,f,hS,hF,hL,hN,bh,h=>by
  refine wpIn_mono (ZeJ (n:=n) (ro:=none) be c (hC _ _ _) hM (fun _=>hI) (ba c sM) [] #[] (Xu _) _ hS hF hL hN bh (fun i hi=>by cases hi) h) fun x a' w' hp=>?_
  obtain ⟨pe,f',e',σ',hq,hx,h1,h2,h3,h4,h5,h6⟩:=hp
  cases pe with
  | normal=>obtain rfl:x=.normal:=hx;exact Zn8 be hC hM hI l (fun c hc=>ba c (Tt _ hc)) h1 h2 h3 h4 h5 hq
  | exit id=>obtain rfl:x=.exit id:=hx;exact ⟨.exit id,f',e',σ',hq,rfl,h1,h2,h3,h4,h5,h6⟩
  | goto l=>obtain rfl:x=.goto l:=hx;exact ⟨.goto l,f',e',σ',hq,rfl,h1,h2,h3,h4,h5,h6⟩
  | ret=>obtain rfl:x=.ret:=hx;exact ⟨.ret,f',e',σ',hq,rfl,h1,h2,h3,h4,h5,h6⟩
  | panic p=>obtain ⟨v,rfl,hv⟩:=hx;exact ⟨.panic p,f',e',σ',hq,⟨v,rfl,hv⟩,h1,h2,h3,h4,h5,h6⟩
def Zn9 {P:Program} {Q Q':Exit->Act->World->Prop} (hQ:∀x a w,Q x a w->Q' x a w):∀{l:List Code} {a:Act} {w:World},wpl n P Q l a w->wpl n P Q' l a w
 | [],a,w,h=>hQ _ _ _ h
 | c::l,a,w,h=>wpIn_mono h fun x a' w' hp=>by
  cases x with
  | normal=>exact Zn9 hQ hp
  | _=>exact hQ _ _ _ hp
def ZsE {g0:FuncId} {Q0:PQ} {Q1:List PV->PQ} (be:G.P.follows .mixedOrders=true) (hC:∀e σ w,CxOK G C none e σ w) (hM:CxMono C.calm) (hI:∀g args raw σ K,¬C.iter g args raw σ K) :
  ∀(k:Nat) (l:List Code),(∀c∈l,ZF N c=true)->∀{e:Env} {σ:St} {w:World} {a:Act} {f:Frame},SRel G e σ w->FRel G e σ w f a.tmps->Later e0 σ0 w0 e σ w->a.tmps.size=N->a.defers=[]->WDl C g0 Q0 Q1 k l f σ ->
   wpl n G.P (Zzq G g0 e0 σ0 w0 N Q0 Q1) l a w:=by
 intro k
 induction k with
 | zero=>intro l ba e σ w a f hS hF hL hN hd h;exact h.elim
 | succ k ih =>
 intro l ba e σ w a f hS hF hL hN hd h
 have ly:Marks (0,[],true) e σ w a.defers:=by rw [hd];exact Marks.nil e σ (Sl _)
 cases l with
 | nil=>exact .inl ⟨.normal,f,e,σ,h,rfl,hS,hF,hL,hN,ly,fun i hi=>by cases hi⟩
 | cons c l =>
 have ik:=ba c sM;have o6:∀c∈l,ZF N c=true:=fun c hc=>ba c (Tt _ hc)
 simp only [WDl] at h;split at h
 ·show c.wpIn (fw none) n G.P _ a w;refine wpIn_mono (ZeJ (n:=n) (ro:=none) (ds:=(0,[],true)) be c (hC _ _ _) hM (fun _=>hI) ik [] #[] (Xu _) _ hS hF hL hN ly (fun i hi=>by cases hi) h) fun x a1 w1 hp=>?_
  obtain ⟨pe,f',e',σ',hq,gm,h1,h2,h3,h4,h5,h6⟩:=hp
  cases pe with
  | normal =>
   obtain rfl:x=.normal:=gm;obtain ⟨_,rs,h5,o5,_⟩:=h5;exact ih l o6 h1 h2 h3 h4 (by rw [h5,o5 rfl];rfl) hq
  | exit id=>obtain rfl:x=.exit id:=gm;exact .inl ⟨.exit id,f',e',σ',hq,rfl,h1,h2,h3,h4,h5,h6⟩
  | goto l=>obtain rfl:x=.goto l:=gm;exact .inl ⟨.goto l,f',e',σ',hq,rfl,h1,h2,h3,h4,h5,h6⟩
  | ret=>obtain rfl:x=.ret:=gm;exact .inl ⟨.ret,f',e',σ',hq,rfl,h1,h2,h3,h4,h5,h6⟩
  | panic p=>obtain ⟨v,rfl,hv⟩:=gm;exact .inl ⟨.panic p,f',e',σ',hq,⟨v,rfl,hv⟩,h1,h2,h3,h4,h5,h6⟩
 split at h
 ·rename_i x y hD
  simp only [ZF,Tm] at ik;have:=ih (x::y::l) (fun c hc=>by
   rcases Tv.1 hc with rfl | hc
   ·exact ik.1
   rcases Tv.1 hc with rfl | hc
   ·exact ik.2
   exact o6 c hc) hS hF hL hN hd h
  refine wpIn_seq (wpIn_mono (show x.wpIn (fw none) n G.P _ a w from this) fun z a' w' hp=>?_)
  cases z with
  | normal=>exact hp
  | _=>exact hp
 ·rename_i x y z hD
  simp only [ZF,Tm] at ik;have hv:=Zc1 hF x;split at h
  ·rename_i t hc
   rw [hc] at hv
   cases t with
   | true=>exact wpIn_cond_true hv.dbool (ih (y::l) (fun c hc=>by
     rcases Tv.1 hc with rfl | hc
     ·exact ik.1
     exact o6 c hc) hS hF hL hN hd h)
   | false=>exact wpIn_cond_false hv.dbool (ih (z::l) (fun c hc=>by
     rcases Tv.1 hc with rfl | hc
     ·exact ik.2
     exact o6 c hc) hS hF hL hN hd h)
  exact h.elim
 split at h
 ·rename_i all init x args sa
  unfold Zmx at sa
  split at sa
  ·rename_i id ops hD hD1 hD2
   split at sa
   ·rename_i init' last ep
    split at sa
    ·rename_i x' args' hdc
     cases sa
     have j6:=Zat ep;obtain ⟨as,at',fp,has,hg,ack⟩:=Zgv hdc;have cn:ops.size=init.length+1:=by rw [<- Sy,j6];simp
     have yc:ops[init.length]?=some last:=by rw [<- TB,j6];simp
     simp only [ZF,Tm] at ik;have cf:∀o,o∈ops->∀d,o.dst=some d->d<N/\∀t v,Kept [] #[] t->Kept [] #[] (t.setIfInBounds d v):=fun o ho d oq=>⟨Zcr ik.1 o (TT.1 ho) d oq,fun t v _ i hi=>by cases hi⟩
     refine wpIn_region ?_;rw [show List.range ops.size=List.range' 0 init.length++[init.length] from by rw [cn,List.range_succ,List.range_eq_range']];refine Ze2 (N:=N) (Z:=Kept [] #[]) (ds:=(0,[],true)) (hC e0 σ0 w0) cf (fun x a w hx hp=>?_) (fun a1 w1 hp=>?_) init 0 (fun j hj=>?_) hS hF hL hN ly (fun i hi=>by cases hi) h
     ·cases x with
      | normal=>exact absurd rfl hx
      | _ =>
      obtain ⟨pe,f',e',σ',hq,gm,au⟩:=hp;refine .inl ⟨pe,f',e',σ',?_,gm,au⟩
      cases pe <;> first | exact hq | (cases gm;done) | (obtain ⟨_,gm,_⟩:=gm;cases gm)
     ·obtain ⟨pe,f',e',σ',hq,gm,h1,h2,h3,h4,⟨_,rs,h5,o5,_⟩,h6⟩:=hp
      cases pe with
      | normal =>
       simp only at hq;have hv:=Zc1 h2 x;split at hq
       ·rename_i g first caps bu
        split at hq
        ·rename_i hgb
         cases Tl hgb
         rw [bu] at hv;generalize hgv:a1.eval x=v at hv
         cases hv with
         | func _ _ _ va vc ha hc k1 k2 =>
         have km:a1.defers=[]:=by rw [h5,o5 rfl];rfl
         have ah:ArgsRel G e' σ' w1 (first++args.map (ev f')++caps) (va++as.map a1.eval++vc):=by
          have hm:=Zh3 (G:=G) (e:=e') (σ:=σ') (w:=w1) (a:=a1) (f:=f') (args:=as) (fun x=>Zc1 h2 x);rw [has] at hm;exact ArgsRel.append (ArgsRel.append ⟨ha,k1⟩ hm) ⟨hc,k2⟩
         have hw:Region.wanted last (yielded ops a1.tmps)=true:=by simp [Region.wanted,hg]
         simp only [wpOpsIn,yc,hw,if_true];have ai:(execOp a1.eval last).run G.P w1=.ok (.defer (Xa g0 (va++as.map a1.eval) vc)) w1:=by
          unfold execOp
          simp only [fp,resolve,hgv,Deferred.ofValue,Sem.run_bind,Sem.run_pure,Result.andThen];rfl
         refine ⟨fun _ _=>trivial,?_⟩;rw [show (fw none).round=none from rfl,Oper.semAt_none,ai,Oper.uponIn_defer];rw [ack];show wpl n G.P (Zzq G g0 e0 σ0 w0 N Q0 Q1) l { a1 with defers:=Xa g0 (va++as.map a1.eval) vc::a1.defers } w1;rw [km];exact Zn9 (fun x a w hp=>.inr ⟨_,_,_,e',σ',w1,h3,ah,hp⟩) (Zn8 (n:=n) (e0:=e') (σ0:=σ') (w0:=w1) be hC hM hI (ds:=(0,[Xa g0 (va++as.map a1.eval) vc],true)) l o6
          (a:={ a1 with defers:=[Xa g0 (va++as.map a1.eval) vc] }) h1 h2 (Later.refl _ _ _) h4 ⟨Sl _,[],rfl,fun _=>rfl,List.nodup_nil,fun r h=>by cases h⟩ hq)
        exact hq.elim
       exact hq.elim
      | exit id=>cases gm
      | goto l=>cases gm
      | ret=>cases gm
      | panic p=>obtain ⟨_,gm,_⟩:=gm;cases gm
     rw [<- TB,j6,Se,TP hj]
    cases sa
   cases sa
  cases sa
 exact h.elim
end
def Ziw {G : GE} {T : Tab} (hT : TabOK T G.P) (be : G.P.follows .mixedOrders = true) {g : FuncId} {fn : Func} {c : Code} (hf : G.P.funcs[g]? = some fn) (hb : fn.body = some c) (ax : (fn.name == "runtime.NumGoroutine") = false)
  (ba:ZF fn.ntmps c=true) {g0:FuncId} {spR:List PV->St->(St->Prop)->Prop} {spP:PV->List PV->St->(St->Prop)->Prop} (hd:PDef G g0 spR spP) {sp:Zq}
  (h:∀args σ K,sp args σ K->∃C keep own,CxG G T C/\σ.bx.length<=keep/\args.length<=fn.ntmps/\WDl C g0 (ZDx T fn keep own K) (ZDS T fn keep own spR spP K) 99 [Xm fn] (Zen 0 args) σ):PCalls G g sp where
 enters:=Zg hf ax hb
 calls:=fun args σ K hs n e w vs hS ah=>by
  obtain ⟨C,keep,own,hC,hk,aa,hW⟩:=h args σ K hs;have xw:Xm fn=c:=by simp [Xm,hb]
  rw [xw] at hW;have hsz:vs.size=args.length:=ah.1;have hF:FRel G e σ w (Zen 0 args) (vs++Array.replicate (fn.ntmps - vs.size) undef):=Zbt args 0 fun k x hx=>by
   exact mq35
  have pq:=ZsE (n:=n) (N:=fn.ntmps) (e0:=e) (σ0:=σ) (w0:=w) be (C:=C) hC.ok hC.mono hC.it 99 [c] (fun c' hc'=>by cases List.mem_singleton.1 hc';exact ba)
   (a:={ tmps:=vs++Array.replicate (fn.ntmps - vs.size) undef,defers:=[] }) hS hF (Later.refl e σ w) sO rfl hW
  have pq:c.wpIn (fw none) n G.P (Zzq G g0 e σ w fn.ntmps (ZDx T fn keep own K) (ZDS T fn keep own spR spP K)) { tmps:=vs++Array.replicate (fn.ntmps - vs.size) undef,defers:=[] } w:=wpIn_mono pq fun x a' w' hp=>by
   cases x with
   | normal=>exact hp
   | _=>exact hp
  refine callsIn_of_wp_defers hf hb trivial (wpIn_mono pq fun x a' w' hp=>?_);have ends:∀{f':Frame} {tm:Array Value} {e':Env} {σ':St} {w':World},SRel G e' σ' w'->FRel G e' σ' w' f' tm->Later e σ w e' σ' w' ->
    (pres T f' σ'.bx fn.results.toList fun vs=>ZjM keep own (Jc vs) σ' fun v σ''=>K (.ret v) σ'')->∃v,(results fn tm).run G.P w'=.ok v w'/\Xz G e σ w K (.returned v) w':=fun h1 h2 h3 hl=>by
   obtain ⟨pvs,r,hlv,hr,hvr⟩:=WD (C:=C) (by rw [hC.T];exact hT) h1 h2 (by rw [hC.T];exact hl);obtain ⟨pv',σ2,e2,hK,qa,jn,mo⟩:=W3 h1 h3 hk hvr hlv;exact ⟨r,hr,.ret pv',σ2,e2,hK,⟨r,rfl,qa⟩,jn,mo⟩
  rcases hp with ⟨pe,f',e',σ',hq,hx,h1,h2,h3,h4,⟨_,rs,h5,o5,_⟩,h6⟩ | ⟨fa,va,vc,e1,σ1,w1,rn,hfa,pe,f',e',σ',hq,hx,h1,h2,h3,h4,⟨_,rs,h5,o5,_⟩,h6⟩
  ·have km:a'.defers=[]:=by rw [h5,o5 rfl];rfl
   cases pe with
   | normal=>obtain rfl:x=.normal:=hx;show LeavesIn _ _ _ _ _ _ _ _ _;rw [km];exact ends h1 h2 h3 hq
   | ret=>obtain rfl:x=.ret:=hx;show LeavesIn _ _ _ _ _ _ _ _ _;rw [km];exact ends h1 h2 h3 hq
   | panic p =>
    obtain ⟨v,rfl,hv⟩:=hx;show LeavesIn _ _ _ _ _ _ _ _ _;rw [km];obtain ⟨pv',σ2,e2,hK,qa,jn,mo⟩:=W3 h1 h3 hk hv hq;exact ⟨.panic pv',σ2,e2,hK,⟨v,rfl,qa⟩,jn,mo⟩
   | exit id=>exact hq.elim
   | goto l=>exact hq.elim
  have km:a'.defers=[Xa g0 va vc]:=by rw [h5,o5 rfl];rfl
  have mo:Later e σ w e' σ' w':=rn.trans h3;have acp:(invoke (Xa g0 va vc).target (Xa g0 va vc).args).run G.P w'=.ok (.enter g0 (va++vc)) w':=by
   show (callFunc g0 (va++vc)).run G.P w'=_;exact hd.enters _ _
  have after:∀{e2:Env} {σ2:St} {w2:World},SRel G e2 σ2 w2->Later e' σ' w' e2 σ2 w2->(pres T (Ja f') σ2.bx fn.results.toList fun vs=>ZjM keep own (Jc vs) σ2 fun v σ''=>K (.ret v) σ'')->∃v,(results fn a'.tmps).run G.P w2=.ok v w2/\Xz G e σ w K (.returned v) w2 :=
   fun mz je hl=>ends mz (h2.clean je) (mo.trans je) hl
  have yd:ArgsRel G e' σ' w' (XE fa) (va++vc):=hfa.clean h3;have go:∀u,u≠.run->CallsDIn (fw none) (n - 1) G.P g0 (va++vc) u w' (fun
    | .returned _,u',w'=>LeavesIn (fw none) n G.P fn a'.tmps (Xz G e σ w K) [] (settle u') w'
    | .panicked chain,u',w'=>LeavesIn (fw none) n G.P fn a'.tmps (Xz G e σ w K) [] (raised u' chain) w'
    | .outgrown,_,w'=>Xz G e σ w K .outgrown w')->LeavesIn (fw none) n G.P fn a'.tmps (Xz G e σ w K) [Xa g0 va vc] u w':=fun u hu hc =>
   ⟨hu,(fun h=>by cases h),.func g0,vc,g0,va++vc,rfl,acp,fun _ _=>trivial,hc⟩
  cases pe with
  | normal =>
   obtain rfl:x=.normal:=hx;exact mq98
  | ret =>
   obtain rfl:x=.ret:=hx;exact mq98
  | panic p =>
   obtain ⟨v,rfl,hv⟩:=hx;show LeavesIn _ _ _ _ _ _ _ _ _;rw [km];refine go _ sM ((hd.pan _ _ _ _ hq _ _ _ _ v h1 yd hv).mono fun en u2 w2 hh=>?_);obtain ⟨rfl,⟨r,rfl⟩,σ2,e2,hK,jn,je⟩:=hh;exact after jn je hK
  | exit id=>exact hq.elim
  | goto l=>exact hq.elim
end Go.PM
end
