/- A part of the proof: plain logic, contracts and laws over the given program. -/
import Derived.Test.YtcifacgjebbdbaaGreatDoorB04
set_option linter.unusedVariables false
set_option linter.unusedSimpArgs false
set_option linter.all false
set_option maxRecDepth 100000
set_option maxHeartbeats 16000000
section
namespace Go.PM
def ZzB (T:Tab) (fn:Func) (keep:Nat) (K:St->Prop):PQ:=fun e f σ=>match e with
 | .normal | .ret=>pres T f σ.bx fn.results.toList fun vs=>Zhv keep true (Ju vs) σ fun _ σ'=>K σ'
 | _=>False
section
variable {G:GE}
def ZmO {T : Tab} (hT : TabOK T G.P) (bf : G.P.follows .mixedOrders = true) {g : FuncId} {fn : Func} {c : Code} (hf : G.P.funcs[g]? = some fn) (hb : fn.body = some c) (av : (fn.name == "runtime.NumGoroutine") = false)
  (ao:ZJ fn.ntmps c=true) {spR:List PV->St->(St->Prop)->Prop}
  (hr:∀args σ K,spR args σ K->∃C keep,CxG G T C/\σ.bx.length<=keep/\args.length<=fn.ntmps/\W C c (ZzB T fn keep K) (Zeo 0 args) σ):PDef G g spR (fun _ _ _ _=>False):=by
 refine ⟨Zl hf av hb,fun args σ K hs n e w vs hS af=>?_,fun pv args σ K hs=>hs.elim⟩;obtain ⟨C,keep,hC,hk,aa,hW⟩:=hr args σ K hs;refine callsDIn_of_wpSIn hf hb trivial fun c₀ cs hu=>?_
 have hsz:vs.size=args.length:=af.1;have hF:FRel G e σ w (Zeo 0 args) (vs++Array.replicate (fn.ntmps - vs.size) undef):=Zad args 0 fun k x hx=>by
  exact mq32
 refine wpSIn_of_wpIn rfl (wpIn_mono (Zc9 (n:=n) (ro:=none) (ds:=(0,[],true)) bf c (C:=C) (hC.ok _ _ _) hC.mono (fun _ _ _ _ _ _=>hC.it _ _ _ _ _) ao [] #[] (Y1 _) _
  (a:={ tmps:=vs++Array.replicate (fn.ntmps - vs.size) undef,defers:=[] }) hS hF (Later.refl e σ w) sO (Marks.nil e σ (Se _)) (fun i hi=>by cases hi) hW) fun x a' w' hp=>?_)
 obtain ⟨pe,f',e',σ',hq,hx,h1,h2,h3,h4,⟨_,rs,h5,pg,_⟩,h6⟩:=hp;have ey:a'.defers=[]:=by rw [h5,pg rfl];rfl
 have done:(pres T f' σ'.bx fn.results.toList fun vs=>Zhv keep true (Ju vs) σ' fun _ σ''=>K σ'')->∃r,(results fn a'.tmps).run G.P w'=.ok r w'/\FrameMode.returning=.returning/\(∃r',Ending.returned r=.returned r')/\∃σ' e',K σ'/\SRel G e' σ' w'/\Later e σ w e' σ' w':=fun hl=>by
  exact mq90
 cases pe with
 | normal=>obtain rfl:x=.normal:=hx;obtain ⟨r,hr,hR⟩:=done hq;exact ⟨ey,.returning,by rw [<- hu],r,hr,hR⟩
 | ret=>obtain rfl:x=.ret:=hx;obtain ⟨r,hr,hR⟩:=done hq;exact ⟨ey,.returning,by rw [<- hu],r,hr,hR⟩
 | exit id=>exact hq.elim
 | goto l=>exact hq.elim
 | panic p=>exact hq.elim
end
def ZzC:Code->Bool
 | .seq a b=>ZzC a || ZzC b
 | .cond _ a b=>ZzC a || ZzC b
 | .region id ops d=>(ZjI (.region id ops d)).isSome
 | _=>false
def WL (C:Cx) (Q:PQ):List Code->Frame->St->Prop
 | [],f,σ=>Q .normal f σ
 | c::l,f,σ=>W C c (fun e f σ=>match e with | .normal=>WL C Q l f σ | e=>Q e f σ) f σ
def WDl (C:Cx) (g0:FuncId) (Q0:PQ) (Q1:List PV->PQ):Nat->List Code->Frame->St->Prop
 | 0,_,_,_=>False
 | _+1,[],f,σ=>Q0 .normal f σ
 | n+1,c::l,f,σ=>match ZzC c with
  | false=>W C c (fun e f σ=>match e with | .normal=>WDl C g0 Q0 Q1 n l f σ | e=>Q0 e f σ) f σ
  | true=>match c with
   | .seq a b=>WDl C g0 Q0 Q1 n (a::b::l) f σ
   | .cond x a b=>match ev f x with | .d (.bool t)=>CondP t (WDl C g0 Q0 Q1 n (a::l) f σ) (WDl C g0 Q0 Q1 n (b::l) f σ) | _=>False
   | c=>match ZjI c with
    | some (all,init,x,args)=>Zrj C all (fun e f σ=>match e with
      | .normal=>(match ev f x with
       | .func g first caps=>(match Nat.beq g g0 with
        | true=>WL C (Q1 (Xr (first++args.map (ev f)++caps))) l f σ
        | false=>False)
       | _=>False)
      | e=>Q0 e f σ) init f σ
    | none=>False
section
variable {G:GE} {C:Cx} {e0:Env} {σ0:St} {w0:World} {n N:Nat}
def wpl (n:Nat) (P:Program) (Q:Exit->Act->World->Prop):List Code->Act->World->Prop
 | [],a,w=>Q .normal a w
 | c::l,a,w=>c.wpIn (fw none) n P (Exit.then (wpl n P Q l) Q) a w
def Zk7 (bf:G.P.follows .mixedOrders=true) (hC:∀e σ w,CxOK G C none e σ w) (hM:CxMono C.calm) (hI:∀g args raw σ K,¬C.iter g args raw σ K) {ds:Nat×List Deferred×Bool} {Q:PQ} :
  ∀(l:List Code),(∀c∈l,ZJ N c=true)->∀{e:Env} {σ:St} {w:World} {a:Act} {f:Frame},SRel G e σ w->FRel G e σ w f a.tmps->Later e0 σ0 w0 e σ w->a.tmps.size=N->Marks ds e σ w a.defers->WL C Q l f σ ->
   wpl n G.P (ZP G e0 σ0 w0 ds N (Kept [] #[]) Q) l a w
 | [],_,e,σ,w,a,f,hS,hF,hL,hN,bc,h=>⟨.normal,f,e,σ,h,rfl,hS,hF,hL,hN,bc,fun i hi=>by cases hi⟩
 | c::l,ao,e,σ,w,a,f,hS,hF,hL,hN,bc,h=>by
  refine wpIn_mono (Zc9 (n:=n) (ro:=none) bf c (hC _ _ _) hM (fun _=>hI) (ao c sM) [] #[] (Y1 _) _ hS hF hL hN bc (fun i hi=>by cases hi) h) fun x a' w' hp=>?_
  obtain ⟨pe,f',e',σ',hq,hx,h1,h2,h3,h4,h5,h6⟩:=hp
  cases pe with
  | normal=>obtain rfl:x=.normal:=hx;exact Zk7 bf hC hM hI l (fun c hc=>ao c (TA _ hc)) h1 h2 h3 h4 h5 hq
  | exit id=>obtain rfl:x=.exit id:=hx;exact ⟨.exit id,f',e',σ',hq,rfl,h1,h2,h3,h4,h5,h6⟩
  | goto l=>obtain rfl:x=.goto l:=hx;exact ⟨.goto l,f',e',σ',hq,rfl,h1,h2,h3,h4,h5,h6⟩
  | ret=>obtain rfl:x=.ret:=hx;exact ⟨.ret,f',e',σ',hq,rfl,h1,h2,h3,h4,h5,h6⟩
  | panic p=>obtain ⟨v,rfl,hv⟩:=hx;exact ⟨.panic p,f',e',σ',hq,⟨v,rfl,hv⟩,h1,h2,h3,h4,h5,h6⟩
def Zk8 {P:Program} {Q Q':Exit->Act->World->Prop} (hQ:∀x a w,Q x a w->Q' x a w):∀{l:List Code} {a:Act} {w:World},wpl n P Q l a w->wpl n P Q' l a w
 | [],a,w,h=>hQ _ _ _ h
 | c::l,a,w,h=>wpIn_mono h fun x a' w' hp=>by
  cases x with
  | normal=>exact Zk8 hQ hp
  | _=>exact hQ _ _ _ hp
def Zpb {g0:FuncId} {Q0:PQ} {Q1:List PV->PQ} (bf:G.P.follows .mixedOrders=true) (hC:∀e σ w,CxOK G C none e σ w) (hM:CxMono C.calm) (hI:∀g args raw σ K,¬C.iter g args raw σ K) :
  ∀(k:Nat) (l:List Code),(∀c∈l,ZJ N c=true)->∀{e:Env} {σ:St} {w:World} {a:Act} {f:Frame},SRel G e σ w->FRel G e σ w f a.tmps->Later e0 σ0 w0 e σ w->a.tmps.size=N->a.defers=[]->WDl C g0 Q0 Q1 k l f σ ->
   wpl n G.P (ZvS G g0 e0 σ0 w0 N Q0 Q1) l a w:=by
 intro k
 induction k with
 | zero=>intro l ao e σ w a f hS hF hL hN hd h;exact h.elim
 | succ k ih =>
 intro l ao e σ w a f hS hF hL hN hd h
 have me:Marks (0,[],true) e σ w a.defers:=by rw [hd];exact Marks.nil e σ (Se _)
 cases l with
 | nil=>exact .inl ⟨.normal,f,e,σ,h,rfl,hS,hF,hL,hN,me,fun i hi=>by cases hi⟩
 | cons c l =>
 have i5:=ao c sM;have ph:∀c∈l,ZJ N c=true:=fun c hc=>ao c (TA _ hc)
 simp only [WDl] at h;split at h
 ·show c.wpIn (fw none) n G.P _ a w;refine wpIn_mono (Zc9 (n:=n) (ro:=none) (ds:=(0,[],true)) bf c (hC _ _ _) hM (fun _=>hI) i5 [] #[] (Y1 _) _ hS hF hL hN me (fun i hi=>by cases hi) h) fun x a1 w1 hp=>?_
  obtain ⟨pe,f',e',σ',hq,ib,h1,h2,h3,h4,h5,h6⟩:=hp
  cases pe with
  | normal =>
   obtain rfl:x=.normal:=ib;obtain ⟨_,rs,h5,pg,_⟩:=h5;exact ih l ph h1 h2 h3 h4 (by rw [h5,pg rfl];rfl) hq
  | exit id=>obtain rfl:x=.exit id:=ib;exact .inl ⟨.exit id,f',e',σ',hq,rfl,h1,h2,h3,h4,h5,h6⟩
  | goto l=>obtain rfl:x=.goto l:=ib;exact .inl ⟨.goto l,f',e',σ',hq,rfl,h1,h2,h3,h4,h5,h6⟩
  | ret=>obtain rfl:x=.ret:=ib;exact .inl ⟨.ret,f',e',σ',hq,rfl,h1,h2,h3,h4,h5,h6⟩
  | panic p=>obtain ⟨v,rfl,hv⟩:=ib;exact .inl ⟨.panic p,f',e',σ',hq,⟨v,rfl,hv⟩,h1,h2,h3,h4,h5,h6⟩
 split at h
 ·rename_i x y hD
  simp only [ZJ,Tm] at i5;have:=ih (x::y::l) (fun c hc=>by
   rcases Tv.1 hc with rfl | hc
   ·exact i5.1
   rcases Tv.1 hc with rfl | hc
   ·exact i5.2
   exact ph c hc) hS hF hL hN hd h
  refine wpIn_seq (wpIn_mono (show x.wpIn (fw none) n G.P _ a w from this) fun z a' w' hp=>?_)
  cases z with
  | normal=>exact hp
  | _=>exact hp
 ·rename_i x y z hD
  simp only [ZJ,Tm] at i5;have hv:=ZbL hF x;split at h
  ·rename_i t hc
   rw [hc] at hv
   cases t with
   | true=>exact wpIn_cond_true hv.dbool (ih (y::l) (fun c hc=>by
     rcases Tv.1 hc with rfl | hc
     ·exact i5.1
     exact ph c hc) hS hF hL hN hd h)
   | false=>exact wpIn_cond_false hv.dbool (ih (z::l) (fun c hc=>by
     rcases Tv.1 hc with rfl | hc
     ·exact i5.2
     exact ph c hc) hS hF hL hN hd h)
  exact h.elim
 split at h
 ·rename_i all init x args sw
  unfold ZjI at sw
  split at sw
  ·rename_i id ops hD hD1 hD2
   split at sw
   ·rename_i init' last ei
    split at sw
    ·rename_i x' args' hdc
     cases sw
     have kl:=Jr ei;obtain ⟨as,at',fg,has,hg,adt⟩:=Zez hdc;have cx:ops.size=init.length+1:=by rw [<- Sz,kl];simp
     have zq:ops[init.length]?=some last:=by rw [<- Tx,kl];simp
     simp only [ZJ,Tm] at i5;have co:∀o,o∈ops->∀d,o.dst=some d->d<N/\∀t v,Kept [] #[] t->Kept [] #[] (t.setIfInBounds d v):=fun o ho d mj=>⟨Za8 i5.1 o (TN.1 ho) d mj,fun t v _ i hi=>by cases hi⟩
     refine wpIn_region ?_;rw [show List.range ops.size=List.range' 0 init.length++[init.length] from by rw [cx,List.range_succ,List.range_eq_range']];refine ZdA (N:=N) (Z:=Kept [] #[]) (ds:=(0,[],true)) (hC e0 σ0 w0) co (fun x a w hx hp=>?_) (fun a1 w1 hp=>?_) init 0 (fun j hj=>?_) hS hF hL hN me (fun i hi=>by cases hi) h
     ·cases x with
      | normal=>exact absurd rfl hx
      | _ =>
      obtain ⟨pe,f',e',σ',hq,ib,au⟩:=hp;refine .inl ⟨pe,f',e',σ',?_,ib,au⟩
      cases pe <;> first | exact hq | (cases ib;done) | (obtain ⟨_,ib,_⟩:=ib;cases ib)
     ·obtain ⟨pe,f',e',σ',hq,ib,h1,h2,h3,h4,⟨_,rs,h5,pg,_⟩,h6⟩:=hp
      cases pe with
      | normal =>
       simp only at hq;have hv:=ZbL h2 x;split at hq
       ·rename_i g first caps bm
        split at hq
        ·rename_i hgb
         cases Tp hgb
         rw [bm] at hv;generalize hgv:a1.eval x=v at hv
         cases hv with
         | func _ _ _ va vc ha hc k1 k2 =>
         have ey:a1.defers=[]:=by rw [h5,pg rfl];rfl
         have af:ArgsRel G e' σ' w1 (first++args.map (ev f')++caps) (va++as.map a1.eval++vc):=by
          have hm:=Zf4 (G:=G) (e:=e') (σ:=σ') (w:=w1) (a:=a1) (f:=f') (args:=as) (fun x=>ZbL h2 x);rw [has] at hm;exact ArgsRel.append (ArgsRel.append ⟨ha,k1⟩ hm) ⟨hc,k2⟩
         have hw:Region.wanted last (yielded ops a1.tmps)=true:=by simp [Region.wanted,hg]
         simp only [wpOpsIn,zq,hw,if_true];have aj:(execOp a1.eval last).run G.P w1=.ok (.defer (YQ g0 (va++as.map a1.eval) vc)) w1:=by
          unfold execOp
          simp only [fg,resolve,hgv,Deferred.ofValue,Sem.run_bind,Sem.run_pure,Result.andThen];rfl
         refine ⟨fun _ _=>trivial,?_⟩;rw [show (fw none).round=none from rfl,Oper.semAt_none,aj,Oper.uponIn_defer];rw [adt];show wpl n G.P (ZvS G g0 e0 σ0 w0 N Q0 Q1) l { a1 with defers:=YQ g0 (va++as.map a1.eval) vc::a1.defers } w1;rw [ey];exact Zk8 (fun x a w hp=>.inr ⟨_,_,_,e',σ',w1,h3,af,hp⟩) (Zk7 (n:=n) (e0:=e') (σ0:=σ') (w0:=w1) bf hC hM hI (ds:=(0,[YQ g0 (va++as.map a1.eval) vc],true)) l ph
          (a:={ a1 with defers:=[YQ g0 (va++as.map a1.eval) vc] }) h1 h2 (Later.refl _ _ _) h4 ⟨Se _,[],rfl,fun _=>rfl,List.nodup_nil,fun r h=>by cases h⟩ hq)
        exact hq.elim
       exact hq.elim
      | exit id=>cases ib
      | goto l=>cases ib
      | ret=>cases ib
      | panic p=>obtain ⟨_,ib,_⟩:=ib;cases ib
     rw [<- Tx,kl,T9,TU hj]
    cases sw
   cases sw
  cases sw
 exact h.elim
end
def ZgC {G : GE} {T : Tab} (hT : TabOK T G.P) (bf : G.P.follows .mixedOrders = true) {g : FuncId} {fn : Func} {c : Code} (hf : G.P.funcs[g]? = some fn) (hb : fn.body = some c) (av : (fn.name == "runtime.NumGoroutine") = false)
  (ao:ZJ fn.ntmps c=true) {g0:FuncId} {spR:List PV->St->(St->Prop)->Prop} {spP:PV->List PV->St->(St->Prop)->Prop} (hd:PDef G g0 spR spP) {sp:Zm}
  (h:∀args σ K,sp args σ K->∃C keep own,CxG G T C/\σ.bx.length<=keep/\args.length<=fn.ntmps/\WDl C g0 (Zzc T fn keep own K) (ZzA T fn keep own spR spP K) 99 [Xs fn] (Zeo 0 args) σ):PCalls G g sp where
 enters:=Zl hf av hb
 calls:=fun args σ K hs n e w vs hS af=>by
  obtain ⟨C,keep,own,hC,hk,aa,hW⟩:=h args σ K hs;have zf:Xs fn=c:=by simp [Xs,hb]
  rw [zf] at hW;have hsz:vs.size=args.length:=af.1;have hF:FRel G e σ w (Zeo 0 args) (vs++Array.replicate (fn.ntmps - vs.size) undef):=Zad args 0 fun k x hx=>by
   exact mq32
  have qc:=Zpb (n:=n) (N:=fn.ntmps) (e0:=e) (σ0:=σ) (w0:=w) bf (C:=C) hC.ok hC.mono hC.it 99 [c] (fun c' hc'=>by cases List.mem_singleton.1 hc';exact ao)
   (a:={ tmps:=vs++Array.replicate (fn.ntmps - vs.size) undef,defers:=[] }) hS hF (Later.refl e σ w) sO rfl hW
  have qc:c.wpIn (fw none) n G.P (ZvS G g0 e σ w fn.ntmps (Zzc T fn keep own K) (ZzA T fn keep own spR spP K)) { tmps:=vs++Array.replicate (fn.ntmps - vs.size) undef,defers:=[] } w:=wpIn_mono qc fun x a' w' hp=>by
   cases x with
   | normal=>exact hp
   | _=>exact hp
  refine callsIn_of_wp_defers hf hb trivial (wpIn_mono qc fun x a' w' hp=>?_);have ends:∀{f':Frame} {tm:Array Value} {e':Env} {σ':St} {w':World},SRel G e' σ' w'->FRel G e' σ' w' f' tm->Later e σ w e' σ' w' ->
    (pres T f' σ'.bx fn.results.toList fun vs=>Zhv keep own (Ju vs) σ' fun v σ''=>K (.ret v) σ'')->∃v,(results fn tm).run G.P w'=.ok v w'/\Y9 G e σ w K (.returned v) w':=fun h1 h2 h3 hl=>by
   obtain ⟨pvs,r,hlv,hr,hvr⟩:=Wb (C:=C) (by rw [hC.T];exact hT) h1 h2 (by rw [hC.T];exact hl);obtain ⟨pv',σ2,e2,hK,oi,jx,m8⟩:=Wv h1 h3 hk hvr hlv;exact ⟨r,hr,.ret pv',σ2,e2,hK,⟨r,rfl,oi⟩,jx,m8⟩
  rcases hp with ⟨pe,f',e',σ',hq,hx,h1,h2,h3,h4,⟨_,rs,h5,pg,_⟩,h6⟩ | ⟨fa,va,vc,e1,σ1,w1,qv,hfa,pe,f',e',σ',hq,hx,h1,h2,h3,h4,⟨_,rs,h5,pg,_⟩,h6⟩
  ·have ey:a'.defers=[]:=by rw [h5,pg rfl];rfl
   cases pe with
   | normal=>obtain rfl:x=.normal:=hx;show LeavesIn _ _ _ _ _ _ _ _ _;rw [ey];exact ends h1 h2 h3 hq
   | ret=>obtain rfl:x=.ret:=hx;show LeavesIn _ _ _ _ _ _ _ _ _;rw [ey];exact ends h1 h2 h3 hq
   | panic p =>
    obtain ⟨v,rfl,hv⟩:=hx;show LeavesIn _ _ _ _ _ _ _ _ _;rw [ey];obtain ⟨pv',σ2,e2,hK,oi,jx,m8⟩:=Wv h1 h3 hk hv hq;exact ⟨.panic pv',σ2,e2,hK,⟨v,rfl,oi⟩,jx,m8⟩
   | exit id=>exact hq.elim
   | goto l=>exact hq.elim
  have ey:a'.defers=[YQ g0 va vc]:=by rw [h5,pg rfl];rfl
  have m8:Later e σ w e' σ' w':=qv.trans h3;have ady:(invoke (YQ g0 va vc).target (YQ g0 va vc).args).run G.P w'=.ok (.enter g0 (va++vc)) w':=by
   show (callFunc g0 (va++vc)).run G.P w'=_;exact hd.enters _ _
  have after:∀{e2:Env} {σ2:St} {w2:World},SRel G e2 σ2 w2->Later e' σ' w' e2 σ2 w2->(pres T (V0 f') σ2.bx fn.results.toList fun vs=>Zhv keep own (Ju vs) σ2 fun v σ''=>K (.ret v) σ'')->∃v,(results fn a'.tmps).run G.P w2=.ok v w2/\Y9 G e σ w K (.returned v) w2 :=
   fun j9 i7 hl=>ends j9 (h2.clean i7) (m8.trans i7) hl
  have zt:ArgsRel G e' σ' w' (Xr fa) (va++vc):=hfa.clean h3;have go:∀u,u≠.run->CallsDIn (fw none) (n - 1) G.P g0 (va++vc) u w' (fun
    | .returned _,u',w'=>LeavesIn (fw none) n G.P fn a'.tmps (Y9 G e σ w K) [] (settle u') w'
    | .panicked chain,u',w'=>LeavesIn (fw none) n G.P fn a'.tmps (Y9 G e σ w K) [] (raised u' chain) w'
    | .outgrown,_,w'=>Y9 G e σ w K .outgrown w')->LeavesIn (fw none) n G.P fn a'.tmps (Y9 G e σ w K) [YQ g0 va vc] u w':=fun u hu hc =>
   ⟨hu,(fun h=>by cases h),.func g0,vc,g0,va++vc,rfl,ady,fun _ _=>trivial,hc⟩
  cases pe with
  | normal =>
   obtain rfl:x=.normal:=hx;exact mq100
  | ret =>
   obtain rfl:x=.ret:=hx;exact mq100
  | panic p =>
   obtain ⟨v,rfl,hv⟩:=hx;show LeavesIn _ _ _ _ _ _ _ _ _;rw [ey];refine go _ sM ((hd.pan _ _ _ _ hq _ _ _ _ v h1 zt hv).mono fun en u2 w2 hh=>?_);obtain ⟨rfl,⟨r,rfl⟩,σ2,e2,hK,jx,i7⟩:=hh;exact after jx i7 hK
  | exit id=>exact hq.elim
  | goto l=>exact hq.elim
end Go.PM
end

section

end
