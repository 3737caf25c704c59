/- A part of the proof: plain logic, contracts and laws over the given program. -/
import Derived.Scope
import Derived.RangeFuncRecord
import Derived.RangeFuncCalls
import Derived.Test.YtflgockgjnddnaaGreatDoorE02
set_option linter.unusedVariables false
set_option linter.unusedSimpArgs false
set_option linter.all false
set_option maxRecDepth 100000
set_option maxHeartbeats 16000000
section
namespace Go.PM
section
variable {G:GE} {e e':Env} {σ σ':St} {w w':World}
inductive NV (n:Nat) (as:List (Option Nat)):PV→PV→Prop
 | sl (t e:Nat) (rows:List (List D)) (j:Nat) (h:as[j]?=some (some t)):NV n as (.sl t e rows) (.sl j e rows)
 | nils (e j:Nat) (h:as[j]?=some none):NV n as (.nils e) (.sl j e [])
 | cl (v:PV) (h:bnd n v=true):NV n as v (clean v)
 | un (v:PV):NV n as v .undef
 | clN (v:PV) (h:bnd n v=true):NV n as v (cleanN v)
structure NInv (S tk:List Nat) (as:List (Option Nat)):Prop where
 sub:∀t,t∈tk→t∈S
 mem:∀(i t:Nat),as[i]?=some (some t)→t∈S∧t∉tk
 inj:∀(i j t:Nat),as[i]?=some (some t)→as[j]?=some (some t)→i=j
theorem NV.ext {n:Nat} {as as':List (Option Nat)} {x y:PV} (h:NV n as x y) (hx:∃m,as'=as++m):NV n as' x y:=by
 obtain ⟨m,rfl⟩:=hx;have:∀(j:Nat) (q:Option Nat),as[j]?=some q→(as++m)[j]?=some q:=fun j q hq=>by
  rw [TF (Th.1 hq).1];exact hq
 cases h with
 | sl t e rows j h=>exact .sl t e rows j (this _ _ h)
 | nils e j h=>exact .nils e j (this _ _ h)
 | cl _ h=>exact .cl _ h
 | un _=>exact .un _
 | clN _ h=>exact .clN _ h
theorem Vr {t x:Nat}:∀{l:List Nat},x∈Zbs t l→x∈l∧x≠t
 | [],h=>by simp [Zbs] at h
 | y::l,h=>by
  simp only [Zbs] at h;split at h
  ·exact ⟨Tw _ (Vr h).1,(Vr h).2⟩
  ·rename_i hb
   rcases Tt.1 h with rfl | h
   ·exact ⟨by simp,fun e=>by subst e;simp at hb⟩
   ·exact ⟨Tw _ (Vr h).1,(Vr h).2⟩
theorem Zbz {as as' as'':List (Option Nat)} (h:∃m,as'=as++m) (h':∃m,as''=as'++m):∃m,as''=as++m:=by
 obtain ⟨m,rfl⟩:=h;obtain ⟨m',rfl⟩:=h';exact ⟨m++m',by rw [To]⟩
theorem NInv.add {S tk:List Nat} {as:List (Option Nat)} (h:NInv S tk as) {t:Nat} (ht:t∈tk):NInv S (Zbs t tk) (as++[some t]):=by
 have key:∀(i s:Nat),(as++[some t])[i]?=some (some s)→(as[i]?=some (some s))∨(i=as.length∧s=t):=fun i s hi=>by
  by_cases hlt:i<as.length
  ·rw [TF hlt] at hi;exact .inl hi
  ·rw [TQ (by omega)] at hi;have:=(Th.1 hi).1;simp only [TB] at this;have h0:i - as.length=0:=by omega
   rw [h0] at hi;simp at hi;exact .inr ⟨by omega,hi.symm⟩
 refine ⟨fun x hx=>h.sub x (Vr hx).1,fun i s hi=>?_,fun i j s hi hj=>?_⟩
 ·rcases key i s hi with h1 | ⟨_,rfl⟩
  ·exact ⟨(h.mem i s h1).1,fun hm=>(h.mem i s h1).2 (Vr hm).1⟩
  ·exact ⟨h.sub _ ht,fun hm=>(Vr hm).2 rfl⟩
 ·rcases key i s hi with h1 | ⟨h1,rfl⟩ <;> rcases key j s hj with h2 | ⟨h2,h3⟩
  ·exact h.inj i j s h1 h2
  ·subst h3;exact absurd ht (h.mem i _ h1).2
  ·exact absurd ht (h.mem j _ h2).2
  ·omega
theorem NInv.nil {S tk:List Nat} {as:List (Option Nat)} (h:NInv S tk as):NInv S tk (as++[none]):=by
 have key:∀(i s:Nat),(as++[none])[i]?=some (some s)→(as[i]?=some (some s)):=fun i s hi=>by
  by_cases hlt:i<as.length
  ·rw [TF hlt] at hi;exact hi
  ·rw [TQ (by omega)] at hi;have:=(Th.1 hi).1;simp only [TB] at this;have h0:i - as.length=0:=by omega
   rw [h0] at hi;simp at hi
 exact ⟨h.sub,fun i s hi=>h.mem i s (key i s hi),fun i j s hi hj=>h.inj i j s (key i s hi) (key j s hj)⟩
theorem Zt6 {n:Nat} {S tk:List Nat} {as:List (Option Nat)} (hI:NInv S tk as) {v:PV} {K:PV→List Nat→Nat→Prop} (h:ZtX n tk as.length v K) :
  ∃v' tk' as',K v' tk' as'.length∧(∃m,as'=as++m)∧NInv S tk' as'∧NV n as' v v':=by
 have gen:∀v,(match bnd n v with | true=>ZaR (clean v) fun v=>K v tk as.length | false=>K .undef tk as.length:Prop)→∃v' tk' as',K v' tk' as'.length∧(∃m,as'=as++m)∧NInv S tk' as'∧NV n as' v v':=fun v h=>by
  split at h
  ·rename_i hb;rw [Yl] at h;exact ⟨_,tk,as,h,⟨[],by simp⟩,hI,.cl v hb⟩
  ·exact ⟨_,tk,as,h,⟨[],by simp⟩,hI,.un v⟩
 cases v with
 | sl t el rows =>
  simp only [ZtX] at h;exact m98
 | nils el=>exact ⟨_,tk,as++[none],by simpa [ZtX] using h,⟨[none],rfl⟩,hI.nil,.nils el _ (by simp)⟩
 | _=>exact gen _ h
theorem Zg3 {n:Nat} {S:List Nat}:∀{vs:List PV} {tk:List Nat} {as:List (Option Nat)} (_:NInv S tk as) {K:List PV→List Nat→Nat→Prop},ZtY n vs tk as.length K →
  ∃vs' tk' as',K vs' tk' as'.length∧(∃m,as'=as++m)∧NInv S tk' as'∧vs'.length=vs.length∧∀(i:Nat) (x y:PV),vs[i]?=some x→vs'[i]?=some y→NV n as' x y
 | [],tk,as,hI,K,h=>⟨[],tk,as,h,⟨[],by simp⟩,hI,rfl,fun i x y hx=>by simp at hx⟩
 | v::vs,tk,as,hI,K,h=>by
  obtain ⟨v',tk1,as1,h1,hx1,hI1,hv⟩:=Zt6 hI h;obtain ⟨vs',tk2,as2,h2,hx2,hI2,hl,hvs⟩:=Zg3 hI1 h1;exact m61
theorem ZlC {n:Nat} {S tk:List Nat} {as:List (Option Nat)} (hI:NInv S tk as) {v:PV} {K:PV→List Nat→Nat→Prop} (h:ZgW n tk as.length v K) :
  ∃v' tk' as',K v' tk' as'.length∧(∃m,as'=as++m)∧NInv S tk' as'∧NV n as' v v':=by
 have gen:∀v,(match bnd n v with | true=>ZaR (cleanN v) fun v=>K v tk as.length | false=>K .undef tk as.length:Prop)→∃v' tk' as',K v' tk' as'.length∧(∃m,as'=as++m)∧NInv S tk' as'∧NV n as' v v':=fun v h=>by
  split at h
  ·rename_i hb;rw [Yl] at h;exact ⟨_,tk,as,h,⟨[],by simp⟩,hI,.clN v hb⟩
  ·exact ⟨_,tk,as,h,⟨[],by simp⟩,hI,.un v⟩
 cases v with
 | sl t el rows =>
  simp only [ZgW] at h;exact m98
 | nils el=>exact ⟨_,tk,as++[none],by simpa [ZgW] using h,⟨[none],rfl⟩,hI.nil,.nils el _ (by simp)⟩
 | _=>exact gen _ h
theorem Zg4 {n:Nat} {S:List Nat}:∀{vs:List PV} {tk:List Nat} {as:List (Option Nat)} (_:NInv S tk as) {K:List PV→List Nat→Nat→Prop},ZmQ n vs tk as.length K →
  ∃vs' tk' as',K vs' tk' as'.length∧(∃m,as'=as++m)∧NInv S tk' as'∧vs'.length=vs.length∧∀(i:Nat) (x y:PV),vs[i]?=some x→vs'[i]?=some y→NV n as' x y
 | [],tk,as,hI,K,h=>⟨[],tk,as,h,⟨[],by simp⟩,hI,rfl,fun i x y hx=>by simp at hx⟩
 | v::vs,tk,as,hI,K,h=>by
  obtain ⟨v',tk1,as1,h1,hx1,hI1,hv⟩:=ZlC hI h;obtain ⟨vs',tk2,as2,h2,hx2,hI2,hl,hvs⟩:=Zg4 hI1 h1;exact m61
inductive NB (n:Nat) (as:List (Option Nat)):Box→Box→Prop
 | cells (t:TypeId) (cs cs':List PV) (hl:cs'.length=cs.length) (h:∀(i:Nat) (x y:PV),cs[i]?=some x→cs'[i]?=some y→NV n as x y):NB n as (.cells t cs) (.cells t cs')
 | iter (s:List UInt8) (p:Nat):NB n as (.iter s p) (.iter s p)
 | loop (st:LoopState) (pd:Option Code) (r:Loop):NB n as (.loop st pd r) (.loop st pd r)
theorem NB.ext {n:Nat} {as as':List (Option Nat)} {x y:Box} (h:NB n as x y) (hx:∃m,as'=as++m):NB n as' x y:=by
 cases h with
 | cells t cs cs' hl h=>exact .cells t cs cs' hl fun i x y h1 h2=>(h i x y h1 h2).ext hx
 | iter s p=>exact .iter s p
 | loop st pd r=>exact .loop st pd r
theorem V6 {n:Nat} {S:List Nat}:∀{m:Nat} {bs:List Box} {tk:List Nat} {as:List (Option Nat)} (_:NInv S tk as) {K:List Box→List Nat→Nat→Prop},Zh3 n m bs tk as.length K →
  ∃bs' tk' as',K bs' tk' as'.length∧(∃m,as'=as++m)∧NInv S tk' as'∧bs'.length=m∧m≤bs.length∧∀(i:Nat) (x y:Box),bs[i]?=some x→bs'[i]?=some y→NB n as' x y
 | 0,bs,tk,as,hI,K,h=>⟨[],tk,as,by simpa [Zh3] using h,⟨[],by simp⟩,hI,rfl,T3 _,fun i x y _ hy=>by simp at hy⟩
 | m+1,[],tk,as,hI,K,h=>h.elim
 | m+1,.cells t cs::bs,tk,as,hI,K,h=>by
  obtain ⟨cs',tk1,as1,h1,hx1,hI1,hl1,hv⟩:=Zg3 hI h;obtain ⟨bs',tk2,as2,h2,hx2,hI2,hl,hm,hvs⟩:=V6 hI1 h1;refine ⟨.cells t cs'::bs',tk2,as2,h2,Zbz hx1 hx2,hI2,by simp [hl],by simp;omega,fun i x y hx hy=>?_⟩
  cases i with
  | zero=>simp at hx hy;subst hx;subst hy;exact .cells t cs cs' hl1 fun i x y h1 h2=>(hv i x y h1 h2).ext hx2
  | succ i=>exact hvs i x y (by simpa using hx) (by simpa using hy)
 | m+1,.iter s p::bs,tk,as,hI,K,h=>by
  obtain ⟨bs',tk2,as2,h2,hx2,hI2,hl,hm,hvs⟩:=V6 hI (K:=fun l tk k=>K (.iter s p::l) tk k) h;refine ⟨.iter s p::bs',tk2,as2,h2,hx2,hI2,by simp [hl],by simp;omega,fun i x y hx hy=>?_⟩
  cases i with
  | zero=>simp at hx hy;subst hx;subst hy;exact .iter s p
  | succ i=>exact hvs i x y (by simpa using hx) (by simpa using hy)
 | m+1,.loop st pd r::bs,tk,as,hI,K,h=>by
  obtain ⟨bs',tk2,as2,h2,hx2,hI2,hl,hm,hvs⟩:=V6 hI (K:=fun l tk k=>K (.loop st pd r::l) tk k) h;refine ⟨.loop st pd r::bs',tk2,as2,h2,hx2,hI2,by simp [hl],by simp;omega,fun i x y hx hy=>?_⟩
  cases i with
  | zero=>simp at hx hy;subst hx;subst hy;exact .loop st pd r
  | succ i=>exact hvs i x y (by simpa using hx) (by simpa using hy)
structure Drop (n:Nat) (e:Env) (σ:St) (e':Env) (σ':St):Prop where
 le:n≤σ.bx.length
 len:σ'.bx.length=n
 beta:e'.β=e.β
 X:e'.X=e.X
 okc:∀b off,okc e σ b off→okc e' σ' b off
 tok:∀t,t∈σ'.tk→∀p,e'.M t=some p→∃t0,t0∈σ.tk∧e.M t0=some p
theorem Later.drop {e1:Env} {σ1:St} {w1:World} {n:Nat} (h:Later e1 σ1 w1 e σ w) (hd:Drop n e σ e' σ') (hn:σ1.bx.length≤n):Later e1 σ1 w1 e' σ' w where
 len:=by rw [hd.len];exact hn
 beta:=by rw [hd.beta];exact h.beta
 X:=by rw [hd.X];exact h.X
 pres:=fun b off u hu ho=>let ⟨h1,h2⟩:=h.pres b off u hu ho;⟨hd.okc b off h1,h2⟩
 blocks:=h.blocks
 size:=h.size
 os:=h.os
 tape:=h.tape
 output:=h.output
 fresh:=fun i h1 h2=>by rw [hd.len] at h2;rw [hd.beta];exact h.fresh i h1 (TD h2 hd.le)
 ftok:=fun t ht p hp=>let ⟨t0,h0,h1⟩:=hd.tok t ht p hp;h.ftok t0 h0 p h1
theorem Marks.drop {lo:Nat×List Deferred×Bool} {n:Nat} {l:List Deferred} (h:Marks lo e σ w l) (hd:Drop n e σ e' σ'):Marks lo e' σ' w l:=by
 obtain ⟨h0,rs,h1,hfl,h2,h3⟩:=h;refine ⟨h0,rs,h1,hfl,h2,fun r hr=>?_⟩;obtain ⟨g1,g2,g3,g4⟩:=h3 r hr;refine ⟨g1,g2,fun i hi=>?_,fun t ht p hp=>?_⟩
 ·rw [hd.beta];rw [hd.len] at hi;exact g3 i (TD hi hd.le)
 ·obtain ⟨t0,h0,hp0⟩:=hd.tok t ht p hp;exact g4 t0 h0 p hp0
theorem mem_toks {t:Nat}:∀{k:Nat},t∈toks k↔t<k
 | 0=>by simp [toks]
 | k+1=>by simp only [toks,Tt,mem_toks];omega
def Env.re (e:Env) (as:List (Option Nat)):Env:={ e with M:=fun j=>(as[j]?.join).bind e.M }
theorem Zcv {as:List (Option Nat)} {j:Nat} {p:Nat×Nat} (h:(e.re as).M j=some p):∃t,as[j]?=some (some t)∧e.M t=some p:=by
 simp only [Env.re] at h
 cases hj:as[j]? with
 | none=>rw [hj] at h;simp at h
 | some q =>
  cases q with
  | none=>rw [hj] at h;simp at h
  | some t=>rw [hj] at h;exact ⟨t,rfl,by simpa using h⟩
theorem JC {n:Nat} (hn:n≤σ.bx.length) {as:List (Option Nat)} {tk:List Nat} (hI:NInv σ.tk tk as) {bs:List Box} (hb:bs.length=n):Drop n e σ (e.re as) ⟨bs,toks as.length,as.length⟩ where
 le:=hn
 len:=hb
 beta:=rfl
 X:=rfl
 okc:=fun b off ho=>⟨ho.1,fun i hi=>ho.2.1 i (TD hi (by rw [show (St.mk bs (toks as.length) as.length).bx.length=n from hb];exact hn)),fun t ht p hp hpb=>by
  obtain ⟨t0,h1,h2⟩:=Zcv hp;exact ho.2.2 t0 (hI.mem _ _ h1).1 p h2 hpb⟩
 tok:=fun t ht p hp=>by
  obtain ⟨t0,h1,h2⟩:=Zcv hp;exact ⟨t0,(hI.mem _ _ h1).1,h2⟩
theorem NV.rel {n:Nat} (hn:n≤σ.bx.length) {as:List (Option Nat)} {tk:List Nat} (hI:NInv σ.tk tk as) {bs:List Box} (hb:bs.length=n) {x y:PV} {v:Value} (h:NV n as x y) (hv:VRel G e σ w x v) :
  VRel G (e.re as) ⟨bs,toks as.length,as.length⟩ w y v:=by
 have hd:=JC (e:=e) hn hI hb;have hlt:∀(j:Nat) (q:Option Nat),as[j]?=some q→j<as.length:=fun j q hq=>(Th.1 hq).1
 cases h with
 | sl t el rows j h =>
  cases hv with
  | sl _ _ _ _ hn2 hd2 ht =>
   refine .sl j el rows v (hlt _ _ h) (hd2.mono fun b off u hu ho=>⟨hd.okc b off ho,hu⟩) fun _=>?_
   have hM:(e.re as).M j=e.M t:=by simp [Env.re,h]
   rcases ht (hI.mem _ _ h).1 with ⟨h1,h2,h3⟩ | ⟨sz,h1,h2,h3,b,off,cap,cs,ty,fz,h4,h5,h6,h7,h8,h9,h10⟩
   ·exact .inl ⟨h1,h2,hM.trans h3⟩
   ·exact .inr ⟨sz,h1,h2,h3,b,off,cap,cs,ty,fz,h4,h5,h6,h7,h8,h9,hM.trans h10⟩
 | nils el j h =>
  cases hv with
  | nils =>
   refine .sl j el [] _ (hlt _ _ h) .slnil fun _=>.inl ⟨rfl,rfl,?_⟩
   simp [Env.re,h]
 | cl _ h=>exact VRel.clean (e:=e) (e':=e.re as) (σ:=σ) (σ':=⟨bs,toks as.length,as.length⟩) (w:=w) (w':=w) (n:=n) (by show n≤bs.length;omega) (fun _ _=>rfl) (fun b off u hu ho=>⟨hd.okc b off ho,hu⟩) hv h
 | un _=>exact .undef v
 | clN _ h=>exact VRel.cleanN (e:=e) (e':=e.re as) (σ:=σ) (σ':=⟨bs,toks as.length,as.length⟩) (w:=w) (w':=w) (n:=n) (by show n≤bs.length;omega) (fun _ _=>rfl) (fun b off u hu ho=>⟨hd.okc b off ho,hu⟩) hv h
theorem ZaZ {n:Nat} (hS:SRel G e σ w) (hn:n≤σ.bx.length) {as:List (Option Nat)} {tk:List Nat} (hI:NInv σ.tk tk as) {bs:List Box} (hb:bs.length=n)
  (hbs:∀(i:Nat) (x y:Box),σ.bx[i]?=some x→bs[i]?=some y→NB n as x y):SRel G (e.re as) ⟨bs,toks as.length,as.length⟩ w where
 inj:=fun i j hi hj h=>hS.inj i j (by simp only at hi;omega) (by simp only at hj;omega) h
 box:=fun i y hy=>by
  have hi:=(Th.1 hy).1;simp only at hi;have hx:σ.bx[i]?=some σ.bx[i]:=Tg (by omega);have hB:=hS.box i _ hx;have hN:=hbs i _ y hx hy;generalize σ.bx[i]=x at hB hN
  cases hN with
  | cells t cs cs' hl h =>
   obtain ⟨vs,h1,h2,h3⟩:=hB;refine ⟨vs,h1,by rw [hl];exact h2,fun k z u hz hu=>?_⟩;have hk:=(Th.1 hz).1;have hx:cs[k]?=some cs[k]:=Tg (by omega);exact ⟨(h k _ z hx hz).rel hn hI hb (h3 k _ u hx hu).1,(h3 k _ u hx hu).2⟩
  | iter s p=>exact hB
  | loop st pd r=>exact hB
 low:=fun i hi=>hS.low i (by simp only at hi;omega)
 tkn:=fun t ht=>mem_toks.1 ht
 own:=fun t ht p hp=>by
  obtain ⟨t0,h1,h2⟩:=Zcv hp;obtain ⟨h3,h4,h5⟩:=hS.own t0 (hI.mem _ _ h1).1 p h2;exact ⟨h3,fun i hi=>h4 i (by simp only at hi;omega),h5⟩
 dis:=fun t t' ht ht' hne p p' hp hp'=>by
  obtain ⟨t0,h1,h2⟩:=Zcv hp;obtain ⟨t1,h3,h4⟩:=Zcv hp';exact hS.dis t0 t1 (hI.mem _ _ h1).1 (hI.mem _ _ h3).1 (fun h=>hne (hI.inj _ _ _ h1 (by rw [h];exact h3))) p p' h2 h4
 xlt:=hS.xlt
 xown:=fun t ht p hp=>by
  obtain ⟨t0,h1,h2⟩:=Zcv hp;exact hS.xown t0 (hI.mem _ _ h1).1 p h2
 glob:=hS.glob
 big:=hS.big
theorem NInv.start (S:List Nat) (tk:List Nat) (h:∀t,t∈tk→t∈S):NInv S tk []:=⟨h,fun i t h=>by simp at h,fun i j t h=>by simp at h⟩
theorem Zg5 (hS:SRel G e σ w) {n:Nat} {vs:List PV} {K:List PV→St→Prop} (h:Zq8 n vs σ K) :
  ∃vs' σ' e',K vs' σ'∧SRel G e' σ' w∧Drop n e σ e' σ'∧vs'.length=vs.length∧∀(i:Nat) (x y:PV) (u:Value),vs[i]?=some x→vs'[i]?=some y→VRel G e σ w x u→VRel G e' σ' w y u:=by
 obtain ⟨vs',tk1,as1,h1,hx1,hI1,hl,hv⟩:=Zg3 (as:=[]) (NInv.start σ.tk σ.tk fun _ h=>h) h;obtain ⟨bs,tk2,as2,h2,hx2,hI2,hbl,hn,hbs⟩:=V6 hI1 h1;exact ⟨vs',⟨bs,toks as2.length,as2.length⟩,e.re as2,h2,ZaZ hS hn hI2 hbl hbs,JC hn hI2 hbl,hl,fun i x y u hx hy hr=>((hv i x y hx hy).ext hx2).rel hn hI2 hbl hr⟩
inductive NVA (n:Nat) (as:List (Option Nat)):PV→PV→Prop
 | one (x y:PV) (h:NV n as x y):NVA n as x y
 | agg (cs cs':List PV) (hl:cs'.length=cs.length) (h:∀(i:Nat) (x y:PV),cs[i]?=some x→cs'[i]?=some y→NV n as x y):NVA n as (.agg cs) (.agg cs')
theorem NVA.ext {n:Nat} {as as':List (Option Nat)} {x y:PV} (h:NVA n as x y) (hx:∃m,as'=as++m):NVA n as' x y:=by
 cases h with
 | one _ _ h=>exact .one _ _ (h.ext hx)
 | agg cs cs' hl h=>exact .agg cs cs' hl fun i x y h1 h2=>(h i x y h1 h2).ext hx
theorem NVA.rel {n:Nat} (hn:n≤σ.bx.length) {as:List (Option Nat)} {tk:List Nat} (hI:NInv σ.tk tk as) {bs:List Box} (hb:bs.length=n) {x y:PV} {v:Value} (h:NVA n as x y) (hv:VRel G e σ w x v) :
  VRel G (e.re as) ⟨bs,toks as.length,as.length⟩ w y v:=by
 cases h with
 | one _ _ h=>exact h.rel hn hI hb hv
 | agg cs cs' hl h =>
  cases hv with
  | agg _ vs hs h2 h1 =>
   refine .agg cs' vs (by rw [hs,hl]) (fun i y u hy hu=>?_) h1;have hi:=(Th.1 hy).1;rw [hl] at hi;have hx:=Tg hi;exact (h i _ y hx hy).rel hn hI hb (h2 i _ u hx hu)
theorem Zre {n:Nat} {S tk:List Nat} {as:List (Option Nat)} (hI:NInv S tk as) {v:PV} {K:PV→List Nat→Nat→Prop} (h:ZmR n tk as.length v K) :
  ∃v' tk' as',K v' tk' as'.length∧(∃m,as'=as++m)∧NInv S tk' as'∧NVA n as' v v':=by
 have gen:ZgW n tk as.length v K→∃v' tk' as',K v' tk' as'.length∧(∃m,as'=as++m)∧NInv S tk' as'∧NVA n as' v v':=fun h=>by
  obtain ⟨v',tk',as',h1,h2,h3,h4⟩:=ZlC hI h;exact ⟨v',tk',as',h1,h2,h3,.one _ _ h4⟩
 cases v with
 | agg cs =>
  simp only [ZmR] at h;obtain ⟨cs',tk',as',h1,h2,h3,h4,h5⟩:=Zg4 hI h;exact ⟨_,tk',as',h1,h2,h3,.agg cs cs' h4 h5⟩
 | _=>exact gen h
theorem Zg6 {n:Nat} {S:List Nat}:∀{vs:List PV} {tk:List Nat} {as:List (Option Nat)} (_:NInv S tk as) {K:List PV→List Nat→Nat→Prop},ZmS n vs tk as.length K →
  ∃vs' tk' as',K vs' tk' as'.length∧(∃m,as'=as++m)∧NInv S tk' as'∧vs'.length=vs.length∧∀(i:Nat) (x y:PV),vs[i]?=some x→vs'[i]?=some y→NVA n as' x y
 | [],tk,as,hI,K,h=>⟨[],tk,as,h,⟨[],by simp⟩,hI,rfl,fun i x y hx=>by simp at hx⟩
 | v::vs,tk,as,hI,K,h=>by
  obtain ⟨v',tk1,as1,h1,hx1,hI1,hv⟩:=Zre hI h;obtain ⟨vs',tk2,as2,h2,hx2,hI2,hl,hvs⟩:=Zg6 hI1 h1;exact m61
theorem Zeq (hS:SRel G e σ w) {ag:Bool} {n:Nat} {vs:List PV} {K:List PV→St→Prop} (h:Zc9 ag n vs σ K) :
  ∃vs' σ' e',K vs' σ'∧SRel G e' σ' w∧Drop n e σ e' σ'∧vs'.length=vs.length∧∀(i:Nat) (x y:PV) (u:Value),vs[i]?=some x→vs'[i]?=some y→VRel G e σ w x u→VRel G e' σ' w y u:=by
 cases ag with
 | false=>exact Zg5 hS h
 | true =>
  obtain ⟨vs',tk1,as1,h1,hx1,hI1,hl,hv⟩:=Zg6 (as:=[]) (NInv.start σ.tk σ.tk fun _ h=>h) h;obtain ⟨bs,tk2,as2,h2,hx2,hI2,hbl,hn,hbs⟩:=V6 hI1 h1;exact ⟨vs',⟨bs,toks as2.length,as2.length⟩,e.re as2,h2,ZaZ hS hn hI2 hbl hbs,JC hn hI2 hbl,hl,fun i x y u hx hy hr=>((hv i x y hx hy).ext hx2).rel hn hI2 hbl hr⟩
end
end Go.PM
end

section
namespace Go.PM
theorem Flat.front {ok:Nat→Nat→Prop} {w:World} {r1 r2:List (List D)} {sz:Nat} {xs:List Value} (h:Flat ok w (r1++r2) sz xs):Flat ok w r1 sz (xs.take (r1.length * sz)):=by
 have hl:=h.len;rw [Tb,Sd] at hl;refine ⟨by rw [Sl];omega,fun r hr=>h.wid r (TT.2 (.inl hr)),fun a b y u hb hy hu=>?_⟩;have ha:a<r1.length:=by
  apply Classical.byContradiction
  intro hn
  rw [Sg (by omega)] at hy;cases hy
 refine h.rel a b y u hb (by rw [TF ha];exact hy) ?_;rw [List.getElem?_take] at hu;split at hu
 ·exact hu
 ·cases hu
section
variable {G:GE} {T:Tab} {e:Env} {σ:St} {w:World}
theorem Zkj (hT:TabOK T G.P) (hS:SRel G e σ w) {t tx el ty:Nat} (hkt:(T.get t).kind=.slice el) (hkel:(T.get el).kind≠.other) (hpos:0<(T.get el).size)
  {rows:List (List D)} {z:List D} {v vx:Value} {px:PV} (hD:DRel (okc e σ) w (.sl rows) v) (tk0:List Nat) (hsub:∀x,x∈tk0→x∈σ.tk)
  (hO:(v=.slice none 0 0∧rows=[])∨∃tok,tok∈σ.tk∧tok∉tk0∧Owned G e w tok el rows v)
  (hm:UO T tx el px=some [z]) (hx:VRel G e σ w px vx) (hw:z.length=(T.get el).size)
  (hbytes:(rows.length+1) * (T.get el).bytes≤2 ^ 47) (hlen:rows.length+1≤2 ^ 47) :
  ∃w1 b off cap e1,(Builtin.append_ #[t,tx] ty #[v,vx]).run G.P w=.ok (.slice (some ⟨b,off,none⟩) (rows.length+1) cap) w1∧rows.length+1≤cap ∧
   Stepped e σ w e1 { σ with tk:=σ.nx::tk0,nx:=σ.nx+1 } w1∧SRel G e1 { σ with tk:=σ.nx::tk0,nx:=σ.nx+1 } w1 ∧
   VRel G e1 { σ with tk:=σ.nx::tk0,nx:=σ.nx+1 } w1 (.sl σ.nx el rows) (.slice (some ⟨b,off,none⟩) rows.length cap):=by
 obtain ⟨news,hsrc,hnews⟩:=Ztm hT hm hx (fun r hr=>by simp at hr;rw [hr];exact hw) hpos rfl;obtain ⟨hO3,hrw,htok⟩:=ZaW hT hS hkel tk0 hO;obtain ⟨v',w1,hrun,hos,htape,hout,hsize,hcell,hblk,hres⟩:=Zgd (ty:=ty) (more:=[z]) hT hS hkt hkel hpos hD hrw hO3 hsrc hnews hbytes hlen;rcases hres with ⟨_,h⟩ | ⟨b,off,cap,cs,tyb,fz,rfl,hb,hc,hh,hcs,hfz,hor,xs,hxs,hxc⟩
 ·simp at h
 ·obtain ⟨e1,h1,h2,h3⟩:=J5 (more:=[]) (v':=.slice (some ⟨b,off,none⟩) rows.length cap) hT hS hkel hpos hD tk0 hsub hrw (fun r h=>by cases h) htok hos htape hout hsize hcell hblk
   (.inr ⟨b,off,cap,cs,tyb,fz,by simp,hb,by simp at hc ⊢;omega,hh,hcs,hfz,hor,xs.take (rows.length * (T.get el).size),by rw [T2];exact hxs.front,fun k u hk=>hxc k u (by
    rw [List.getElem?_take] at hk;split at hk
    ·exact hk
    ·cases hk)⟩)
  rw [T2] at h3;exact ⟨w1,b,off,cap,e1,by rw [hrun];simp,by simpa using hc,h1,h2,h3⟩
theorem ZoD (hT:TabOK T G.P) (hS:SRel G e σ w) {el tok b off cap:Nat} (hkel:(T.get el).kind≠.other) (hpos:0<(T.get el).size)
  {rows:List (List D)} {row:List D} {us:List Value} (hV:VRel G e σ w (.sl tok el rows) (.slice (some ⟨b,off,none⟩) rows.length cap)) (htk:tok∈σ.tk) (hcap:rows.length+1≤cap)
  (hnews:Flat (okc e σ) w [row] (T.get el).size us) :
  (∀j,j<us.length→(w.cell? ⟨b,off+rows.length * (T.get el).size+j,none⟩).isSome=true)∧(∀j,j<us.length→w.frozen? ⟨b,off+rows.length * (T.get el).size+j,none⟩=false) ∧
  (∀i,i<σ.bx.length→e.β i≠b) ∧
  ∃e1,Stepped e σ w e1 { σ with tk:=σ.nx::Zbs tok σ.tk,nx:=σ.nx+1 } (w.setCells b (off+rows.length * (T.get el).size) us)∧SRel G e1 { σ with tk:=σ.nx::Zbs tok σ.tk,nx:=σ.nx+1 } (w.setCells b (off+rows.length * (T.get el).size) us) ∧
   VRel G e1 { σ with tk:=σ.nx::Zbs tok σ.tk,nx:=σ.nx+1 } (w.setCells b (off+rows.length * (T.get el).size) us) (.sl σ.nx el (rows++[row])) (.slice (some ⟨b,off,none⟩) (rows.length+1) cap):=by
 cases hV with
 | sl _ _ _ _ hn hD hown =>
 have hsub:∀x,x∈Zbs tok σ.tk→x∈σ.tk:=fun x hx=>((VM _ _ _).1 hx).1
 have hnt:tok∉Zbs tok σ.tk:=fun h=>((VM _ _ _).1 h).2 rfl
 obtain ⟨hO3,hrw,htok⟩:=ZaW hT hS hkel (Zbs tok σ.tk) (.inr ⟨tok,htk,hnt,hown htk⟩);rcases hO3 with ⟨h,_⟩ | ⟨b',off',cap',cs,tyb,fz,he,hb,hc,hh,hcs,hfz,hnb⟩
 ·cases h
 ·cases he
  obtain ⟨olds,ho1,ho2,ho3,ho4⟩:=ZAr hrw hpos hD;have hul:us.length=(T.get el).size:=by rw [hnews.len];simp
  have hcc:(rows.length+1) * (T.get el).size≤cap * (T.get el).size:=TY _ hcap;rw [Sd] at hcc;have hcell:∀k,k<cs.size→(w.cell? ⟨b,k,none⟩).isSome=true:=fun k hk=>by simp [World.cell?,hh,hk]
  obtain ⟨r1,r2,r3,r4⟩:=Xq b us (off+rows.length * (T.get el).size) w;obtain ⟨cs',q1,q2,q3⟩:=XF b us (off+rows.length * (T.get el).size) w cs tyb fz hh;refine ⟨fun j hj=>hcell _ (by have:=hcs.1;omega),fun j hj=>?_,hnb,?_⟩
  ·simp only [World.frozen?,hh];have h1:=hfz.2 (off+rows.length * (T.get el).size+j) (by omega)
   by_cases h2:fz.1≤off+rows.length * (T.get el).size+j
   ·have:=h1 h2;simp;intro _;omega
   ·simp;omega
  ·refine J5 (v:=.slice (some ⟨b,off,none⟩) rows.length cap) hT hS hkel hpos hD (Zbs tok σ.tk) hsub hrw (fun r h=>by simp at h;rw [h];exact hnews.wid _ (by simp)) htok r1 r2 r3 (by rw [YY];exact Tq _)
    (fun b' o' u hu ho=>?_) (fun b' hb' hn=>r4 b' (hn b off cap rfl)) (.inr ⟨b,off,cap,cs',tyb,fz,by simp,hb,by simpa using hcap,q1,⟨by rw [q2];exact hcs.1,hcs.2.1,hcs.2.2.1,hcs.2.2.2⟩,hfz,.inl ⟨cap,rfl⟩,olds++us,ho1.append hnews,fun k u hk=>?_⟩)
   ·by_cases hbb:b'=b
    ·subst hbb
     by_cases hoo:off+rows.length * (T.get el).size≤o'
     ·exact .inr ⟨b',off,cap,rfl,rfl,hoo⟩
     ·left
      rw [World.cell?_setCells_out b' us _ w ⟨b',o',none⟩ (fun _ _=>.inl (by show o'<_;omega))];exact hu
    ·left;simpa [World.cell?,r4 b' hbb] using hu
   ·by_cases hk1:k<olds.length
    ·rw [TF hk1] at hk;rw [World.cell?_setCells_out b us _ w ⟨b,off+k,none⟩ (fun _ _=>.inl (by show off+k<_;rw [← ho1.len];omega))];exact ho2 k u hk
    ·rw [TQ (by omega)] at hk;have hkn:=(Th.1 hk).1;have:=World.cell?_setCells_in b us (off+rows.length * (T.get el).size) w (fun j hj=>hcell _ (by have:=hcs.1;omega)) (k - olds.length) hkn;exact m161
end
structure Hole4 (ops:Array Oper) (m:Nat) (I S F H:Oper):Prop where
 size:ops.size=m+5
 oI:ops[m+1]?=some I
 oS:ops[m+2]?=some S
 oF:ops[m+3]?=some F
 oH:ops[m+4]?=some H
 gI:I.guard=none
 gS:S.guard=none
 gF:F.guard=none
 gH:H.guard=none
 nI:∀c,I.op≠.defer c
 nS:∀c,S.op≠.defer c
 nF:∀c,F.op≠.defer c
 nH:∀c,H.op≠.defer c
 eI:∀ed∈I.after,Region.binds .any ed=true→ed.on≤m
 eF:∀ed∈F.after,Region.binds .any ed=true→ed.on≤m
 eS:∀ed∈S.after,Region.binds .any ed=true→ed.on≤m+1
 eH:∀ed∈H.after,Region.binds .any ed=true→ed.on≤m∨ed.on=m+3
 eSI:∃ed∈S.after,Region.binds .any ed=true∧ed.on=m+1
 eHF:∃ed∈H.after,Region.binds .any ed=true∧ed.on=m+3
def cnt (i s f h:Bool):Nat:=(!i).toNat+(!s).toNat+(!f).toNat+(!h).toNat
theorem Zer {P:Program} {ro:Option Nat} {n:Nat} {ops:Array Oper} {Q:Exit→Act→World→Prop} {i:Nat} {o:Oper} {K:Act→World→Prop} {a:Act} {w w':World} {v:Value} (ho:ops[i]?=some o) (hg:o.guard=none) (hnd:∀c,o.op≠.defer c)
  (hrun:(execOp a.eval o).run P w=.ok (.value v) w'∨((execOp a.eval o).run P w=.ok .skip w'∧v=Go.undef)) (hk:K (a.put o.dst v) w'):wpOpIn (fw ro) n P ops Q i K a w:=by
 unfold wpOpIn
 rw [ho];dsimp only;have hw:Region.wanted o (yielded ops a.tmps)=true:=by simp [Region.wanted,hg]
 rw [Tf hw];refine ⟨fun _ _=>trivial,?_⟩;rw [show (fw ro).round=ro from rfl,Oper.semAt_eq _ _ _ hnd];rcases hrun with hr | ⟨hr,rfl⟩
 ·rw [hr];exact hk
 ·rw [hr];exact hk
theorem Zye {P:Program} {ro:Option Nat} {n:Nat} {ops:Array Oper} {m:Nat} {I S F H:Oper} (h4:Hole4 ops m I S F H) {Q:Exit→Act→World→Prop} {A:Bool→Bool→Act} {W:Bool→Bool→World} {vI vF:Value}
  (rI:∀f h,(h=true→f=true)→(execOp (A false f).eval I).run P (W false h)=.ok (.value vI) (W false h)) (pI:∀f,(A false f).put I.dst vI=A true f)
  (rF:∀i s,(s=true→i=true)→(execOp (A i false).eval F).run P (W s false)=.ok (.value vF) (W s false)) (pF:∀i,(A i false).put F.dst vF=A i true)
  (rS:∀f h,(h=true→f=true)→(execOp (A true f).eval S).run P (W false h)=.ok .skip (W true h)) (pS:∀f,(A true f).put S.dst Go.undef=A true f)
  (rH:∀i s,(s=true→i=true)→(execOp (A i true).eval H).run P (W s false)=.ok .skip (W s true)) (pH:∀i,(A i true).put H.dst Go.undef=A i true)
  (hQ:Q .normal (A true true) (W true true)) :
  ∀(k:Nat) (i s f h:Bool),cnt i s f h=k→(s=true→i=true)→(h=true→f=true)→∀(listed:Array Bool),listed.size=ops.size →
   (∀j,j<ops.size→(listed.getD j false=true↔(j=m+1→i=true)∧(j=m+2→s=true)∧(j=m+3→f=true)∧(j=m+4→h=true))) →
   wpAnyIn (fw ro) n P .any ops Q k listed (A i f) (W s h):=by
 intro k
 induction k with
 | zero =>
  intro i s f h hc hsi hhf listed hsz hli
  obtain ⟨rfl,rfl,rfl,rfl⟩:i=true∧s=true∧f=true∧h=true:=by
   revert hc;cases i <;> cases s <;> cases f <;> cases h <;> simp [cnt]
  refine ⟨?_,hQ⟩;rw [List.eq_nil_iff_forall_not_mem];intro j hj
  obtain ⟨h1,o,ho,_⟩:=mem_ready.1 hj;have hlt:=(Tp.1 ho).1;have:=(hli j hlt).2 ⟨fun _=>rfl,fun _=>rfl,fun _=>rfl,fun _=>rfl⟩;have hlt':j<listed.size:=by rw [hsz];exact hlt
  simp [Array.getD,hlt'] at this h1;rw [this] at h1;cases h1
 | succ k ih =>
  intro i s f h hc hsi hhf listed hsz hli
  have hgd:∀i b,i<ops.size→listed.getD i b=listed.getD i false:=fun i b hi=>by
   exact m94
  have hsz4:=h4.size;have hset:∀(j:Nat) (i' s' f' h':Bool),j<ops.size→(∀q,q<ops.size→((q=m+1→i'=true)∧(q=m+2→s'=true)∧(q=m+3→f'=true)∧(q=m+4→h'=true)↔q=j∨((q=m+1→i=true)∧(q=m+2→s=true)∧(q=m+3→f=true)∧(q=m+4→h=true)))) →
    ∀q,q<ops.size→((listed.setIfInBounds j true).getD q false=true↔(q=m+1→i'=true)∧(q=m+2→s'=true)∧(q=m+3→f'=true)∧(q=m+4→h'=true)):=fun j i' s' f' h' hj hh q hq=>by
   rw [hh q hq]
   by_cases hqj:q=j
   ·subst hqj;have hlt':q<listed.size:=by rw [hsz];exact hq
    simp [Array.getD,hlt']
   ·have:(listed.setIfInBounds j true).getD q false=listed.getD q false:=getD_set_ne false (Ne.symm hqj);rw [this,hli q hq]
    constructor
    ·exact fun h=>.inr h
    ·rintro (h | h)
     ·exact absurd h hqj
     ·exact h
  refine ⟨fun hr=>?_,fun j hj=>?_⟩
  ·exfalso;have rdy:∀j o,ops[j]?=some o→listed.getD j false=false→(∀ed∈o.after,Region.binds .any ed=true→listed.getD ed.on false=true)→False:=fun j o ho hl he=>by
    have:j∈Region.ready .any ops listed:=mem_ready.2 ⟨by rw [hgd _ _ (Tp.1 ho).1];exact hl,o,ho,he⟩;rw [hr] at this;cases this
   have fls:∀j,j<ops.size→¬((j=m+1→i=true)∧(j=m+2→s=true)∧(j=m+3→f=true)∧(j=m+4→h=true))→listed.getD j false=false:=fun j hj hn=>by
    cases hv:listed.getD j false with
    | false=>rfl
    | true=>exact absurd ((hli j hj).1 hv) hn
   cases i with
   | false=>exact rdy (m+1) I h4.oI (fls _ (by omega) (fun hh=>by have:=hh.1 rfl;cases this)) fun ed he hb=>(hli _ (by have:=h4.eI ed he hb;omega)).2 (by have:=h4.eI ed he hb;exact ⟨by omega,by omega,by omega,by omega⟩)
   | true =>
    cases s with
    | false=>exact rdy (m+2) S h4.oS (fls _ (by omega) (fun hh=>by have:=hh.2.1 rfl;cases this)) fun ed he hb=>(hli _ (by have:=h4.eS ed he hb;omega)).2 (by have:=h4.eS ed he hb;exact ⟨fun _=>rfl,by omega,by omega,by omega⟩)
    | true =>
     cases f with
     | false=>exact rdy (m+3) F h4.oF (fls _ (by omega) (fun hh=>by have:=hh.2.2.1 rfl;cases this)) fun ed he hb=>(hli _ (by have:=h4.eF ed he hb;omega)).2 (by have:=h4.eF ed he hb;exact ⟨fun _=>rfl,fun _=>rfl,by omega,by omega⟩)
     | true =>
      cases h with
      | false=>exact rdy (m+4) H h4.oH (fls _ (by omega) (fun hh=>by have:=hh.2.2.2 rfl;cases this)) fun ed he hb=>(hli _ (by have:=h4.eH ed he hb;omega)).2 (by have:=h4.eH ed he hb;exact ⟨fun _=>rfl,fun _=>rfl,fun _=>rfl,by omega⟩)
      | true=>simp [cnt] at hc
  ·obtain ⟨h1,o,ho,hall⟩:=mem_ready.1 hj;have hlt:=(Tp.1 ho).1;rw [hgd _ _ hlt] at h1;have hn:¬((j=m+1→i=true)∧(j=m+2→s=true)∧(j=m+3→f=true)∧(j=m+4→h=true)):=fun hh=>by
    rw [(hli j hlt).2 hh] at h1;cases h1
   have hs1:(listed.setIfInBounds j true).size=ops.size:=by simpa using hsz
   by_cases j1:j=m+1
   ·subst j1;have hi:i=false:=by cases i with | false=>rfl | true=>exact absurd ⟨fun _=>rfl,by omega,by omega,by omega⟩ hn
    subst hi;have hs:s=false:=by cases s with | false=>rfl | true=>cases hsi rfl
    subst hs;rw [h4.oI] at ho;cases ho;refine Zer h4.oI h4.gI h4.nI (.inl (rI f h hhf)) ?_;rw [pI];exact ih true false f h (by simp [cnt] at hc ⊢;omega) (fun h=>by cases h) hhf _ hs1 (hset _ _ _ _ _ hlt fun q hq=>by
     by_cases hq1:q=m+1
     ·subst hq1;simp
     ·simp [hq1])
   ·by_cases j2:j=m+2
    ·subst j2;have hs:s=false:=by cases s with | false=>rfl | true=>exact absurd ⟨by omega,fun _=>rfl,by omega,by omega⟩ hn
     subst hs;rw [h4.oS] at ho;cases ho;obtain ⟨ed,he,hb,hon⟩:=h4.eSI;have hi:i=true:=by
      have:=hall ed he hb;rw [hon] at this;exact ((hli _ (by omega)).1 this).1 rfl
     subst hi;refine Zer h4.oS h4.gS h4.nS (.inr ⟨rS f h hhf,rfl⟩) ?_;rw [pS];exact ih true true f h (by simp [cnt] at hc ⊢;omega) (fun _=>rfl) hhf _ hs1 (hset _ _ _ _ _ hlt fun q hq=>by
      by_cases hq1:q=m+2
      ·subst hq1;simp
      ·simp [hq1])
    ·by_cases j3:j=m+3
     ·subst j3;have hf:f=false:=by cases f with | false=>rfl | true=>exact absurd ⟨by omega,by omega,fun _=>rfl,by omega⟩ hn
      subst hf;have hh:h=false:=by cases h with | false=>rfl | true=>cases hhf rfl
      subst hh;rw [h4.oF] at ho;cases ho;refine Zer h4.oF h4.gF h4.nF (.inl (rF i s hsi)) ?_;rw [pF];exact ih i s true false (by simp [cnt] at hc ⊢;omega) hsi (fun h=>by cases h) _ hs1 (hset _ _ _ _ _ hlt fun q hq=>by
       by_cases hq1:q=m+3
       ·subst hq1;simp
       ·simp [hq1])
     ·by_cases j4:j=m+4
      ·subst j4;have hh:h=false:=by cases h with | false=>rfl | true=>exact absurd ⟨by omega,by omega,by omega,fun _=>rfl⟩ hn
       subst hh;rw [h4.oH] at ho;cases ho;obtain ⟨ed,he,hb,hon⟩:=h4.eHF;have hf:f=true:=by
        have:=hall ed he hb;rw [hon] at this;exact ((hli _ (by omega)).1 this).2.2.1 rfl
       subst hf;refine Zer h4.oH h4.gH h4.nH (.inr ⟨rH i s hsi,rfl⟩) ?_;rw [pH];exact ih i s true true (by simp [cnt] at hc ⊢;omega) hsi (fun _=>rfl) _ hs1 (hset _ _ _ _ _ hlt fun q hq=>by
        by_cases hq1:q=m+4
        ·subst hq1;simp
        ·simp [hq1])
      ·exact absurd ⟨fun e=>absurd e j1,fun e=>absurd e j2,fun e=>absurd e j3,fun e=>absurd e j4⟩ hn
theorem ZAs {F:Fence} {n:Nat} {P:Program} {o:Oper} {a:Act} {w:World} {K:Act→World→Prop} {Q Q':Exit→Act→World→Prop} (hQ:∀x a w,x≠.normal→Q x a w→Q' x a w) (h:o.wpIn F n P a w K Q):o.wpIn F n P a w K Q':=by
 unfold Oper.wpIn at *
 refine ⟨h.1,?_⟩;have h:=h.2;generalize (o.semAt F.round a.eval).run P w=r at *
 cases r with
 | ok x w' =>
  cases x <;> simp only [Oper.uponIn] at h ⊢ <;> first
   | exact h
   | exact h.elim
   | (refine ⟨h.1, h.2.mono fun en w'' he => ?_⟩
      cases en <;> simp only at he ⊢ <;> first
       | exact he
       | exact hQ _ _ _ (by simp) he
       | (obtain ⟨a0,w0,hq⟩:=he;exact ⟨a0,w0,hQ _ _ _ (by simp) hq⟩))
 | halt hh w' =>
  cases hh <;> simp only [Oper.uponIn] at h ⊢ <;> first
   | exact h.elim
   | exact hQ _ _ _ (by simp) h
section
variable {G:GE} {C:Cx} {e0 e:Env} {σ0 σ:St} {w0 w:World} {a:Act} {f:Frame} {Q:PQ} {ro:Option Nat} {n:Nat} {ds:Nat×List Deferred×Bool} {N:Nat} {Z:Array Value→Prop}
theorem Zgj {m t:Nat} {QQ:Exit→Act→World→Prop} (hC:CxOK G C ro e0 σ0 w0) (hM:CxMono C) {ops:Array Oper} (hd:∀o,o∈ops→∀d,o.dst=some d→d<N∧∀t v,Z t→Z (t.setIfInBounds d v)) {ms:List Nat} (hms:∀i o,i<m→ops[i]?=some o→ms.getD i 0=ZaA ms o.after.toList 0)
  (hm:ops.size=m+t) (htail:∀j o,m≤j→ops[j]?=some o→(∀p,p<m→∃ed∈o.after,Region.binds .any ed=true∧ed.on=p)∨(∃ed∈o.after,Region.binds .any ed=true∧m≤ed.on∧ed.on<ops.size))
  (hQQ:∀x a w,x≠.normal→Yb G e0 σ0 w0 ds N Z Q x a w→QQ x a w)
  (hend:∀(listed:Array Bool) a w,listed.size=ops.size→(∀k,k<ops.size→(listed.getD k false=true↔k<m))→Yb G e0 σ0 w0 ds N Z Q .normal a w→wpAnyIn (fw ro) n G.P .any ops QQ t listed a w) :
  ∀(k:Nat) (l:List (Nat×Oper)),l.length=k→(∀p∈l,p.1<m)→(∀p∈l,ops[p.1]?=some p.2)→l.Pairwise (Zrd ops.toList ms)→(∀p∈l,∀e∈p.2.after.toList,Region.binds .any e=true→e.on<m∧e.on≠p.1) →
  ∀{listed:Array Bool},listed.size=ops.size→(∀k,k<ops.size→(listed.getD k false=true↔k<m∧∀p∈l,p.1≠k))→(∀j,j<m→(∀p∈l,p.1≠j)→∀p∈l,anc ms p.1 j=false) →
  ∀{ctx:List Ld} {e:Env} {σ:St} {w:World} {a:Act} {f:Frame},SRel G e σ w→FRel G e σ w f a.tmps→Later e0 σ0 w0 e σ w→a.tmps.size=N→Marks ds e σ w a.defers→Z a.tmps→Uj C ops.toList ms Q l ctx f σ →
  wpAnyIn (fw ro) n G.P .any ops QQ (k+t) listed a w
 | 0,l,hl,hlm,hget,hp,hed,listed,hsz,hli,hdown,ctx,e,σ,w,a,f,hS,hF,hL,hN,hds,hZ,h=>by
  have hl0:l=[]:=Sw.1 hl;subst hl0;rw [T7];exact hend listed a w hsz (fun k hk=>by rw [hli k hk];simp) ⟨.normal,f,e,σ,h,rfl,hS,hF,hL,hN,hds,hZ⟩
 | k+1,l,hl,hlm,hget,hp,hed,listed,hsz,hli,hdown,ctx,e,σ,w,a,f,hS,hF,hL,hN,hds,hZ,h=>by
  have hgd:∀i b,i<ops.size→listed.getD i b=listed.getD i false:=fun i b hi=>by
   exact m94
  rw [show k+1+t=(k+t)+1 by omega];refine ⟨fun hr=>?_,fun i hi=>?_⟩
  ·cases l with
   | nil=>simp at hl
   | cons x l =>
    exfalso;have hx:=hget x (by simp);have hlt:=(Tp.1 hx).1;have:x.1∈Region.ready .any ops listed:=by
     refine mem_ready.2 ⟨?_,x.2,hx,fun ed hed' hb=>?_⟩
     ·rw [hgd _ _ hlt]
      cases hv:listed.getD x.1 false with
      | false=>rfl
      | true=>exact absurd rfl (((hli x.1 hlt).1 hv).2 x (by simp))
     ·have h1:=hed x (by simp) ed (TH.1 hed') hb;refine (hli ed.on (by omega)).2 ⟨h1.1,fun p hp'=>?_⟩;exact m151
    rw [hr] at this;cases this
  ·obtain ⟨h1,o,ho,hall⟩:=mem_ready.1 hi;have hlt:=(Tp.1 ho).1;rw [hgd _ _ hlt] at h1;have him:i<m:=by
    apply Classical.byContradiction
    intro hge
    rcases htail i o (by omega) ho with h2 | ⟨ed,he,hb,hge,hlt2⟩
    ·cases l with
     | nil=>simp at hl
     | cons x l =>
      obtain ⟨ed,he,hb,hon⟩:=h2 x.1 (hlm x (by simp));have h3:=hall ed he hb;rw [hon] at h3;exact ((hli x.1 (by have:=hlm x (by simp);omega)).1 h3).2 x (by simp) rfl
    ·have:=((hli ed.on hlt2).1 (hall ed he hb)).1;omega
   have hmem:∃p∈l,p.1=i:=by
    apply Classical.byContradiction
    intro hno
    have:=(hli i hlt).2 ⟨him,fun p hp e=>hno ⟨p,hp,e⟩⟩;rw [h1] at this;cases this
   obtain ⟨p,hpl,rfl⟩:=hmem;have hpo:p.2=o:=by have:=hget p hpl;rw [ho] at this;exact (Option.some.inj this).symm
   obtain ⟨pre,post,rfl⟩:=List.append_of_mem hpl;obtain ⟨i,o'⟩:=p;dsimp only at hpo ho hlt h1 hi;subst hpo;have hpw:=List.pairwise_append.1 hp;have hpost:=(List.pairwise_cons.1 hpw.2.1)
   have hnotanc:∀x∈pre++(i,o')::post,anc ms x.1 i=false:=fun x hx=>by
    cases hax:anc ms x.1 i with
    | false=>rfl
    | true =>
     exfalso;unfold anc at hax
     rw [hms i o' him ho] at hax;rcases Up hax with h2 | ⟨ed,hed',hb,h2⟩
     ·simp at h2
     ·have hlst:=hall ed (TH.2 hed') hb;have hne:=((hli ed.on (by have:=(hed _ hpl ed hed' hb).1;omega)).1 hlst).2;rcases h2 with h2 | h2
      ·exact hne x hx h2.symm
      ·rw [hdown ed.on (hed _ hpl ed hed' hb).1 hne x hx] at h2;cases h2
   have hfront:=Zki hM pre (fun x hx=>by
    have hA:=hpw.2.2 x hx (i,o') (by simp);have hna:=hnotanc x (by simp [hx]);rcases hA.2.2 with h2 | h2
    ·rw [hna] at h2;cases h2
    ·exact ⟨h2.1,h2.2,hna⟩) ctx f σ h
   have hstep:=UT (ro:=ro) (n:=n) hC hS hF hL hN hds hZ (ops:=ops) (hd o' (T8 ho)) hfront;have hne':∀x∈pre++post,x.1≠i:=fun x hx=>by
    exact m176
   have hsub:∀x,x∈pre++post→x∈pre++(i,o')::post:=fun x hx=>by
    rcases TT.1 hx with hx | hx <;> simp [hx]
   have next:∀a' w',KRel G e0 σ0 w0 ds N Z (fun f' σ'=>∃c,Uj C ops.toList ms Q (pre++post) c f' σ') a' w'→wpAnyIn (fw ro) n G.P .any ops QQ (k+t) (listed.setIfInBounds i true) a' w':=fun a' w' ⟨f',e',σ',⟨c,hk1⟩,h2,h3,h4,h5,h6,h7⟩=>by
    refine Zgj hC hM hd hms hm htail hQQ hend k (pre++post) (by simp at hl ⊢;omega) (fun x hx=>hlm x (hsub x hx)) (fun x hx=>hget x (hsub x hx)) (List.pairwise_append.2 ⟨hpw.1,hpost.2,fun x hx y hy=>hpw.2.2 x hx y (Tw _ hy)⟩)
     (fun x hx=>hed x (hsub x hx)) (by simpa using hsz) (fun k hk=>?_) (fun j hjm hj x hx=>?_) h2 h3 h4 h5 h6 h7 hk1
    ·by_cases hki:k=i
     ·subst hki;have hlt':k<listed.size:=by rw [hsz];exact hlt
      have:(listed.setIfInBounds k true).getD k false=true:=by simp [Array.getD,hlt']
      simp only [this,true_iff];exact ⟨him,hne'⟩
     ·have:(listed.setIfInBounds i true).getD k false=listed.getD k false:=getD_set_ne false (Ne.symm hki);rw [this,hli k hk]
      constructor
      ·exact fun hh=>⟨hh.1,fun x hx=>hh.2 x (hsub x hx)⟩
      ·intro hh
       refine ⟨hh.1,fun x hx=>?_⟩;rcases TT.1 hx with hx | hx
       ·exact hh.2 x (by simp [hx])
       ·rcases Tt.1 hx with rfl | hx
        ·exact fun e=>hki e.symm
        ·exact hh.2 x (by simp [hx])
    ·by_cases hji:j=i
     ·subst hji;exact hnotanc x (hsub x hx)
     ·refine hdown j hjm (fun y hy=>?_) x (hsub x hx);exact m147
   have hK:∀a' w',KRel G e0 σ0 w0 ds N Z (fun f' σ'=>match XZ o'.op with | true=>Zq7 ms i σ.bx σ'.bx ctx (Uj C ops.toList ms Q (pre++post) ctx f' σ') | false=>Uj C ops.toList ms Q (pre++post) (UP C.T o' i f ctx) f' σ') a' w' →
     KRel G e0 σ0 w0 ds N Z (fun f' σ'=>∃c,Uj C ops.toList ms Q (pre++post) c f' σ') a' w':=fun a' w' ⟨f',e',σ',hk,hrest⟩=>by
    refine ⟨f',e',σ',?_,hrest⟩
    cases hE:XZ o'.op with
    | true=>rw [hE] at hk;exact ⟨_,(chkL_iff.1 hk).2⟩
    | false=>rw [hE] at hk;exact ⟨_,hk⟩
   unfold wpOpIn
   rw [ho];dsimp only;split at hstep
   ·rename_i hw
    rw [Tf hw];exact ZAs hQQ (Oper.wpIn_mono (fun a w h=>next a w (hK a w h)) hstep)
   ·rename_i hw
    rw [Tc hw];exact ⟨fun _ _=>trivial,next _ _ (hK _ _ hstep)⟩
end
def Za0 (o:Oper):Bool:=match o.guard with | none=>true | _=>false
def Zes (x:Operand) (ds:List Nat):Bool:=match x with | .tmp t=>!(ZjY t ds) | _=>true
def Zm2 (x:Operand) (d:Nat):Bool:=match x with | .tmp t=>Nat.beq t d | _=>false
def JD (m:Nat) (l:List Edge):Bool:=l.all fun ed=>!(Region.binds .any ed) || Nat.ble ed.on m
def Za1 (m:Nat) (l:List Edge):Bool:=l.any fun ed=>Region.binds .any ed && Nat.beq ed.on m
def ZlD:Nat→List Edge→Bool
 | 0,_=>true
 | n+1,l=>Za1 n l && ZlD n l
structure HoleD where
 s:Operand
 z:Operand
 t:Nat
 tx:Nat
 ti:Nat
 ix:Operand
 ts:Nat
 x:Operand
 sf:Nat
 xf:Operand
 kf:Nat
 th:Nat
 da:Nat
 di:Nat
 df:Nat
def Zm3 (h:Hole):Option HoleD:=match h.A.op,h.I.op,h.S.op,h.F.op,h.H.op with
 | .call { callee:=.builtin .append,args,argTypes },.indexAddr ti xi ix,.store ts xs x,.fieldAddr sf xf kf,.store th xh yh=>match argTypes.toList,args.toList,h.A.dst,h.I.dst,h.F.dst,h.S.dst,h.H.dst with
  | [t,tx],[s,z],some da,some di,some df,none,none =>
   match Zm2 xi da && Nat.beq ti t && Zm2 xs di && Zm2 xh df && Zm2 yh da && Zes ix [da,di,df] && Zes x [da,di,df] && Zes xf [da,di,df] && !(Nat.beq da di) && !(Nat.beq da df) && !(Nat.beq di df) with
   | true=>some ⟨s,z,t,tx,ti,ix,ts,x,sf,xf,kf,th,da,di,df⟩
   | false=>none
  | _,_,_,_,_,_,_=>none
 | _,_,_,_,_=>none
def ZoE (ops:List Oper) (h:Hole):Bool :=
 let m:=h.pre.length
 let ms:=Uh ops []
 let cs:=Jl m (ZV 0 h.pre)
 (match Zm3 h with | some _=>true | none=>false) && Za0 h.A && Za0 h.I && Za0 h.S && Za0 h.F && Za0 h.H &&
 JD m h.I.after.toList && JD m h.F.after.toList && JD (m+1) h.S.after.toList && (h.H.after.toList.all fun ed=>!(Region.binds .any ed) || (Nat.ble ed.on m || Nat.beq ed.on (m+3))) &&
 Za1 (m+1) h.S.after.toList && Za1 (m+3) h.H.after.toList && Za1 m h.I.after.toList && Za1 m h.F.after.toList && ZlD m h.A.after.toList && (match m with | 0=>true | k+1=>JD k h.A.after.toList) && Nat.ble 1 m &&
 Nat.beq cs.length m && Zig ops ms m cs && Zih cs m && Zcu ms cs
theorem Zkk {ops:Array Oper} {h:Hole} (hh:Zh8 ops.toList=some h):ops.toList=h.pre++[h.A,h.I,h.S,h.F,h.H]:=by
 unfold Zh8 at hh
 split at hh
 ·rename_i H F S I A pre hr
  split at hh
  ·cases hh
   have:ops.toList=(H::F::S::I::A::pre).reverse:=by rw [← hr,List.reverse_reverse]
   rw [this];simp
  ·cases hh
 ·cases hh
theorem Zcw {h:Hole} {d:HoleD} (hd:Zm3 h=some d):∃(args:Array Operand) (at':Array Nat),args.toList=[d.s,d.z]∧at'.toList=[d.t,d.tx]∧h.A.op=.call { callee:=.builtin .append,args:=args,argTypes:=at' } ∧
  h.I.op=.indexAddr d.t (.tmp d.da) d.ix∧h.S.op=.store d.ts (.tmp d.di) d.x∧h.F.op=.fieldAddr d.sf d.xf d.kf∧h.H.op=.store d.th (.tmp d.df) (.tmp d.da) ∧
  h.A.dst=some d.da∧h.I.dst=some d.di∧h.F.dst=some d.df∧h.S.dst=none∧h.H.dst=none∧Zes d.ix [d.da,d.di,d.df]=true∧Zes d.x [d.da,d.di,d.df]=true∧Zes d.xf [d.da,d.di,d.df]=true∧d.da≠d.di∧d.da≠d.df∧d.di≠d.df:=by
 have tmp:∀{x:Operand} {d:Nat},Zm2 x d=true→x=.tmp d:=fun {x d} h=>by
  unfold Zm2 at h
  split at h
  ·rw [Tm h]
  ·cases h
 have ne:∀{a b:Nat},(!(Nat.beq a b))=true→a≠b:=fun {a b} h e=>by subst e;simp at h
 unfold Zm3 at hd
 split at hd
 ·rename_i args at' ti xi ix ts xs x sf xf kf th xh yh h1 h2 h3 h4 h5
  split at hd
  ·rename_i t tx s z da di df g1 g2 g3 g4 g5 g6 g7
   split at hd
   ·rename_i hb
    cases hd
    simp only [Tl] at hb;obtain ⟨⟨⟨⟨⟨⟨⟨⟨⟨⟨b1,b2⟩,b3⟩,b4⟩,b5⟩,b6⟩,b7⟩,b8⟩,b9⟩,b10⟩,b11⟩:=hb;have:=tmp b1;subst this;have:=Tm b2;subst this;have:=tmp b3;subst this;have:=tmp b4;subst this;have:=tmp b5;subst this;exact ⟨args,at',g2,g1,h1,h2,h3,h4,h5,g3,g4,g5,g6,g7,b6,b7,b8,ne b9,ne b10,ne b11⟩
   ·cases hd
  ·cases hd
 ·cases hd
theorem Zik (w:World) {b1 b2:Nat} (h:b1≠b2) (o1 o2:Nat) (v1 v2:Value):(w.setCell ⟨b1,o1,none⟩ v1).setCell ⟨b2,o2,none⟩ v2=(w.setCell ⟨b2,o2,none⟩ v2).setCell ⟨b1,o1,none⟩ v1:=by
 unfold World.setCell
 simp only [World.mk.injEq,and_self,and_true,true_and]
 apply Array.ext_getElem?
 intro i
 simp only [Array.getElem?_modify]
 by_cases h1:b1=i
 ·subst h1;simp [Ne.symm h]
 ·by_cases h2:b2=i
  ·subst h2;simp [h]
  ·simp [h1,h2]
theorem WC {b1 b2:Nat} (h:b1≠b2) (o1:Nat) (v1:Value):∀(l:List Value) (o2:Nat) (w:World),(w.setCell ⟨b1,o1,none⟩ v1).setCells b2 o2 l=(w.setCells b2 o2 l).setCell ⟨b1,o1,none⟩ v1
 | [],_,_=>rfl
 | v::l,o2,w=>by
  rw [World.setCells,World.setCells,Zik w h,WC h o1 v1 l]
theorem ZbA {b1 b2:Nat} (h:b1≠b2):∀(l1:List Value) (o1:Nat) (l2:List Value) (o2:Nat) (w:World),(w.setCells b1 o1 l1).setCells b2 o2 l2=(w.setCells b2 o2 l2).setCells b1 o1 l1
 | [],_,_,_,_=>rfl
 | v::l1,o1,l2,o2,w=>by
  rw [World.setCells,World.setCells,ZbA h l1,WC h]
section
variable {G:GE} {T:Tab} {e:Env} {σ:St} {w:World}
theorem UV (hT:TabOK T G.P) {t:Nat} (hk:(T.get t).kind≠.other) {v:Value} {b off:Nat} (hlen:v.cells.size=(T.get t).size) (hc:∀j,j<v.cells.toList.length→(w.cell? ⟨b,off+j,none⟩).isSome=true)
  (hf:∀j,j<v.cells.toList.length→w.frozen? ⟨b,off+j,none⟩=false) (hone:∀u∈v.cells.toList,u.oneCell'=true) {ρ':Operand→Value} {o:Oper} {p x:Operand} (ho:o.op=.store t p x) (hp:ρ' p=.pointer (some ⟨b,off,none⟩)) (hx:ρ' x=v) :
  (execOp ρ' o).run G.P w=.ok .skip (w.setCells b off v.cells.toList):=by
 obtain ⟨i,d,z,hi,hd,hs,hby,hkd,hz,hz2,_⟩:=(hT.get hk).ex;have hrun:=run_storeCells_cells (P:=G.P) b off v.cells.toList 0 w (by simpa using hc) (by simpa using hf) hone;simp only [Sa] at hrun;have:(Instr.storeAt t (.pointer (some ⟨b,off,none⟩)) v).run G.P w=.ok () (w.setCells b off v.cells.toList):=by
  have h1':v.cells.size=i.size:=by rw [hlen,hs]
  exact m85
 unfold execOp
 simp only [ho,hp,hx,Sem.run_bind,this,Result.andThen,Sem.run_pure]
theorem Zkl (hT:TabOK T G.P) {s i off t:Nat} {fs:List (Nat×Nat)} (hk:(T.get s).kind=.struct fs) (hfi:fs[i]?=some (off,t)) {ρ':Operand→Value} {o:Oper} {x:Operand} (ho:o.op=.fieldAddr s x i) {b oo:Nat} (hv:ρ' x=.pointer (some ⟨b,oo,none⟩)) (w:World) :
  (execOp ρ' o).run G.P w=.ok (.value (.pointer (some ⟨b,oo+off,none⟩))) w:=by
 obtain ⟨ti,d,z,hi,hd,hs,hby,hkd,hz,hz2,_⟩:=(hT.get (t:=s) (by rw [hk];simp)).ex;rw [hk] at hkd;obtain ⟨gs,rfl,hf⟩:=hkd;obtain ⟨f,j,hg,ho',ht,hj,hjs⟩:=hf.get hfi;have hg':gs[i]?=some f:=by simpa using hg
 have hfp:(fieldPlace ⟨b,oo,none⟩ f).run G.P w=.ok ⟨b,oo+off,none⟩ w:=by
  exact m157
 unfold execOp
 simp [ho,hv,Instr.fieldAt,Zc hd,hg',Instr.sureAddr,hfp]
theorem Zkm (hT:TabOK T G.P) {t el:Nat} (hk:(T.get t).kind=.slice el) (hk2:(T.get el).kind≠.other) {ρ':Operand→Value} {o:Oper} {x i:Operand} (ho:o.op=.indexAddr t x i) {b off n cap:Nat} {k:IntKind} {m:Int} (hv:ρ' x=.slice (some ⟨b,off,none⟩) n cap)
  (hi:ρ' i=.int k m) (h0:0≤m) (hn:m<n) (w:World):(execOp ρ' o).run G.P w=.ok (.value (.pointer (some ⟨b,off+m.toNat * (T.get el).size,none⟩))) w:=by
 obtain ⟨ti,d,z,hti,hd,hs,hby,hkd,hz,hz2,_⟩:=(hT.get (t:=t) (by rw [hk];simp)).ex;rw [hk] at hkd;cases hkd;obtain ⟨i2,d2,z2,hi2,hd2,hs2,_,hkd2,_,_,_⟩:=(hT.get hk2).ex;unfold execOp
 simp [ho,hv,hi,Instr.indexAt,Wx,Zc hd,h0,hn,ZB hi2,Yf,hs2]
theorem Zrf {x:PV} {v:Value} {row:List D} (hx:VRel G e σ w x v) (hr:Zj5 x=some row):Flat (okc e σ) w [row] row.length v.cells.toList∧∀u∈v.cells.toList,u.oneCell'=true:=by
 unfold Zj5 at hr
 split at hr
 ·rename_i l hl
  obtain ⟨hc1,hc2⟩:=Um hx hl;obtain ⟨hd1,hd2⟩:=Zbu (ok:=okc e σ) hr;refine ⟨⟨by simp [hc1,hd1],fun r hr=>by simp at hr;rw [hr],fun a b y u hb hy hu=>?_⟩,fun u hu=>?_⟩
  ·cases a with
   | zero =>
    simp only [List.getElem?_cons_zero,Option.bind_some] at hy;simp only [Nat.zero_mul,T7,Tx] at hu;have h1:b<l.length:=by omega
    exact UR (hd2 b l[b] y (Tg h1) hy) (hc2 b l[b] u (Tg h1) hu).1
   | succ a=>simp at hy
  ·obtain ⟨j,hj,rfl⟩:=TW hu;have h1:j<l.length:=by simp [hc1] at hj;exact hj
   exact (hc2 j l[j] _ (Tg h1) (by rw [← Tx,Tg hj])).2
 ·cases hr
end
theorem Zil {t:Nat}:∀{l:List Nat},t∉l→Zbs t l=l
 | [],_=>rfl
 | x::l,h=>by
  have h1:x≠t:=fun e=>h (by simp [e])
  have h2:=Zil (t:=t) (l:=l) (fun hm=>h (by simp [hm]));unfold Zbs
  split
  ·rename_i hb;exact absurd (Tm hb) h1
  ·rw [h2]
theorem Zm4 {T:Tab} {h:Hole} {d:HoleD} {f:Frame} {σ:St} {K:Frame→St→Prop} (hd:Zm3 h=some d) (hA:Zt0 T h f σ K) :
  ∃el rows zr row k tk0,(T.get d.t).kind=.slice el∧(T.get el).kind≠.other∧1≤(T.get el).size∧d.ts=el∧UO T d.tx el (ev f d.z)=some [zr]∧Zj5 (ev f d.x)=some row∧ev f d.ix=.d (.int k (rows.length:Nat)) ∧
   zr.length=(T.get el).size∧row.length=(T.get el).size∧(rows.length+1) * (T.get el).bytes≤2 ^ 47∧rows.length+1≤2 ^ 47 ∧
   ((∃e2,ev f d.s=.nils e2∧rows=[]∧tk0=σ.tk)∨∃tok,ev f d.s=.sl tok el rows∧tok∈σ.tk∧tk0=Zbs tok σ.tk) ∧
   K (YC (YC f (some d.da) (.sl (σ.nx+1) el (rows++[row]))) (some d.di) .undef) ⟨σ.bx,(σ.nx+1)::tk0,σ.nx+2⟩:=by
 obtain ⟨args,at',a1,a2,a3,a4,a5,a6,a7,a8,a9,_⟩:=Zcw hd;unfold Zt0 at hA
 simp only [a3,a4,a5,a1,a2,a8,a9,Wf,Y1] at hA;split at hA
 ·rename_i el hk
  split at hA
  ·exact hA.elim
  ·rename_i hk2
   split at hA
   ·rename_i zr row k n h1 h2 h3 h4 h5
    split at hA
    ·rename_i h6 h7
     have e1:=Ta h1;have e2:=Tm h2;have e6:=Tm h6;have e7:=Tm h7;split at hA
     ·rename_i e0 hs
      obtain ⟨rfl,hb,hK⟩:=hA;exact ⟨el,[],zr,row,k,σ.tk,hk,fun h0=>hk2 h0,e1,e2,h3,h4,h5,e6,e7,hb,by simp,.inl ⟨e0,hs,rfl,rfl⟩,hK⟩
     ·rename_i tok e0 rows hs
      split at hA
      ·rename_i g1 g2
       have:=Tm g2;subst this;obtain ⟨rfl,hb,hb2,hK⟩:=hA;exact ⟨e0,rows,zr,row,k,Zbs tok σ.tk,hk,fun h0=>hk2 h0,e1,e2,h3,h4,h5,e6,e7,hb,hb2,.inr ⟨tok,hs,(Y3 _ _).1 g1,rfl⟩,hK⟩
      ·exact hA.elim
     ·exact hA.elim
    ·exact hA.elim
   ·exact hA.elim
 ·exact hA.elim
section
theorem Uq {x:Operand} {ds:List Nat} (h:Zes x ds=true) {a:Act} {d:Nat} (hd:d∈ds) (v:Value):(a.put (some d) v).eval x=a.eval x:=by
 cases x with
 | tmp t =>
  have:d≠t:=fun e=>by
   subst e;simp only [Zes,TV] at h;rw [(Y3 _ _).2 hd] at h;cases h
  simp [Act.put,Act.eval,Array.getD_eq_getD_getElem?,TZ,this]
 | _=>rfl
theorem ZlE {x:Operand} {ds:List Nat} (h:Zes x ds=true) {f:Frame} {d:Nat} (hd:d∈ds) (v:PV):ev (YC f (some d) v) x=ev f x:=by
 cases x with
 | tmp t =>
  have:d≠t:=fun e=>by
   subst e;simp only [Zes,TV] at h;rw [(Y3 _ _).2 hd] at h;cases h
  exact X4 f v this
 | _=>rfl
theorem Zdf {a:Act} {d:Nat} (h:d<a.tmps.size) (v:Value):(a.put (some d) v).eval (.tmp d)=v:=by
 simp [Act.put,Act.eval,TZ,h]
theorem Zet {a:Act} {d k:Nat} (h:d≠k) (v:Value):(a.put (some d) v).eval (.tmp k)=a.eval (.tmp k):=by
 simp [Act.put,Act.eval,Array.getD_eq_getD_getElem?,TZ,h]
theorem Zrg {a:Act} {d k:Nat} (h:d≠k) (v u:Value):(a.put (some d) v).put (some k) u=(a.put (some k) u).put (some d) v:=by
 simp only [Act.put,Act.mk.injEq,and_true]
 apply Array.ext_getElem?
 intro i
 simp only [TZ,Array.size_setIfInBounds]
 by_cases h1:d=i
 ·subst h1;simp [Ne.symm h]
 ·by_cases h2:k=i
  ·subst h2;simp [h]
  ·simp [h1,h2]
def Zyf (a:Act) (di df:Nat) (vI vF:Value) (i f:Bool):Act :=
 let b:=match i with | true=>a.put (some di) vI | false=>a
 match f with | true=>b.put (some df) vF | false=>b
variable {G:GE} {C:Cx} {e0:Env} {σ0:St} {w0:World} {Q:PQ} {ro:Option Nat} {n:Nat} {ds:Nat×List Deferred×Bool} {N:Nat} {Z:Array Value→Prop}
theorem Zrh (hC:CxOK G C ro e0 σ0 w0) {ops:Array Oper} (hd:∀o,o∈ops→∀d,o.dst=some d→d<N∧∀t v,Z t→Z (t.setIfInBounds d v)) {h:Hole} {D:HoleD} (hD:Zm3 h=some D) {m:Nat} (h4:Hole4 ops m h.I h.S h.F h.H) (oA:ops[m]?=some h.A) (gA:h.A.guard=none)
  (eA:∀ed∈h.A.after,Region.binds .any ed=true→ed.on<m) (eIA:∃ed∈h.I.after,Region.binds .any ed=true∧ed.on=m) (eFA:∃ed∈h.F.after,Region.binds .any ed=true∧ed.on=m)
  {listed:Array Bool} {a:Act} {w:World} (hsz:listed.size=ops.size) (hli:∀k,k<ops.size→(listed.getD k false=true↔k<m)) (hp:Yb G e0 σ0 w0 ds N Z (Zt1 C ops.toList h Q) .normal a w) :
  wpAnyIn (fw ro) n G.P .any ops (Yb G e0 σ0 w0 ds N Z Q) 5 listed a w:=by
 have hT:=hC.tab;have hsz4:=h4.size;obtain ⟨pe,f,e,σ,hq,hx,hS,hF,hL,hN,hds,hZ⟩:=hp
 cases pe with
 | exit i=>cases hx
 | goto i=>cases hx
 | ret=>cases hx
 | panic p=>obtain ⟨_,hx,_⟩:=hx;cases hx
 | normal =>
 obtain ⟨args,at',a1,a2,a3,a4,a5,a6,a7,a8,a9,a10,a11,a12,b1,b2,b3,n1,n2,n3⟩:=Zcw hD;obtain ⟨el,rows,zr,row,kk,tk0,c1,c2,c3,c4,c5,c6,c7,c8,c9,c10,c11,c12,hK⟩:=Zm4 hD hq;have hdl:∀(j:Nat) (o:Oper) (d:Nat),ops[j]?=some o→o.dst=some d→d<N:=fun j o d ho hdd=>(hd o (T8 ho) d hdd).1
 have hdz:∀(j:Nat) (o:Oper) (d:Nat),ops[j]?=some o→o.dst=some d→∀t v,Z t→Z (t.setIfInBounds d v):=fun j o d ho hdd=>(hd o (T8 ho) d hdd).2
 have dA:=hdl m _ _ oA a8;have dI:=hdl _ _ _ h4.oI a9;have dF:=hdl _ _ _ h4.oF a10;have hρ:∀x,VRel G e σ w (ev f x) (a.eval x):=fun x=>ZaB hF x
 obtain ⟨hDR,hO,hsub,htk0⟩:DRel (okc e σ) w (.sl rows) (a.eval D.s)∧((a.eval D.s=.slice none 0 0∧rows=[])∨∃tok,tok∈σ.tk∧tok∉tk0∧Owned G e w tok el rows (a.eval D.s))∧(∀x,x∈tk0→x∈σ.tk)∧True:=by
  have hs:=hρ D.s;rcases c12 with ⟨e2,h1,rfl,rfl⟩ | ⟨tok,h1,h2,rfl⟩
  ·rw [h1] at hs;generalize a.eval D.s=v at hs
   cases hs with
   | nils _=>exact ⟨.slnil,.inl ⟨rfl,rfl⟩,fun _ h=>h,trivial⟩
  ·rw [h1] at hs;generalize a.eval D.s=v at hs
   cases hs with
   | sl _ _ _ _ hn hd ht=>exact ⟨hd,.inr ⟨tok,h2,fun hm=>((VM _ _ _).1 hm).2 rfl,ht h2⟩,fun x hx=>((VM _ _ _).1 hx).1,trivial⟩
 obtain ⟨w1,bb,off,cap,e1,hrunA,hcap,st1,S1,V1⟩:=Zkj (ty:=h.A.type) hT hS c1 c2 c3 hDR tk0 hsub hO c5 (hρ D.z) c8 c10 c11;have hxv1:VRel G e1 _ w1 (ev f D.x) (a.eval D.x):=(hρ D.x).step st1;obtain ⟨hfl,hone⟩:=Zrf hxv1 c6;rw [c9] at hfl;obtain ⟨q1,q2,q3,e2,st2,S2,V2⟩:=ZoD hT S1 c2 c3 V1 (by simp) hcap hfl;have hKF:=hK;rw [X6] at hKF;simp only [XS,h4.gF] at hKF;unfold Uf at hKF
 simp only [a6,XZ,Zh5,ZmO,qop,Y1] at hKF;rw [ZlE b3 (by simp),ZlE b3 (by simp)] at hKF;split at hKF;rotate_left
 ·exact hKF.elim
 rename_i fs hks
 split at hKF;rotate_left
 ·exact hKF.elim
 rename_i fo ft hfs
 split at hKF;rotate_left
 ·rename_i r oo heq
  rw [X6] at hKF;simp only [XS,h4.gH] at hKF;unfold Uf at hKF
  simp only [a7,XZ,eop,a10] at hKF;have:ev (YC (YC (YC f (some D.da) (.sl (σ.nx+1) el (rows++[row]))) (some D.di) .undef) (some D.df) (.elem r (oo+fo))) (.tmp D.df)=.elem r (oo+fo):=YW _ _ _;rw [this] at hKF;exact hKF.elim
 ·exact hKF.elim
 rename_i b oo heqF
 rw [X6] at hKF;simp only [XS,h4.gH] at hKF;unfold Uf at hKF
 simp only [a7,XZ,eop,a10,Wf,Y1] at hKF;generalize hf4:YC (YC (YC f (some D.da) (.sl (σ.nx+1) el (rows++[row]))) (some D.di) .undef) (some D.df) (.ptr b (oo+fo))=f4 at hKF;have k1:ev f4 (.tmp D.df)=.ptr b (oo+fo):=by rw [← hf4];exact YW _ _ _
 have k2:ev f4 (.tmp D.da)=.sl (σ.nx+1) el (rows++[row]):=by
  rw [← hf4];show Zay (Zay (Zay f D.da _) D.di _) D.df _ D.da=_;rw [X4 _ _ (Ne.symm n2),X4 _ _ (Ne.symm n1),YW]
 rw [k1,k2] at hKF;simp only [PV.cells] at hKF;split at hKF;rotate_left
 ·exact hKF.elim
 rename_i ty cs hbx
 split at hKF
 ·exact hKF.elim
 rotate_left
 ·exact hKF.elim
 rename_i l1 l2 l3
 rw [a12] at hKF;have hth:(C.T.get D.th).size=1:=(Tm l1).symm;have hfit:oo+fo+1≤cs.length:=Ta l2;have hxf:=hρ D.xf;rw [heqF] at hxf;generalize hvx:a.eval D.xf=vx at hxf
 cases hxf with
 | ptr _ _ hbl =>
 have hβ1:e1.β b=e.β b:=st1.beta b hbl;have hbb:e.β b≠bb:=by rw [← hβ1];exact q3 b hbl
 obtain ⟨vs,hv1,hv2,_⟩:=S1.box b _ hbx;rw [hβ1] at hv1
 let v':Value:=.slice (some ⟨bb,off,none⟩) (rows.length+1) cap
 let oS:=off+rows.length * (C.T.get el).size
 let us:=(a.eval D.x).cells.toList
 let vI:Value:=.pointer (some ⟨bb,oS,none⟩)
 let vF:Value:=.pointer (some ⟨e.β b,oo+fo,none⟩)
 let WW:Bool→Bool→World:=fun s g =>
  let u:=match s with | true=>w1.setCells bb oS us | false=>w1
  match g with | true=>u.setCells (e.β b) (oo+fo) [v'] | false=>u
 have hNA:D.da<a.tmps.size:=by rw [hN];exact dA
 have hNI:∀v:Value,D.di<(a.put (some D.da) v).tmps.size:=fun v=>by rw [Y4,hN];exact dI
 let A0:=a.put (some D.da) v'
 let AA:=Zyf A0 D.di D.df vI vF
 have evA:∀i g,(AA i g).eval (.tmp D.da)=v':=fun i g=>by
  cases i <;> cases g
  ·exact Zdf hNA v'
  ·exact (Zet (Ne.symm n2) vF).trans (Zdf hNA v')
  ·exact (Zet (Ne.symm n1) vI).trans (Zdf hNA v')
  ·exact (Zet (Ne.symm n2) vF).trans ((Zet (Ne.symm n1) vI).trans (Zdf hNA v'))
 have evX:∀x,Zes x [D.da,D.di,D.df]=true→∀i g,(AA i g).eval x=a.eval x:=fun x hx i g=>by
  have h1:=Uq hx (a:=a) (d:=D.da) (by simp) v'
  cases i <;> cases g
  ·exact h1
  ·exact (Uq hx (d:=D.df) (by simp) vF).trans h1
  ·exact (Uq hx (d:=D.di) (by simp) vI).trans h1
  ·exact (Uq hx (d:=D.df) (by simp) vF).trans ((Uq hx (d:=D.di) (by simp) vI).trans h1)
 have evI:∀g,(AA true g).eval (.tmp D.di)=vI:=fun g=>by
  cases g
  ·exact Zdf (hNI v') vI
  ·exact (Zet (Ne.symm n3) vF).trans (Zdf (hNI v') vI)
 have evF:∀i,(AA i true).eval (.tmp D.df)=vF:=fun i=>by
  cases i
  ·exact Zdf (by rw [Y4,hN];exact dF) vF
  ·exact Zdf (by rw [Y4,Y4,hN];exact dF) vF
 have hixv:a.eval D.ix=.int kk (rows.length:Nat):=by
  have:=hρ D.ix;rw [c7] at this;exact this.dint
 have huw:∀(u:World),(∀k,k≠e.β b→u.heap[k]?=w1.heap[k]?)→(∀j,j<us.length→(u.cell? ⟨bb,oS+j,none⟩).isSome=true)∧(∀j,j<us.length→u.frozen? ⟨bb,oS+j,none⟩=false):=fun u hu=>by
  have h1:=hu bb (Ne.symm hbb);exact ⟨fun j hj=>by have:=q1 j hj;simpa [World.cell?,h1] using this,fun j hj=>by have:=q2 j hj;simpa [World.frozen?,h1] using this⟩
 have hfw:∀(u:World),(∀k,k≠bb→u.heap[k]?=w1.heap[k]?)→(∀j,j<v'.cells.toList.length→(u.cell? ⟨e.β b,oo+fo+j,none⟩).isSome=true)∧(∀j,j<v'.cells.toList.length→u.frozen? ⟨e.β b,oo+fo+j,none⟩=false):=fun u hu=>by
  have h1:=(hu (e.β b) hbb).trans hv1;refine ⟨fun j hj=>?_,fun j hj=>by simp [World.frozen?,h1]⟩;have:j<1:=hj;have:oo+fo+j<vs.size:=by omega
  simp [World.cell?,h1,this]
 have hr1:=(Xq bb us oS w1).2.2.2;have hr2:=(Xq (e.β b) [v'] (oo+fo) w1).2.2.2;have rS:∀f' h',(h'=true→f'=true)→(execOp (AA true f').eval h.S).run G.P (WW false h')=.ok .skip (WW true h'):=fun f' h' _=>by
  have hx:(AA true f').eval D.x=a.eval D.x:=evX _ b2 _ _
  cases h' with
  | false =>
   obtain ⟨g1,g2⟩:=huw w1 (fun _ _=>rfl);exact UV hT (by rw [c4];exact c2) (by rw [c4];simpa using hfl.len) g1 g2 hone a5 (evI f') hx
  | true =>
   obtain ⟨g1,g2⟩:=huw (WW false true) hr2;have:=UV (w:=WW false true) hT (by rw [c4];exact c2) (by rw [c4];simpa using hfl.len) g1 g2 hone a5 (evI f') hx;rw [this];show Result.ok Next.skip ((w1.setCells (e.β b) (oo+fo) [v']).setCells bb oS us)=.ok .skip ((w1.setCells bb oS us).setCells (e.β b) (oo+fo) [v']);rw [ZbA hbb]
 have rH:∀i s,(s=true→i=true)→(execOp (AA i true).eval h.H).run G.P (WW s false)=.ok .skip (WW s true):=fun i s _=>by
  cases s with
  | false =>
   obtain ⟨g1,g2⟩:=hfw w1 (fun _ _=>rfl);exact UV hT (fun h0=>l3 h0) (by rw [hth];rfl) g1 g2 (fun u hu=>by simp [v',Value.cells] at hu;subst hu;rfl) a7 (evF i) (evA i true)
  | true =>
   obtain ⟨g1,g2⟩:=hfw (WW true false) hr1;exact UV (w:=WW true false) hT (fun h0=>l3 h0) (by rw [hth];rfl) g1 g2 (fun u hu=>by simp [v',Value.cells] at hu;subst hu;rfl) a7 (evF i) (evA i true)
 have rI:∀f' h',(h'=true→f'=true)→(execOp (AA false f').eval h.I).run G.P (WW false h')=.ok (.value vI) (WW false h'):=fun f' h' _=>by
  have:=Zkm hT c1 c2 a4 (evA false f') ((evX _ b1 false f').trans hixv) (by omega) (by omega) (WW false h');rw [this];simp [vI,oS]
 have rF:∀i s,(s=true→i=true)→(execOp (AA i false).eval h.F).run G.P (WW s false)=.ok (.value vF) (WW s false):=fun i s _ =>
  Zkl hT hks hfs a6 ((evX _ b3 i false).trans hvx) (WW s false)
 have pI:∀f',(AA false f').put h.I.dst vI=AA true f':=fun f'=>by
  rw [a9]
  cases f'
  ·rfl
  ·exact Zrg (Ne.symm n3) vF vI
 have pF:∀i,(AA i false).put h.F.dst vF=AA i true:=fun i=>by rw [a10];rfl
 have pS:∀f',(AA true f').put h.S.dst Go.undef=AA true f':=fun f'=>by rw [a11];rfl
 have pH:∀i,(AA i true).put h.H.dst Go.undef=AA i true:=fun i=>by rw [a12];rfl
 have hfin:Yb G e0 σ0 w0 ds N Z Q .normal (AA true true) (WW true true):=by
  have hβ2:e2.β b=e.β b:=(st2.beta b (by exact hbl)).trans hβ1;have F1:=(hF.step st1).step st2;have F2:=FRel.put (a:=a) (d:=some D.da) F1 V2 (fun i hi=>by cases hi;exact hNA);have F3:=FRel.put (a:=a.put (some D.da) v') (d:=some D.di) F2 (.undef vI) (fun i hi=>by cases hi;exact hNI v');have F4:=FRel.put (a:=(a.put (some D.da) v').put (some D.di) vI) (d:=some D.df) (x:=.ptr b (oo+fo)) (v:=vF) F3 (by
   have:=VRel.ptr (G:=G) (e:=e2) (σ:=⟨σ.bx,(σ.nx+1)::Zbs σ.nx (σ.nx::tk0),σ.nx+1+1⟩) (w:=w1.setCells bb oS us) b (oo+fo) hbl;rw [hβ2] at this;exact this) (fun i hi=>by cases hi;rw [Y4,Y4,hN];exact dF)
  have htk:Zbs σ.nx (σ.nx::tk0)=tk0:=by
   have hnot:σ.nx∉tk0:=fun hm=>by have:=hS.tkn _ (hsub _ hm);omega
   unfold Zbs
   split
   ·exact Zil hnot
   ·rename_i hb;simp at hb
  have hsq:(⟨σ.bx,(σ.nx+1)::Zbs σ.nx (σ.nx::tk0),σ.nx+1+1⟩:St)=⟨σ.bx,(σ.nx+1)::tk0,σ.nx+2⟩:=by rw [htk]
  obtain ⟨w4,hrun4,st4,S4⟩:=ZaV (x:=.sl (σ.nx+1) el (rows++[row])) (v:=v') (t:=D.th) hT S2 hbx V2 rfl (by rw [hth];rfl) hfit (fun h0=>l3 h0);have hw4:w4=WW true true:=by
   have h1:=rH true true (fun _=>rfl);unfold execOp at h1
   rw [hβ2] at hrun4;have h2:(AA true true).eval (.tmp D.df)=.pointer (some ⟨e.β b,oo+fo,none⟩):=evF true;have h3:(AA true true).eval (.tmp D.da)=v':=evA true true;have hrun4':(Instr.storeAt D.th (.pointer (some ⟨e.β b,oo+fo,none⟩)) v').run G.P (WW true false)=.ok () w4:=hrun4;simp only [a7,h2,h3,Sem.run_bind,hrun4',Result.andThen,Sem.run_pure] at h1
   cases h1;rfl
  subst hw4;refine ⟨.normal,_,e2,_,hKF,rfl,by rw [← hsq];exact S4,?_,(((hL.trans st1.toLater).trans st2.toLater).trans (by rw [← hsq];exact st4.toLater)),?_,?_,?_⟩
  ·have F5:=F4.step st4;rw [hsq] at F5;rw [← hf4];exact F5
  ·show (((a.put (some D.da) v').put (some D.di) vI).put (some D.df) vF).tmps.size=N;rw [Y4,Y4,Y4,hN]
  ·show Marks ds _ _ _ (((a.put (some D.da) v').put (some D.di) vI).put (some D.df) vF).defers;rw [Wg,Wg,Wg,← hsq];exact ((hds.later st1.toLater).later st2.toLater).later st4.toLater
  ·exact hdz _ _ _ h4.oF a10 _ _ (hdz _ _ _ h4.oI a9 _ _ (hdz _ _ _ oA a8 _ _ hZ))
 have hgd:∀i b,i<ops.size→listed.getD i b=listed.getD i false:=fun i b hi=>by
  exact m94
 have hnl:∀k,k<ops.size→m≤k→listed.getD k false=false:=fun k hk hm=>by
  cases hv:listed.getD k false with
  | false=>rfl
  | true=>have:=(hli k hk).1 hv;omega
 refine ⟨fun hr=>?_,fun j hj=>?_⟩
 ·exfalso;have:m∈Region.ready .any ops listed:=mem_ready.2 ⟨by rw [hgd _ _ (by omega)];exact hnl m (by omega) (Tq _),h.A,oA,fun ed he hb=>(hli _ (by have:=eA ed he hb;omega)).2 (eA ed he hb)⟩;rw [hr] at this;cases this
 ·obtain ⟨h1,o,ho,hall⟩:=mem_ready.1 hj;have hlt:=(Tp.1 ho).1;rw [hgd _ _ hlt] at h1;have hjm:j=m:=by
   have hge:m≤j:=by
    apply Classical.byContradiction
    intro hn
    rw [(hli j hlt).2 (by omega)] at h1;cases h1
   have no:∀(o':Oper) (q:Nat),o=o'→(∃ed∈o'.after,Region.binds .any ed=true∧ed.on=q)→m≤q→q<ops.size→False:=fun o' q ho' hex hq1 hq2=>by
    subst ho';obtain ⟨ed,he,hb,hon⟩:=hex;have:=hall ed he hb;rw [hon,hnl q hq2 hq1] at this;cases this
   apply Classical.byContradiction
   intro hne
   have:j=m+1∨j=m+2∨j=m+3∨j=m+4:=by omega
   rcases this with rfl | rfl | rfl | rfl
   ·rw [h4.oI] at ho;exact no h.I m (Option.some.inj ho).symm eIA (Tq _) (by omega)
   ·rw [h4.oS] at ho;exact no h.S (m+1) (Option.some.inj ho).symm h4.eSI (by omega) (by omega)
   ·rw [h4.oF] at ho;exact no h.F m (Option.some.inj ho).symm eFA (Tq _) (by omega)
   ·rw [h4.oH] at ho;exact no h.H (m+3) (Option.some.inj ho).symm h4.eHF (by omega) (by omega)
  subst hjm;have hndA:∀c,h.A.op≠.defer c:=fun c hc=>by rw [a3] at hc;cases hc
  have hexA:(execOp a.eval h.A).run G.P w=.ok (.value v') w1:=by
   have hargs:args=#[D.s,D.z]:=by rw [← Array.toArray_toList (xs:=args),a1]
   have hats:at'=#[D.t,D.tx]:=by rw [← Array.toArray_toList (xs:=at'),a2]
   subst hargs;subst hats;unfold execOp
   simp only [a3,resolve,invoke,builtin,Sem.run_bind,Sem.run_pure,Result.andThen];rw [show Array.map a.eval #[D.s,D.z]=#[a.eval D.s,a.eval D.z] from by simp,hrunA]
  refine Zer oA gA hndA (.inl hexA) ?_;rw [a8];refine Zye h4 (A:=AA) (W:=WW) rI pI rF pF rS pS rH pH hfin 4 false false false false rfl (fun h=>by cases h) (fun h=>by cases h) _ (by simpa using hsz) fun q hq=>?_
  by_cases hqm:q=j
  ·subst hqm;have hlt':q<listed.size:=by rw [hsz];exact hq
   simp [Array.getD,hlt']
  ·have:(listed.setIfInBounds j true).getD q false=listed.getD q false:=getD_set_ne false (Ne.symm hqm);rw [this,hli q hq]
   constructor
   ·intro h;exact ⟨by omega,by omega,by omega,by omega⟩
   ·rintro ⟨x1,x2,x3,x4⟩
    have g1:q≠j+1:=fun e=>by cases x1 e
    have g2:q≠j+2:=fun e=>by cases x2 e
    have g3:q≠j+3:=fun e=>by cases x3 e
    have g4:q≠j+4:=fun e=>by cases x4 e
    omega
theorem WE {m:Nat} {l:List Edge} (h:Za1 m l=true):∃ed∈l,Region.binds .any ed=true∧ed.on=m:=by
 simp only [Za1,List.any_eq_true,Tl] at h;obtain ⟨ed,h1,h2,h3⟩:=h;exact ⟨ed,h1,h2,Tm h3⟩
theorem Zeu {l:List Edge}:∀{n:Nat},ZlD n l=true→∀p,p<n→∃ed∈l,Region.binds .any ed=true∧ed.on=p
 | 0,_,p,hp=>by omega
 | n+1,h,p,hp=>by
  simp only [ZlD,Tl] at h
  by_cases hpn:p=n
  ·subst hpn;exact WE h.1
  ·exact Zeu h.2 p (by omega)
theorem Wr {m:Nat} {l:List Edge} (h:JD m l=true):∀ed∈l,Region.binds .any ed=true→ed.on≤m:=fun ed he hb=>by
 have:=Tv.1 h ed he;rw [hb] at this;exact Ta (by simpa using this)
theorem WG {o:Oper} (h:Za0 o=true):o.guard=none:=by
 unfold Za0 at h
 split at h
 ·assumption
 ·cases h
theorem Zm5 (hC:CxOK G C ro e0 σ0 w0) (hM:CxMono C) {ops:Array Oper} (hd:∀o,o∈ops→∀d,o.dst=some d→d<N∧∀t v,Z t→Z (t.setIfInBounds d v)) {h:Hole} (hh:Zh8 ops.toList=some h) (hok:ZoE ops.toList h=true)
  {e:Env} {σ:St} {w:World} {a:Act} {f:Frame} (hS:SRel G e σ w) (hF:FRel G e σ w f a.tmps) (hL:Later e0 σ0 w0 e σ w) (hN:a.tmps.size=N) (hds:Marks ds e σ w a.defers) (hZ:Z a.tmps)
  (hW:Uj C ops.toList (Uh ops.toList []) (Zt1 C ops.toList h Q) (Jl h.pre.length (ZV 0 h.pre)) [] f σ) :
  wpAnyIn (fw ro) n G.P .any ops (Yb G e0 σ0 w0 ds N Z Q) ops.size (Array.replicate ops.size false) a w:=by
 have hops:=Zkk hh;simp only [ZoE,Tl] at hok;obtain ⟨⟨⟨⟨⟨⟨⟨⟨⟨⟨⟨⟨⟨⟨⟨⟨⟨⟨⟨⟨k1,k2⟩,k3⟩,k4⟩,k5⟩,k6⟩,k7⟩,k8⟩,k9⟩,k10⟩,k11⟩,k12⟩,k13⟩,k14⟩,k15⟩,k16⟩,k17⟩,k18⟩,k19⟩,k20⟩,k21⟩:=hok
 cases hD:Zm3 h with
 | none=>rw [hD] at k1;cases k1
 | some D =>
 obtain ⟨args,at',a1,a2,a3,a4,a5,a6,a7,a8,a9,a10,a11,a12,b1,b2,b3,n1,n2,n3⟩:=Zcw hD;generalize hm:h.pre.length=m at *;have hsize:ops.size=m+5:=by rw [← Sf,hops];simp [hm]
 have at5:∀k,k<5→ops[m+k]?=[h.A,h.I,h.S,h.F,h.H][k]?:=fun k hk=>by
  rw [← Tx,hops,TQ (by omega),hm];simp
 have oA:ops[m]?=some h.A:=at5 0 (by omega);have h4:Hole4 ops m h.I h.S h.F h.H:={
  size:=hsize
  oI:=at5 1 (by omega)
  oS:=at5 2 (by omega)
  oF:=at5 3 (by omega)
  oH:=at5 4 (by omega)
  gI:=WG k3
  gS:=WG k4
  gF:=WG k5
  gH:=WG k6
  nI:=fun c hc=>by rw [a4] at hc;cases hc
  nS:=fun c hc=>by rw [a5] at hc;cases hc
  nF:=fun c hc=>by rw [a6] at hc;cases hc
  nH:=fun c hc=>by rw [a7] at hc;cases hc
  eI:=fun ed he hb=>Wr k7 ed (TH.1 he) hb
  eF:=fun ed he hb=>Wr k8 ed (TH.1 he) hb
  eS:=fun ed he hb=>Wr k9 ed (TH.1 he) hb
  eH:=fun ed he hb=>by
   have:=Tv.1 k10 ed (TH.1 he);rw [hb] at this;simp only [Bool.not_true,SA,T9] at this;rcases this with h | h
   ·exact .inl (Ta h)
   ·exact .inr (Tm h)
  eSI:=let ⟨ed,h1,h2⟩:=WE k11;⟨ed,TH.2 h1,h2⟩
  eHF:=let ⟨ed,h1,h2⟩:=WE k12;⟨ed,TH.2 h1,h2⟩ }
 have eIA:∃ed∈h.I.after,Region.binds .any ed=true∧ed.on=m:=let ⟨ed,h1,h2⟩:=WE k13;⟨ed,TH.2 h1,h2⟩;have eFA:∃ed∈h.F.after,Region.binds .any ed=true∧ed.on=m:=let ⟨ed,h1,h2⟩:=WE k14;⟨ed,TH.2 h1,h2⟩;have hm1:1≤m:=Ta k17;have eA:∀ed∈h.A.after,Region.binds .any ed=true→ed.on<m:=fun ed he hb=>by
  cases m with
  | zero=>omega
  | succ k=>have:=Wr k16 ed (TH.1 he) hb;omega
 have hmem:∀p∈Jl m (ZV 0 h.pre),p.1<m∧ops[p.1]?=some p.2:=fun p hp=>by
  have h1:=(Wz (J7 hp)).2;simp only [Nat.sub_zero] at h1;have h2:=(Th.1 h1).1;rw [hm] at h2;exact ⟨h2,by rw [← Tx,hops,TF (by omega)];exact h1⟩
 have hcov:∀k,k<m→∃p∈Jl m (ZV 0 h.pre),p.1=k:=fun k hk=>ZaY k20 k hk
 have hlen:(Jl m (ZV 0 h.pre)).length=m:=Tm k18;have:=Zgj (n:=n) hC hM hd (m:=m) (t:=5) (QQ:=Yb G e0 σ0 w0 ds N Z Q) (ms:=Uh ops.toList []) (fun i o hi ho=>by
   obtain ⟨p,hp,rfl⟩:=hcov i hi;have:=(hmem p hp).2;rw [ho] at this
   cases this
   exact VN k21 p hp) hsize (fun j o hj ho=>by
   have hlt:=(Tp.1 ho).1;have:j=m∨j=m+1∨j=m+2∨j=m+3∨j=m+4:=by omega
   rcases this with rfl | rfl | rfl | rfl | rfl
   ·rw [oA] at ho;cases ho;exact .inl fun p hp=>let ⟨ed,h1,h2⟩:=Zeu k15 p hp;⟨ed,TH.2 h1,h2⟩
   ·rw [h4.oI] at ho;cases ho;obtain ⟨ed,h1,h2,h3⟩:=eIA;exact .inr ⟨ed,h1,h2,by omega,by omega⟩
   ·rw [h4.oS] at ho;cases ho;obtain ⟨ed,h1,h2,h3⟩:=h4.eSI;exact .inr ⟨ed,h1,h2,by omega,by omega⟩
   ·rw [h4.oF] at ho;cases ho;obtain ⟨ed,h1,h2,h3⟩:=eFA;exact .inr ⟨ed,h1,h2,by omega,by omega⟩
   ·rw [h4.oH] at ho;cases ho;obtain ⟨ed,h1,h2,h3⟩:=h4.eHF;exact .inr ⟨ed,h1,h2,by omega,by omega⟩)
  (fun x a w hx hp=>by
   cases x with
   | normal=>exact absurd rfl hx
   | _ =>
    obtain ⟨pe,f',e',σ',hq,hxr,hrest⟩:=hp;refine ⟨pe,f',e',σ',?_,hxr,hrest⟩
    cases pe <;> first | exact hq | (cases hxr;done) | (obtain ⟨_,hxr,_⟩:=hxr;cases hxr))
  (fun listed a w hsz hli hp=>Zrh hC hd hD h4 oA (WG k2) eA eIA eFA hsz hli hp)
  m (Jl m (ZV 0 h.pre)) hlen (fun p hp=>(hmem p hp).1) (fun p hp=>(hmem p hp).2) (Vq k19).1 (fun p hp e he hb=>(Vq k19).2 p hp e he hb)
  (listed:=Array.replicate ops.size false) (by simp) (fun k hk=>by
   have:(Array.replicate ops.size false).getD k false=false:=by simp [Array.getD]
   rw [this];simp only [Tr,false_iff]
   rintro ⟨hkm,hh⟩
   obtain ⟨p,hp,he⟩:=hcov k hkm;exact hh p hp he) (fun j hjm hj p hp=>by
   obtain ⟨q,hq,he⟩:=hcov j hjm;exact absurd he (hj q hq)) hS hF hL hN hds hZ hW
 rw [hsize] at this ⊢;exact this
end
end Go.PM
end

section
namespace Go.PM
theorem waits_iff {o:Oper}:∀{left:List (Nat×Oper)},V5 o left=true↔∃p∈left,∃ed∈o.after,Region.binds .any ed=true∧ed.on=p.1
 | []=>by simp [V5]
 | (i,p)::l=>by
  unfold V5
  rw [T9,waits_iff (left:=l)]
  constructor
  ·rintro (h | ⟨q,hq,h⟩)
   ·simp only [List.any_eq_true,Tl] at h;obtain ⟨ed,h1,h2,h3⟩:=h;exact ⟨(i,p),by simp,ed,TH.2 h1,h2,Tm h3⟩
   ·exact ⟨q,by simp [hq],h⟩
  ·rintro ⟨q,hq,ed,h1,h2,h3⟩
   rcases Tt.1 hq with rfl | hq
   ·left
    simp only [List.any_eq_true,Tl];exact ⟨ed,TH.1 h1,h2,by simp at h3;subst h3;simp⟩
   ·exact .inr ⟨q,hq,ed,h1,h2,h3⟩
theorem Ur {left:List (Nat×Oper)}:∀{l:List (Nat×Oper)} {p:Nat×Oper},ZgV left l=some p→p∈l∧XZ p.2.op=false∧V5 p.2 left=false
 | [],p,h=>by cases h
 | (i,o)::l,p,h=>by
  unfold ZgV at h
  split at h
  ·rename_i h1 h2;cases h;exact ⟨by simp,h1,h2⟩
  ·obtain ⟨h1,h2⟩:=Ur h;exact ⟨Tw _ h1,h2⟩
theorem Zcx {left:List (Nat×Oper)}:∀{l:List (Nat×Oper)},ZgV left l=none→∀p∈l,XZ p.2.op=false→V5 p.2 left=true
 | [],h,p,hp,_=>by cases hp
 | (i,o)::l,h,p,hp,he=>by
  unfold ZgV at h
  split at h
  ·cases h
  ·rename_i hno
   rcases Tt.1 hp with rfl | hp
   ·cases hw:V5 o left with
    | true=>rfl
    | false=>exact (hno he hw).elim
   ·exact Zcx h p hp he
theorem conjE_iff {left:List (Nat×Oper)} {X:Nat→Oper→Prop}:∀{l:List (Nat×Oper)},ZmP left l X↔∀p∈l,V5 p.2 left=false→X p.1 p.2
 | []=>by simp [ZmP]
 | (i,o)::l=>by
  unfold ZmP
  cases hw:V5 o left with
  | true => simp only [conjE_iff (l := l)]; constructor
            ·intro h p hp hwp
             rcases Tt.1 hp with rfl | hp
             ·simp only at hwp;rw [hw] at hwp;cases hwp
             ·exact h p hp hwp
            ·exact fun h p hp=>h p (Tw _ hp)
  | false => simp only [conjE_iff (l := l)]; constructor
             ·rintro ⟨h1,h2⟩ p hp hwp
              rcases Tt.1 hp with rfl | hp
              ·exact h1
              ·exact h2 p hp hwp
             ·exact fun h=>⟨h (i,o) (by simp) hw,fun p hp=>h p (Tw _ hp)⟩
theorem WH {i:Nat}:∀{l:List (Nat×Oper)},l.Pairwise (fun a b=>a.1≠b.1)→∀p,p∈YP i l↔p∈l∧p.1≠i
 | [],_,p=>by simp [YP]
 | (j,o)::l,hp,p=>by
  have h1:=List.pairwise_cons.1 hp;unfold YP
  split
  ·rename_i hb
   have:=Tm hb;subst this
   constructor
   ·exact fun h=>⟨Tw _ h,fun e=>h1.1 p h e.symm⟩
   ·rintro ⟨h,hne⟩
    rcases Tt.1 h with rfl | h
    ·exact absurd rfl hne
    ·exact h
  ·rename_i hb
   have hne:i≠j:=fun e=>by subst e;simp at hb
   rw [Tt,Tt,WH h1.2]
   constructor
   ·rintro (rfl | h)
    ·exact ⟨.inl rfl,fun e=>hne e.symm⟩
    ·exact ⟨.inr h.1,h.2⟩
   ·rintro ⟨rfl | h,h2⟩
    ·exact .inl rfl
    ·exact .inr ⟨h,h2⟩
theorem ZlF {i:Nat}:∀{l:List (Nat×Oper)},l.Pairwise (fun a b=>a.1≠b.1)→(YP i l).Pairwise (fun a b=>a.1≠b.1)
 | [],h=>h
 | (j,o)::l,h=>by
  have h1:=List.pairwise_cons.1 h;unfold YP
  split
  ·exact h1.2
  ·exact List.Pairwise.cons (fun p hp=>h1.1 p (YX hp)) (ZlF h1.2)
theorem Us {i:Nat} {o:Oper}:∀{l:List (Nat×Oper)},(i,o)∈l→(YP i l).length+1=l.length
 | [],h=>by cases h
 | (j,p)::l,h=>by
  unfold YP
  split
  ·rfl
  ·rename_i hb
   rcases Tt.1 h with h | h
   ·cases h;simp at hb
   ·rw [Td,Us h];rfl
theorem Zcy {i j:Nat}:∀{l:List (Nat×Oper)},YP i (YP j l)=YP j (YP i l)
 | []=>rfl
 | (k,o)::l=>by
  by_cases h1:j=k
  ·subst h1
   by_cases h2:i=j
   ·subst h2;rfl
   ·have hb:Nat.beq i j=false:=by cases h:Nat.beq i j with | false=>rfl | true=>exact absurd (Tm h) h2
    simp [YP,hb]
  ·have hb:Nat.beq j k=false:=by cases h:Nat.beq j k with | false=>rfl | true=>exact absurd (Tm h) h1
   by_cases h2:i=k
   ·subst h2;simp [YP,hb]
   ·have hc:Nat.beq i k=false:=by cases h:Nat.beq i k with | false=>rfl | true=>exact absurd (Tm h) h2
    simp [YP,hb,hc,Zcy (l:=l)]
section
variable {C:Cx} {all:List Oper} {ms:List Nat} {Q:PQ} {f:Frame} {σ:St}
theorem J8 (hM:CxMono C) {i:Nat} {o:Oper} {ctx:List Ld} {K K':List Ld→Frame→St→Prop} (hK:∀c f σ,K c f σ→K' c f σ) (h:Ui C all ms Q i o ctx f σ K):Ui C all ms Q i o ctx f σ K':=by
 unfold Ui at h ⊢
 refine Zcr hM (fun f' σ' hk=>?_) h
 cases hE:XZ o.op with
 | true=>simp only [hE] at hk ⊢;rw [chkL_iff] at hk ⊢;exact ⟨hk.1,hK _ _ _ hk.2⟩
 | false=>simp only [hE] at hk ⊢;exact hK _ _ _ hk
theorem ZbB (hM:CxMono C):∀(n:Nat) (l:List (Nat×Oper)) (c c':List Ld) (f:Frame) (σ:St),(∀d,d∈c'→d∈c)→Uk C all ms Q n l c f σ→Uk C all ms Q n l c' f σ
 | 0,[],_,_,_,_,_,h=>h
 | _+1,[],_,_,_,_,_,h=>h
 | 0,_::_,_,_,_,_,_,h=>h.elim
 | n+1,x::l,c,c',f,σ,hs,h=>by
  unfold Uk at h ⊢
  split at h
  ·exact Zeo hM hs (fun c c' f σ=>ZbB hM n _ c c' f σ) h
  ·rw [conjE_iff] at h ⊢;exact fun p hp hw=>Zeo hM hs (fun c c' f σ=>ZbB hM n _ c c' f σ) (h p hp hw)
structure Rem (all:List Oper) (ms:List Nat) (L:List (Nat×Oper)):Prop where
 pw:L.Pairwise (fun a b=>a.1≠b.1)
 msk:∀p∈L,ms.getD p.1 0=ZaA ms p.2.after.toList 0
 apart:∀p∈L,∀q∈L,p.1≠q.1→XZ p.2.op=false→anc ms p.1 q.1=false→anc ms q.1 p.1=false→Zdd all p.2 q.2=true
 down:∀j,(∀p∈L,p.1≠j)→∀q∈L,anc ms q.1 j=false
theorem Rem.noanc {L:List (Nat×Oper)} (h:Rem all ms L) {p:Nat×Oper} (hp:p∈L) (hw:V5 p.2 L=false):∀q∈L,anc ms q.1 p.1=false:=fun q hq=>by
 cases ha:anc ms q.1 p.1 with
 | false=>rfl
 | true =>
  exfalso;unfold anc at ha
  rw [h.msk p hp] at ha;rcases Up ha with h2 | ⟨ed,he,hb,h2⟩
  ·simp at h2
  ·have hno:∀x∈L,x.1≠ed.on:=fun x hx e=>by
    have:V5 p.2 L=true:=waits_iff.2 ⟨x,hx,ed,TH.2 he,hb,e.symm⟩;rw [hw] at this;cases this
   rcases h2 with h2 | h2
   ·exact hno q hq h2.symm
   ·rw [h.down ed.on hno q hq] at h2;cases h2
theorem Rem.drop {L:List (Nat×Oper)} (h:Rem all ms L) {p:Nat×Oper} (hp:p∈L) (hw:V5 p.2 L=false):Rem all ms (YP p.1 L) where
 pw:=ZlF h.pw
 msk:=fun q hq=>h.msk q (YX hq)
 apart:=fun a ha b hb=>h.apart a (YX ha) b (YX hb)
 down:=fun j hj q hq=>by
  by_cases hjp:j=p.1
  ·subst hjp;exact h.noanc hp hw q (YX hq)
  ·refine h.down j (fun x hx e=>?_) q (YX hq);exact hj x ((WH h.pw x).2 ⟨hx,fun e2=>hjp (e.symm.trans e2)⟩) e
theorem J9 {o:Oper} {i:Nat} {L:List (Nat×Oper)} (h:V5 o L=false):V5 o (YP i L)=false:=by
 cases hw:V5 o (YP i L) with
 | false=>rfl
 | true =>
  obtain ⟨p,hp,hr⟩:=waits_iff.1 hw;rw [waits_iff.2 ⟨p,YX hp,hr⟩] at h;cases h
theorem ZoF {L:List (Nat×Oper)} (h:L.Pairwise (fun a b=>a.1≠b.1)) {p q:Nat×Oper} (hp:p∈L) (hq:q∈L) (he:p.1=q.1):p=q:=by
 induction L with
 | nil=>cases hp
 | cons x l ih =>
  have h1:=List.pairwise_cons.1 h;rcases Tt.1 hp with hp1 | hp1 <;> rcases Tt.1 hq with hq1 | hq1
  ·rw [hp1,hq1]
  ·exact absurd (hp1 ▸ he) (h1.1 q hq1)
  ·exact absurd (hq1 ▸ he.symm) (h1.1 p hp1)
  ·exact ih h1.2 hp1 hq1
theorem ZoG (hM:CxMono C):∀(k:Nat),(∀(L:List (Nat×Oper)),L.length=k+1→Rem all ms L→∀p∈L,V5 p.2 L=false→∀ctx f σ,Uk C all ms Q (k+1) L ctx f σ→Ui C all ms Q p.1 p.2 ctx f σ (Uk C all ms Q k (YP p.1 L))) ∧
  (∀(L:List (Nat×Oper)),L.length=k+1→Rem all ms L→∀p∈L,XZ p.2.op=false→V5 p.2 L=false→∀ctx f σ,Ui C all ms Q p.1 p.2 ctx f σ (Uk C all ms Q k (YP p.1 L))→Uk C all ms Q (k+1) L ctx f σ):=by
 intro k
 induction k with
 | zero =>
  have one:∀(L:List (Nat×Oper)),L.length=0+1→∀p∈L,L=[p]:=fun L hl p hp=>by
   cases L with
   | nil=>cases hp
   | cons x l =>
    cases l with
    | nil=>rw [List.mem_singleton.1 hp]
    | cons y l=>simp at hl
  refine ⟨fun L hl hR p hp hw ctx f σ h=>?_,fun L hl hR p hp he hw ctx f σ h=>?_⟩
  ·obtain rfl:=one L hl p hp;unfold Uk at h
   split at h
   ·rename_i i o hpk
    have:=(Ur hpk).1;simp at this;subst this;exact h
   ·exact (conjE_iff.1 h) p hp hw
  ·obtain rfl:=one L hl p hp;unfold Uk
   split
   ·rename_i i o hpk
    have:=(Ur hpk).1;simp at this;subst this;exact h
   ·rename_i hpk
    have:=Zcx hpk p hp he;rw [hw] at this;cases this
 | succ k ih =>
  obtain ⟨ihA,ihB⟩:=ih;refine ⟨fun L hl hR p hp hw ctx f σ h=>?_,fun L hl hR p hp he hw ctx f σ h=>?_⟩
  ·cases L with
   | nil=>cases hp
   | cons x l =>
   unfold Uk at h
   split at h
   ·rename_i j q hpk
    obtain ⟨g1,g2,g3⟩:=Ur hpk
    by_cases hj:j=p.1
    ·have:=ZoF hR.pw g1 hp hj;subst this;exact h
    ·have hpd:p∈YP j (x::l):=(WH hR.pw p).2 ⟨hp,fun e=>hj e.symm⟩;have hjd:(j,q)∈YP p.1 (x::l):=(WH hR.pw (j,q)).2 ⟨g1,hj⟩;have hlen:(YP j (x::l)).length=k+1:=by have:=Us g1;omega
     have hlen2:(YP p.1 (x::l)).length=k+1:=by have:=Us (o:=p.2) hp;omega
     have h2:=J8 hM (fun c f σ hk=>ihA _ hlen (hR.drop g1 g3) p hpd (J9 hw) c f σ hk) h;have h3:=Zyd hM (fun c c' f σ=>ZbB hM k _ c c' f σ) g2 (hR.apart _ g1 _ hp hj g2 (hR.noanc hp hw _ g1) (hR.noanc g1 g3 _ hp)) (hR.noanc hp hw _ g1) h2;rw [Zcy] at h3;exact J8 hM (fun c f σ hk=>ihB _ hlen2 (hR.drop hp hw) (j,q) hjd g2 (J9 g3) c f σ hk) h3
   ·exact (conjE_iff.1 h) p hp hw
  ·cases L with
   | nil=>cases hp
   | cons x l =>
   unfold Uk
   split
   ·rename_i j q hpk
    obtain ⟨g1,g2,g3⟩:=Ur hpk
    by_cases hj:j=p.1
    ·have:=ZoF hR.pw g1 hp hj;subst this;exact h
    ·have hpd:p∈YP j (x::l):=(WH hR.pw p).2 ⟨hp,fun e=>hj e.symm⟩;have hjd:(j,q)∈YP p.1 (x::l):=(WH hR.pw (j,q)).2 ⟨g1,hj⟩;have hlen:(YP j (x::l)).length=k+1:=by have:=Us g1;omega
     have hlen2:(YP p.1 (x::l)).length=k+1:=by have:=Us (o:=p.2) hp;omega
     have h2:=J8 hM (fun c f σ hk=>ihA _ hlen2 (hR.drop hp hw) (j,q) hjd (J9 g3) c f σ hk) h;have h3:=Zyd hM (fun c c' f σ=>ZbB hM k _ c c' f σ) he (hR.apart _ hp _ g1 (fun e=>hj e.symm) he (hR.noanc g1 g3 _ hp) (hR.noanc hp hw _ g1)) (hR.noanc g1 g3 _ hp) h2;rw [Zcy] at h3;exact J8 hM (fun c f σ hk=>ihB _ hlen (hR.drop g1 g3) p hpd he (J9 hw) c f σ hk) h3
   ·rename_i hpk
    have:=Zcx hpk p hp he;rw [hw] at this;cases this
end
def Zt7 (i:Nat) (l:List Edge):Bool:=l.all fun ed=>!(Region.binds .any ed) || Nat.ble (ed.on+1) i
def Zri (all:List Oper) (ms:List Nat) (L:List (Nat×Oper)):Bool :=
 L.all fun p=>L.all fun q=>Nat.beq p.1 q.1 || XZ p.2.op || anc ms p.1 q.1 || anc ms q.1 p.1 || Zdd all p.2 q.2
def Zt8 (ops:List Oper):Bool :=
 let ms:=Uh ops []
 let L:=ZV 0 ops
 Zcu ms L && (L.all fun p=>Zt7 p.1 p.2.after.toList) && Zri ops ms L
theorem Zev:∀{l:List Oper} {i:Nat},(ZV i l).Pairwise (fun a b=>a.1≠b.1)
 | [],_=>List.Pairwise.nil
 | o::l,i=>List.Pairwise.cons (fun p hp=>by have:=(Wz hp).1;simp only;omega) Zev
theorem Zdg:∀{l:List Oper} {i:Nat},(ZV i l).length=l.length
 | [],_=>rfl
 | o::l,i=>by simp [ZV,Zdg (l:=l)]
theorem Zdh:∀{l:List Oper} {i k:Nat} {o:Oper},l[k]?=some o→(i+k,o)∈ZV i l
 | [],_,_,_,h=>by simp at h
 | x::l,i,k,o,h=>by
  unfold ZV
  cases k with
  | zero=>simp at h;subst h;simp
  | succ k =>
   have:=Zdh (l:=l) (i:=i+1) (k:=k) (o:=o) (by simpa using h);rw [show i+(k+1)=i+1+k by omega];exact Tw _ this
section
variable {G:GE} {C:Cx} {e0 e:Env} {σ0 σ:St} {w0 w:World} {a:Act} {f:Frame} {Q:PQ} {ro:Option Nat} {n:Nat} {ds:Nat×List Deferred×Bool} {N:Nat} {Z:Array Value→Prop}
theorem ZoH (hC:CxOK G C ro e0 σ0 w0) (hM:CxMono C) {ops:Array Oper} (hd:∀o,o∈ops→∀d,o.dst=some d→d<N∧∀t v,Z t→Z (t.setIfInBounds d v)) {ms:List Nat} :
  ∀(k:Nat) (L:List (Nat×Oper)),L.length=k→Rem ops.toList ms L→(∀p∈L,ops[p.1]?=some p.2)→(∀p∈L,∀ed∈p.2.after,Region.binds .any ed=true→ed.on<p.1) →
  ∀{listed:Array Bool},listed.size=ops.size→(∀k,k<ops.size→(listed.getD k false=true↔∀p∈L,p.1≠k)) →
  ∀{ctx:List Ld} {e:Env} {σ:St} {w:World} {a:Act} {f:Frame},SRel G e σ w→FRel G e σ w f a.tmps→Later e0 σ0 w0 e σ w→a.tmps.size=N→Marks ds e σ w a.defers→Z a.tmps→Uk C ops.toList ms Q k L ctx f σ →
  wpAnyIn (fw ro) n G.P .any ops (Yb G e0 σ0 w0 ds N Z Q) k listed a w
 | 0,L,hl,hR,hget,hed,listed,hsz,hli,ctx,e,σ,w,a,f,hS,hF,hL,hN,hds,hZ,h=>by
  have hl0:L=[]:=Sw.1 hl;exact m69
 | k+1,L,hl,hR,hget,hed,listed,hsz,hli,ctx,e,σ,w,a,f,hS,hF,hL,hN,hds,hZ,h=>by
  have hgd:∀i b,i<ops.size→listed.getD i b=listed.getD i false:=fun i b hi=>by
   exact m94
  have hnl:∀p∈L,listed.getD p.1 true=false:=fun p hp=>by
   have hlt:=(Tp.1 (hget p hp)).1;rw [hgd _ _ hlt]
   cases hv:listed.getD p.1 false with
   | false=>rfl
   | true=>exact absurd rfl ((hli p.1 hlt).1 hv p hp)
  refine ⟨fun hr=>?_,fun i hi=>?_⟩
  ·exfalso;have:∀(m:Nat),∀p∈L,p.1≤m→False:=by
    intro m
    induction m with
    | zero =>
     intro p hp hm
     have hlt:=(Tp.1 (hget p hp)).1;have:p.1∈Region.ready .any ops listed:=mem_ready.2 ⟨hnl p hp,p.2,hget p hp,fun ed he hb=>by have:=hed p hp ed he hb;omega⟩;rw [hr] at this;cases this
    | succ m ih =>
     intro p hp hm
     have hlt:=(Tp.1 (hget p hp)).1;have:p.1∈Region.ready .any ops listed:=mem_ready.2 ⟨hnl p hp,p.2,hget p hp,fun ed he hb=>(hli ed.on (by have:=hed p hp ed he hb;omega)).2 fun q hq e=>by
      have:=hed p hp ed he hb;exact ih q hq (by omega)⟩
     rw [hr] at this;cases this
   cases L with
   | nil=>simp at hl
   | cons x l=>exact this x.1 x (by simp) (Tq _)
  ·obtain ⟨h1,o,ho,hall⟩:=mem_ready.1 hi;have hlt:=(Tp.1 ho).1;rw [hgd _ _ hlt] at h1;have hmem:∃p∈L,p.1=i:=by
    exact m164
   obtain ⟨p,hpl,rfl⟩:=hmem;have hpo:p.2=o:=by have:=hget p hpl;rw [ho] at this;exact (Option.some.inj this).symm
   subst hpo;have hw:V5 p.2 L=false:=by
    cases hv:V5 p.2 L with
    | false=>rfl
    | true =>
     obtain ⟨q,hq,ed,he,hb,hon⟩:=waits_iff.1 hv;have hq2:=(Tp.1 (hget q hq)).1;have:=(hli q.1 hq2).1 (by rw [← hon];exact hall ed he hb);exact absurd rfl (this q hq)
   have hfront:=(ZoG hM k).1 L hl hR p hpl hw ctx f σ h;have hstep:=UT (ro:=ro) (n:=n) hC hS hF hL hN hds hZ (ops:=ops) (hd p.2 (T8 ho)) hfront;have hlen:(YP p.1 L).length=k:=by have:=Us (o:=p.2) hpl;omega
   have next:∀a' w',KRel G e0 σ0 w0 ds N Z (fun f' σ'=>∃c,Uk C ops.toList ms Q k (YP p.1 L) c f' σ') a' w'→wpAnyIn (fw ro) n G.P .any ops (Yb G e0 σ0 w0 ds N Z Q) k (listed.setIfInBounds p.1 true) a' w':=fun a' w' ⟨f',e',σ',⟨c,hk1⟩,h2,h3,h4,h5,h6,h7⟩=>by
    refine ZoH hC hM hd k (YP p.1 L) hlen (hR.drop hpl hw) (fun x hx=>hget x (YX hx)) (fun x hx=>hed x (YX hx)) (by simpa using hsz) (fun k hk=>?_) h2 h3 h4 h5 h6 h7 hk1
    by_cases hki:k=p.1
    ·subst hki;have hlt':p.1<listed.size:=by rw [hsz];exact hlt
     have:(listed.setIfInBounds p.1 true).getD p.1 false=true:=by simp [Array.getD,hlt']
     simp only [this,true_iff];exact fun x hx=>((WH hR.pw x).1 hx).2
    ·have:(listed.setIfInBounds p.1 true).getD k false=listed.getD k false:=getD_set_ne false (Ne.symm hki);rw [this,hli k hk]
     constructor
     ·exact fun hh x hx=>hh x (YX hx)
     ·intro hh x hx hxk
      exact hh x ((WH hR.pw x).2 ⟨hx,fun e2=>hki (hxk.symm.trans e2)⟩) hxk
   have hK:∀a' w',KRel G e0 σ0 w0 ds N Z (fun f' σ'=>match XZ p.2.op with | true=>Zq7 ms p.1 σ.bx σ'.bx ctx (Uk C ops.toList ms Q k (YP p.1 L) ctx f' σ') | false=>Uk C ops.toList ms Q k (YP p.1 L) (UP C.T p.2 p.1 f ctx) f' σ') a' w' →
     KRel G e0 σ0 w0 ds N Z (fun f' σ'=>∃c,Uk C ops.toList ms Q k (YP p.1 L) c f' σ') a' w':=fun a' w' ⟨f',e',σ',hk,hrest⟩=>by
    refine ⟨f',e',σ',?_,hrest⟩
    cases hE:XZ p.2.op with
    | true=>rw [hE] at hk;exact ⟨_,(chkL_iff.1 hk).2⟩
    | false=>rw [hE] at hk;exact ⟨_,hk⟩
   exact m95
theorem ZoI (hC:CxOK G C ro e0 σ0 w0) (hM:CxMono C) {ops:Array Oper} (hd:∀o,o∈ops→∀d,o.dst=some d→d<N∧∀t v,Z t→Z (t.setIfInBounds d v)) (hok:Zt8 ops.toList=true)
  (hS:SRel G e σ w) (hF:FRel G e σ w f a.tmps) (hL:Later e0 σ0 w0 e σ w) (hN:a.tmps.size=N) (hds:Marks ds e σ w a.defers) (hZ:Z a.tmps) (h:Uk C ops.toList (Uh ops.toList []) Q ops.toList.length (ZV 0 ops.toList) [] f σ) :
  wpAnyIn (fw ro) n G.P .any ops (Yb G e0 σ0 w0 ds N Z Q) ops.size (Array.replicate ops.size false) a w:=by
 simp only [Zt8,Tl] at hok;obtain ⟨⟨k1,k2⟩,k3⟩:=hok;have hget:∀p∈ZV 0 ops.toList,ops[p.1]?=some p.2:=fun p hp=>by
  have:=(Wz hp).2;rw [← Tx];simpa using this
 have hcov:∀k,k<ops.size→∃p∈ZV 0 ops.toList,p.1=k:=fun k hk=>⟨_,Zdh (i:=0) (k:=k) (o:=ops[k]) (by rw [Tx,TA hk]),by simp⟩
 have hlen:ops.toList.length=ops.size:=Sf;rw [hlen] at h;refine ZoH hC hM hd ops.size (ZV 0 ops.toList) (by rw [Zdg,hlen]) ⟨Zev,VN k1,fun p hp q hq hne he h1 h2=>?_,fun j hj q hq=>?_⟩ hget (fun p hp ed he hb=>?_) (by simp) (fun k hk=>?_) hS hF hL hN hds hZ h
 ·have:=Tv.1 (Tv.1 k3 p hp) q hq;simp only [T9] at this;rcases this with (((h | h) | h) | h) | h
  ·exact absurd (Tm h) hne
  ·rw [he] at h;cases h
  ·rw [h1] at h;cases h
  ·rw [h2] at h;cases h
  ·exact h
 ·by_cases hj':j<ops.size
  ·obtain ⟨p,hp,he⟩:=hcov j hj';exact absurd he (hj p hp)
  ·exact m78
 ·have:=Tv.1 (Tv.1 k2 p hp) ed (TH.1 he);rw [hb] at this;exact Ta (by simpa using this)
 ·exact m126
end
end Go.PM
end

section
namespace Go.PM
theorem Wh {P:Program} {b:Go.Frame} {a:Act} {k:List Item} {cs:List Go.Frame} {w:World} {c:Code} :
  step P (lone (b.atR a (.code (.scope c)::k)) cs w)=.next (lone (b.atR a (.code c::.inScope c::k)) cs w) :=
 step_lone_go (by simp [stepG,stepG.exec,Go.Frame.atR])
theorem Zg7 {P:Program} {b:Go.Frame} {a:Act} {k:List Item} {cs:List Go.Frame} {w:World} {c:Code} :
  step P (lone (b.atR a (.inScope c::k)) cs w)=.next (lone (b.atR a k) cs w) :=
 step_lone_go (by simp [stepG,stepG.exec,Go.Frame.atR])
theorem Zm6 {F:Fence} {n:Nat} {P:Program} {Q:Exit→Act→World→Prop} {a:Act} {w:World} {c:Code} (h:c.wpIn F n P (Exit.noGoto Q) a w):(Code.scope c).wpIn F n P Q a w:=by
 intro b k cs hro hb hr
 have h0:(lone (b.atR a (.code (.scope c)::k)) cs w).fenced P F:=fenced_calm hb hr rfl;obtain ⟨e,a₁,w₁,hq,harr⟩:=h b (.inScope c::k) cs hro hb hr
 cases e with
 | normal=>exact ⟨.normal,a₁,w₁,hq,.head h0 Wh (StepsIn.trans harr (.one (fenced_calm hb hr rfl) Zg7))⟩
 | exit id =>
  have hx:exitTo id (.inScope c::k)=exitTo id k:=by simp [exitTo]
  exact ⟨.exit id,a₁,w₁,hq,fun k' hk=>.head h0 Wh (harr.1 k' (by rw [hx];exact hk)),
   fun hr' hk=>let ⟨k₁,h1,h2⟩:=harr.2 hr' (by rw [hx];exact hk);⟨k₁,h1,.head h0 Wh h2⟩⟩
 | goto l=>exact hq.elim
 | ret=>exact ⟨_,a₁,w₁,hq,.of_steps (.one h0 Wh) harr⟩
 | panic ch=>exact ⟨_,a₁,w₁,hq,.of_steps (.one h0 Wh) harr⟩
 | outgrown=>exact ⟨_,a₁,w₁,hq,.of_steps (.one h0 Wh) harr⟩
def ZoJ (N:Nat):List Oper→Bool
 | []=>true
 | o::l=>(match o.dst with | some d=>Nat.ble (d+1) N | none=>true) && ZoJ N l
def ZL (N:Nat):Code→Bool
 | .region _ ops draw=>ZoJ N ops.toList && (!draw || (match Zh8 ops.toList with | none=>(match Zlw (Uh ops.toList []) none (ZV 0 ops.toList) with | true=>ZoB ops.toList | false=>Zt8 ops.toList) | some h=>ZoE ops.toList h))
 | .seq a b=>ZL N a && ZL N b
 | .cond _ a b=>ZL N a && ZL N b
 | .block _ b=>ZL N b
 | .loop b=>ZL N b
 | .scope b=>ZL N b
 | .rangeFunc _ ps a b=>ps.toList.all (fun p=>Nat.ble (p+1) N) && ZL N a && ZL N b
 | _=>true
theorem Zaa {N:Nat}:∀{l:List Oper},ZoJ N l=true→∀o∈l,∀d,o.dst=some d→d<N
 | [],_,o,ho=>by cases ho
 | x::l,h,o,ho=>by
  simp only [ZoJ,Tl] at h;rcases Tt.1 ho with rfl | ho
  ·intro d hd
   have:=h.1;rw [hd] at this;exact Ta this
  ·exact Zaa h.2 o ho
theorem ZaH {ks:List Nat}:∀{l:List Oper},XD l ks=true→∀o∈l,∀d,o.dst=some d→d∉ks
 | [],_,o,ho=>by cases ho
 | x::l,h,o,ho=>by
  simp only [XD,Tl] at h;rcases Tt.1 ho with rfl | ho
  ·intro d hd hm
   have:=h.1;rw [hd] at this;simp only [TV] at this;rw [(Y3 _ _).2 hm] at this;cases this
  ·exact ZaH h.2 o ho
def Kept (ks:List Nat) (t0 t:Array Value):Prop:=∀i,i∈ks→t.getD i Go.undef=t0.getD i Go.undef
theorem Kept.set {ks:List Nat} {t0 t:Array Value} (h:Kept ks t0 t) {d:Nat} (hd:d∉ks) (v:Value):Kept ks t0 (t.setIfInBounds d v):=fun i hi=>by
 have hne:d≠i:=fun e=>hd (e ▸ hi)
 rw [← h i hi];simp [TZ,hne]
theorem Jm {ks ls:List Nat}:∀{l:List Oper},XD l ks=true→XD l ls=true→XD l (ks++ls)=true
 | [],_,_=>rfl
 | o::l,h1,h2=>by
  simp only [XD,Tl] at h1 h2 ⊢;refine ⟨?_,Jm h1.2 h2.2⟩;have h1:=h1.1;have h2:=h2.1
  cases hd:o.dst with
  | none=>rfl
  | some d =>
   rw [hd] at h1 h2;simp only [TV] at h1 h2 ⊢
   cases h3:ZjY d (ks++ls) with
   | false=>rfl
   | true =>
    rcases TT.1 ((Y3 _ _).1 h3) with h4 | h4
    ·rw [(Y3 _ _).2 h4] at h1;cases h1
    ·rw [(Y3 _ _).2 h4] at h2;cases h2
theorem ZfG {ks ls:List Nat}:∀{c:Code},YB ks c=true→YB ls c=true→YB (ks++ls) c=true:=by
 intro c
 induction c with
 | region id ops draw=>exact fun h1 h2=>Jm h1 h2
 | seq a b iha ihb=>intro h1 h2;simp only [YB,Tl] at h1 h2 ⊢;exact ⟨iha h1.1 h2.1,ihb h1.2 h2.2⟩
 | cond c a b iha ihb=>intro h1 h2;simp only [YB,Tl] at h1 h2 ⊢;exact ⟨iha h1.1 h2.1,ihb h1.2 h2.2⟩
 | block id b ih=>intro h1 h2;exact ih h1 h2
 | loop b ih=>intro h1 h2;exact ih h1 h2
 | scope b ih=>intro h1 h2;exact ih h1 h2
 | _=>intro _ _;rfl
theorem Yx:∀c:Code,YB [] c=true:=by
 intro c
 induction c with
 | region id ops draw =>
  have:∀l:List Oper,XD l []=true:=by
   intro l
   induction l with
   | nil=>rfl
   | cons o l ih=>simp only [XD,ih,Bool.and_true];cases o.dst <;> rfl
  exact this _
 | seq a b iha ihb=>simp [YB,iha,ihb]
 | cond c a b iha ihb=>simp [YB,iha,ihb]
 | block id b ih=>exact ih
 | loop b ih=>exact ih
 | scope b ih=>exact ih
 | _=>rfl
section
variable {G:GE} {C:Cx} {e0 e:Env} {σ0 σ:St} {w0 w:World} {a:Act} {f:Frame} {Q:PQ} {ro:Option Nat} {n:Nat} {ds:Nat×List Deferred×Bool} {N:Nat}
theorem ZbC {base:Frame} {tm:Array Value} (hb:FRel G e σ w base tm):∀{live:List Nat} {vs:List PV},(∀(k i:Nat) (x:PV),live[k]?=some i→vs[k]?=some x→VRel G e σ w x (tm.getD i Go.undef))→FRel G e σ w (ZgX base live vs) tm
 | [],vs,_=>by cases vs <;> exact hb
 | i::is,[],_=>hb
 | i::is,v::vs,h=>by
  intro j
  have ih:=ZbC hb (live:=is) (vs:=vs) fun k i x h1 h2=>h (k+1) i x (by simpa using h1) (by simpa using h2)
  simp only [ZgX]
  by_cases hij:i=j
  ·subst hij;rw [YW];exact h 0 i v (by simp) (by simp)
  ·rw [X4 _ _ hij];exact ih j
theorem Zew {f0:Frame} {tm:Array Value}:∀{keep:List Nat},(∀i,i∈keep→VRel G e σ w (clean (f0 i)) (tm.getD i Go.undef))→FRel G e σ w (Zj6 f0 keep) tm
 | [],_=>fun i=>.undef _
 | i::is,h=>by
  intro j
  simp only [Zj6]
  by_cases hij:i=j
  ·subst hij;rw [YW];exact h i (by simp)
  ·rw [X4 _ _ hij];exact Zew (fun k hk=>h k (Tw _ hk)) j
theorem Zrj {ks:List Nat} {t0:Array Value} {b:Code} (ihb:∀(Q:PQ) {e:Env} {σ:St} {w:World} {a:Act} {f:Frame},SRel G e σ w→FRel G e σ w f a.tmps→Later e0 σ0 w0 e σ w→a.tmps.size=N→Marks ds e σ w a.defers→Kept ks t0 a.tmps→W C b Q f σ→b.wpIn (fw ro) n G.P (Yb G e0 σ0 w0 ds N (Kept ks t0) Q) a w)
  (x:Exit) (a:Act) (w:World) (h:Yb G e0 σ0 w0 ds N (Kept ks t0) (fun e f σ=>match e with | .normal=>W C b Q f σ | e=>Q e f σ) x a w):Exit.then (b.wpIn (fw ro) n G.P (Yb G e0 σ0 w0 ds N (Kept ks t0) Q)) (Yb G e0 σ0 w0 ds N (Kept ks t0) Q) x a w:=by
 obtain ⟨pe,f,e,σ,hq,hx,h1,h2,h3,h4,h5,h6⟩:=h
 cases pe with
 | normal=>obtain rfl:x=.normal:=hx;exact ihb Q h1 h2 h3 h4 h5 h6 hq
 | exit id=>obtain rfl:x=.exit id:=hx;exact ⟨.exit id,f,e,σ,hq,rfl,h1,h2,h3,h4,h5,h6⟩
 | goto l=>obtain rfl:x=.goto l:=hx;exact ⟨.goto l,f,e,σ,hq,rfl,h1,h2,h3,h4,h5,h6⟩
 | ret=>obtain rfl:x=.ret:=hx;exact ⟨.ret,f,e,σ,hq,rfl,h1,h2,h3,h4,h5,h6⟩
 | panic p=>obtain ⟨v,rfl,hv⟩:=hx;exact ⟨.panic p,f,e,σ,hq,⟨v,rfl,hv⟩,h1,h2,h3,h4,h5,h6⟩
theorem Zm7 {Z:Array Value→Prop} {id:Nat} (x:Exit) (a:Act) (w:World) (h:Yb G e0 σ0 w0 ds N Z (fun e f σ=>match e with | .exit i=>(match Nat.beq i id with | true=>Q .normal f σ | false=>Q (.exit i) f σ) | e=>Q e f σ) x a w) :
  Exit.inBlock id (Yb G e0 σ0 w0 ds N Z Q) x a w:=by
 obtain ⟨pe,f,e,σ,hq,hx,hrest⟩:=h
 cases pe with
 | normal=>obtain rfl:x=.normal:=hx;exact ⟨.normal,f,e,σ,hq,rfl,hrest⟩
 | exit i =>
  obtain rfl:x=.exit i:=hx;simp only [Exit.inBlock]
  by_cases hi:i=id
  ·subst hi;rw [Tf rfl];simp only [show Nat.beq i i=true from by simp] at hq;exact ⟨.normal,f,e,σ,hq,rfl,hrest⟩
  ·rw [Tc hi];have:Nat.beq i id=false:=by
    cases hb:Nat.beq i id with
    | false=>rfl
    | true=>exact absurd (Tm hb) hi
   simp only [this] at hq;exact ⟨.exit i,f,e,σ,hq,rfl,hrest⟩
 | goto l=>obtain rfl:x=.goto l:=hx;exact ⟨.goto l,f,e,σ,hq,rfl,hrest⟩
 | ret=>obtain rfl:x=.ret:=hx;exact ⟨.ret,f,e,σ,hq,rfl,hrest⟩
 | panic p=>obtain ⟨v,rfl,hv⟩:=hx;exact ⟨.panic p,f,e,σ,hq,⟨v,rfl,hv⟩,hrest⟩
theorem Zm8 {Z:Array Value→Prop} (x:Exit) (a:Act) (w:World) (h:Yb G e0 σ0 w0 ds N Z (fun e f σ=>match e with | .goto _=>False | e=>Q e f σ) x a w) :
  Exit.noGoto (Yb G e0 σ0 w0 ds N Z Q) x a w:=by
 obtain ⟨pe,f,e,σ,hq,hx,hrest⟩:=h
 cases pe with
 | normal=>obtain rfl:x=.normal:=hx;exact ⟨.normal,f,e,σ,hq,rfl,hrest⟩
 | exit i=>obtain rfl:x=.exit i:=hx;exact ⟨.exit i,f,e,σ,hq,rfl,hrest⟩
 | goto l=>exact hq.elim
 | ret=>obtain rfl:x=.ret:=hx;exact ⟨.ret,f,e,σ,hq,rfl,hrest⟩
 | panic p=>obtain ⟨v,rfl,hv⟩:=hx;exact ⟨.panic p,f,e,σ,hq,⟨v,rfl,hv⟩,hrest⟩
theorem Zg8 (hS:SRel G e σ w) {b:Nat} {st st':LoopState} {pd pd':Option Code} {r:Loop} (hb:σ.bx[b]?=some (.loop st pd r)) :
  Stepped e σ w e (σ.set b (.loop st' pd' r)) (w.putObj (e.β b) (.loop { r with state:=st',pending:=pd' }))∧SRel G e (σ.set b (.loop st' pd' r)) (w.putObj (e.β b) (.loop { r with state:=st',pending:=pd' })):=by
 have hbl:b<σ.bx.length:=(Th.1 hb).1;have hit:w.heap[e.β b]?=some (.loop { r with state:=st,pending:=pd }):=hS.box b _ hb;have hsl:(σ.set b (.loop st' pd' r)).bx.length=σ.bx.length:=by simp [St.set]
 have hoth:∀k,k≠e.β b→(w.putObj (e.β b) (.loop { r with state:=st',pending:=pd' })).heap[k]?=w.heap[k]?:=fun k hk=>World.putObj_heap_other hk
 have hst:Stepped e σ w e (σ.set b (.loop st' pd' r)) (w.putObj (e.β b) (.loop { r with state:=st',pending:=pd' })):={
  len:=by rw [hsl];exact Tq _
  beta:=fun _ _=>rfl
  X:=rfl
  pres:=fun k o u hk ho=>⟨⟨ho.1,fun j hj=>ho.2.1 j (by rw [hsl] at hj;exact hj),ho.2.2⟩,by simpa [World.cell?,hoth k (fun h=>ho.2.1 b hbl h.symm)] using hk⟩
  blocks:=fun k hk hnb _=>hoth k (fun h=>hnb b hbl h.symm)
  size:=by rw [World.putObj_size];exact Tq _
  os:=rfl
  tape:=rfl
  output:=rfl
  fresh:=fun i h1 h2=>by rw [hsl] at h2;omega
  ftok:=fun t ht p hp=>.inr ⟨t,ht,p,hp,rfl⟩
  nx:=Tq _
  toks:=fun _ _ ht=>⟨ht,rfl⟩
  own:=fun t' hn ht p hp hlt=>hoth _ (fun h=>(hS.own t' ht p hp).2.1 b hbl h.symm) }
 refine ⟨hst,?_⟩;exact {
  inj:=fun i j hi hj=>hS.inj i j (by rw [hsl] at hi;exact hi) (by rw [hsl] at hj;exact hj)
  box:=fun k y hy=>by
   by_cases hkb:k=b
   ·subst hkb;have:y=.loop st' pd' r:=by
     exact m144
    subst this;exact World.putObj_heap_same (Tp.1 hit).1
   ·exact m100
  low:=fun i hi=>hS.low i (by rw [hsl] at hi;exact hi)
  tkn:=hS.tkn
  own:=fun t' ht p hp=>by
   exact m133
  dis:=hS.dis
  xown:=hS.xown
  xlt:=fun k o hx=>by rw [World.putObj_size];exact hS.xlt k o hx
  glob:=fun k hk=>(hoth k (fun h=>by have:=hS.low b hbl;omega)).trans (hS.glob k hk)
  big:=by rw [World.putObj_size];exact hS.big }
theorem Zim:∀{ps:List Nat} {f:Frame} {args:List PV} {tm:Array Value} {vs:List Value},FRel G e σ w f tm→vs.length=args.length→(∀(i:Nat) (x:PV) (u:Value),args[i]?=some x→vs[i]?=some u→VRel G e σ w x u)→(∀p∈ps,p<tm.size) →
  FRel G e σ w (Zob f ps args) ((ps.zip vs).foldl (fun tmps (x:Nat×Value)=>tmps.setIfInBounds x.1 x.2) tm)∧((ps.zip vs).foldl (fun tmps (x:Nat×Value)=>tmps.setIfInBounds x.1 x.2) tm).size=tm.size
 | [],f,args,tm,vs,hF,hl,hr,hp=>by simp only [Zob,List.zip_nil_left,List.foldl_nil,and_true];exact hF
 | p::ps,f,[],tm,[],hF,hl,hr,hp=>⟨hF,rfl⟩
 | p::ps,f,x::args,tm,u::vs,hF,hl,hr,hp=>by
   simp only [List.zip_cons_cons,List.foldl_cons,Zob];have h1:FRel G e σ w (Zay f p x) (tm.setIfInBounds p u):=by
    have:=FRel.put (a:={ tmps:=tm,defers:=[] }) (d:=some p) hF (hr 0 x u rfl rfl) (fun i hi=>by cases hi;exact hp p (by simp));exact this
   obtain ⟨g1,g2⟩:=Zim (ps:=ps) h1 (by simpa using hl) (fun i y v hy hv=>hr (i+1) y v (by simpa using hy) (by simpa using hv)) (fun q hq=>by simpa using hp q (by simp [hq]));exact ⟨g1,by rw [g2];simp⟩
theorem Marks.push {lo:Nat×List Deferred×Bool} {l:List Deferred} (hS:SRel G e σ w) (hf:lo.2.2=false) (h:Marks lo e σ w l):Marks lo e σ (w.alloc (.deferred (some []))) (Zbv w.heap.size::l):=by
 obtain ⟨h0,rs,h1,_,h2,h3⟩:=h;have hg:=Grows.alloc w (.deferred (some []));have hold:∀r∈rs,r<w.heap.size:=fun r hr=>(Tp.1 (h3 r hr).2.1).1
 refine ⟨TO h0 hg.size,w.heap.size::rs,by rw [h1];rfl,fun h=>by (rw [hf] at h;cases h),List.nodup_cons.2 ⟨fun hm=>by have:=hold _ hm;omega,h2⟩,fun r hr=>?_⟩;rcases Tt.1 hr with rfl | hr
 ·refine ⟨h0,heap_alloc_new w _,fun i hi=>by have:=hS.lt hi;omega,fun t ht p hp=>?_⟩;obtain ⟨_,_,cs,ty,fz,hh⟩:=hS.own t ht p hp;have:=(Tp.1 hh).1;omega
 ·obtain ⟨g1,g2,g3,g4⟩:=h3 r hr;exact ⟨g1,(hg.old r (hold r hr)).trans g2,g3,g4⟩
theorem JE (hmix:G.P.follows .mixedOrders=true):∀(c:Code) {C:Cx} {ro:Option Nat} {e0:Env} {σ0:St} {w0:World} {N:Nat} {ds:Nat×List Deferred×Bool} {n:Nat},CxOK G C ro e0 σ0 w0→CxMono C.calm→(ds.2.2=true→∀g args raw σ K,¬C.iter g args raw σ K)→ZL N c=true→∀(ks:List Nat) (t0:Array Value),YB ks c=true→∀(Q:PQ) {e:Env} {σ:St} {w:World} {a:Act} {f:Frame},
  SRel G e σ w→FRel G e σ w f a.tmps→Later e0 σ0 w0 e σ w→a.tmps.size=N→Marks ds e σ w a.defers→Kept ks t0 a.tmps→W C c Q f σ→c.wpIn (fw ro) n G.P (Yb G e0 σ0 w0 ds N (Kept ks t0) Q) a w:=by
 intro c
 induction c with
 | skip=>intro C ro e0 σ0 w0 N ds n hC hM hfl _ ks t0 _ Q e σ w a f hS hF hL hN hds hZ h;exact wpIn_skip ⟨.normal,f,e,σ,h,rfl,hS,hF,hL,hN,hds,hZ⟩
 | label l=>intro C ro e0 σ0 w0 N ds n hC hM hfl _ ks t0 _ Q e σ w a f hS hF hL hN hds hZ h;exact wpIn_label ⟨.normal,f,e,σ,h,rfl,hS,hF,hL,hN,hds,hZ⟩
 | exit id=>intro C ro e0 σ0 w0 N ds n hC hM hfl _ ks t0 _ Q e σ w a f hS hF hL hN hds hZ h;exact wpIn_exit ⟨.exit id,f,e,σ,h,rfl,hS,hF,hL,hN,hds,hZ⟩
 | goto l=>intro C ro e0 σ0 w0 N ds n hC hM hfl _ ks t0 _ Q e σ w a f hS hF hL hN hds hZ h;exact wpIn_goto ⟨.goto l,f,e,σ,h,rfl,hS,hF,hL,hN,hds,hZ⟩
 | ret=>intro C ro e0 σ0 w0 N ds n hC hM hfl _ ks t0 _ Q e σ w a f hS hF hL hN hds hZ h;exact wpIn_ret ⟨.ret,f,e,σ,h,rfl,hS,hF,hL,hN,hds,hZ⟩
 | region id ops draw =>
  intro C ro e0 σ0 w0 N ds n hC hM hfl hok ks t0 hks Q e σ w a f hS hF hL hN hds hZ h
  simp only [ZL,Tl] at hok;have hd:∀o,o∈ops→∀d,o.dst=some d→d<N∧∀t v,Kept ks t0 t→Kept ks t0 (t.setIfInBounds d v):=fun o ho d hod =>
   ⟨Zaa hok.1 o (TH.1 ho) d hod,fun t v hk=>hk.set (ZaH hks o (TH.1 ho) d hod) v⟩
  cases draw with
  | false =>
   refine wpIn_region ?_;have:=Zgg (ro:=ro) (n:=n) hC hd ops.toList 0 (fun j=>by simp) hS hF hL hN hds hZ h;rw [List.range_eq_range'];simpa using this
  | true =>
   refine wpIn_region_any hmix ?_;have hdr:=hok.2;simp only [Bool.not_true,SA] at hdr;simp only [W] at h;have hL':Later e0 σ0 w0 e σ { w with drawn:=w.drawn+1 }:=hL.trans { Later.refl e σ w with };have hst:Stepped e σ w e σ { w with drawn:=w.drawn+1 }:={ Stepped.refl e σ w with }
   have hS':SRel G e σ { w with drawn:=w.drawn+1 }:={ hS with box:=fun i x hx=>(hS.box i x hx).step hst rfl }
   split at h
   ·rename_i hh
    rw [hh] at hdr;simp only at hdr;split at h
    ·rename_i hch
     rw [hch] at hdr;exact Zm1 hC.calm hM hd hdr hS' (hF.step hst) hL' hN (hds.later hst.toLater) hZ h
    ·rename_i hch
     rw [hch] at hdr;exact ZoI hC.calm hM hd hdr hS' (hF.step hst) hL' hN (hds.later hst.toLater) hZ h
   ·rename_i hl hh
    rw [hh] at hdr;exact Zm5 hC.calm hM hd hh hdr hS' (hF.step hst) hL' hN (hds.later hst.toLater) hZ h
 | seq x y ihx ihy =>
  intro C ro e0 σ0 w0 N ds n hC hM hfl hok ks t0 hks Q e σ w a f hS hF hL hN hds hZ h
  simp only [ZL,Tl] at hok;simp only [YB,Tl] at hks;simp only [W] at h;split at h
  ·exact wpIn_seq (wpIn_mono (ihx hC hM hfl hok.1 ks t0 hks.1 _ hS hF hL hN hds hZ h) (Zrj fun Q {e σ w a f}=>ihy hC hM hfl hok.2 ks t0 hks.2 Q))
  ·rename_i live I hcut
   obtain ⟨h1,h2⟩:=h;refine wpIn_seq (wpIn_mono (ihx hC hM hfl hok.1 ks t0 hks.1 _ hS hF hL hN hds hZ h1) fun x' a' w' hp=>?_);obtain ⟨pe,f',e',σ',hq,hx,g1,g2,g3,g4,g5,g6⟩:=hp
   cases pe with
   | normal =>
    obtain rfl:x'=.normal:=hx;obtain ⟨vs0,σ1,e1,hI,hS1,hdrop,hlen,hvs⟩:=Zg5 g1 hq;have hF1:FRel G e1 σ1 w' (ZgX (fun _=>.undef) live vs0) a'.tmps:=ZbC (fun i=>.undef _) fun k i x h1 h2=>hvs k (f' i) x _ (by rw [TL,h1];rfl) h2 (g2 i)
    exact ihy hC hM hfl hok.2 ks t0 hks.2 Q hS1 hF1 (g3.drop hdrop g3.len) g4 (g5.drop hdrop) g6 (h2 _ _ hI)
   | exit id=>obtain rfl:x'=.exit id:=hx;exact ⟨.exit id,f',e',σ',hq,rfl,g1,g2,g3,g4,g5,g6⟩
   | goto l=>obtain rfl:x'=.goto l:=hx;exact ⟨.goto l,f',e',σ',hq,rfl,g1,g2,g3,g4,g5,g6⟩
   | ret=>obtain rfl:x'=.ret:=hx;exact ⟨.ret,f',e',σ',hq,rfl,g1,g2,g3,g4,g5,g6⟩
   | panic p=>obtain ⟨v,rfl,hv⟩:=hx;exact ⟨.panic p,f',e',σ',hq,⟨v,rfl,hv⟩,g1,g2,g3,g4,g5,g6⟩
 | cond c x y ihx ihy =>
  intro C ro e0 σ0 w0 N ds n hC hM hfl hok ks t0 hks Q e σ w a f hS hF hL hN hds hZ h
  simp only [ZL,Tl] at hok;simp only [YB,Tl] at hks;simp only [W] at h;have hv:=ZaB hF c;split at h
  ·rename_i t hc
   rw [hc] at hv
   cases t with
   | true=>exact wpIn_cond_true hv.dbool (ihx hC hM hfl hok.1 ks t0 hks.1 _ hS hF hL hN hds hZ h)
   | false=>exact wpIn_cond_false hv.dbool (ihy hC hM hfl hok.2 ks t0 hks.2 _ hS hF hL hN hds hZ h)
  ·exact h.elim
 | block id b ih =>
  intro C ro e0 σ0 w0 N ds n hC hM hfl hok ks t0 hks Q e σ w a f hS hF hL hN hds hZ h
  exact wpIn_block (wpIn_mono (ih hC hM hfl hok ks t0 hks _ hS hF hL hN hds hZ h) Zm7)
 | scope b ih =>
  intro C ro e0 σ0 w0 N ds n hC hM hfl hok ks t0 hks Q e σ w a f hS hF hL hN hds hZ h
  exact Zm6 (wpIn_mono (ih hC hM hfl hok ks t0 hks _ hS hF hL hN hds hZ h) Zm8)
 | loop b ih =>
  intro C ro e0 σ0 w0 N ds n hC hM hfl hok ks t0 hks Q e σ w a f hS hF hL hN hds hZ h
  simp only [W] at h;generalize C.loop (Xp b)=A at h;split at h
  ·rename_i m0 _
   generalize m0+1=m at h
   let J:Nat→Frame→St→Act→World→Prop:=fun k f1 σ1 a1 w1=>∃e1,Zly (fun Q f σ=>W C b Q f σ) Q k f1 σ1∧SRel G e1 σ1 w1∧FRel G e1 σ1 w1 f1 a1.tmps∧Later e σ w e1 σ1 w1∧a1.tmps.size=N∧Marks ds e1 σ1 w1 a1.defers∧Kept ks a.tmps a1.tmps
   let In:Act→World→Prop:=fun a1 w1=>∃k f1 σ1,J k f1 σ1 a1 w1
   let Mu:Act→World→Nat→Prop:=fun a1 w1 m=>∃f1 σ1,J m f1 σ1 a1 w1
   have least:∀a1 w1,In a1 w1→∃m,Mu a1 w1 m∧∀m',Mu a1 w1 m'→m≤m':=fun a1 w1 ⟨k,f1,σ1,hJ⟩=>by
    have:∀m,Mu a1 w1 m→∃m,Mu a1 w1 m∧∀m',Mu a1 w1 m'→m≤m':=by
     intro m
     induction m using Nat.strongRecOn with
     | _ m ihm =>
      intro hm
      exact m135
    exact this _ ⟨f1,σ1,hJ⟩
   classical
   let mu:Act→World→Nat:=fun a1 w1=>if hh:∃m,Mu a1 w1 m∧∀m',Mu a1 w1 m'→m≤m' then Classical.choose hh else 0
   have hmu:∀a1 w1,In a1 w1→Mu a1 w1 (mu a1 w1)∧∀m',Mu a1 w1 m'→mu a1 w1≤m':=fun a1 w1 hIn=>by
    have hh:=least a1 w1 hIn;simp only [mu,dif_pos hh];exact Classical.choose_spec hh
   refine wpIn_loop In mu ⟨m,f,σ,e,h,hS,hF,Later.refl e σ w,hN,hds,fun i _=>rfl⟩ ?_;intro a1 w1 hIn
   obtain ⟨⟨f2,σ2,⟨e2,hU,hS2,hF2,hL2,hN2,hds2,hK2⟩⟩,_⟩:=hmu a1 w1 hIn;generalize hmm:mu a1 w1=mm at hU
   cases mm with
   | zero=>exact hU.elim
   | succ mm =>
    simp only [Zly] at hU;have hb:=ih (n:=n) (hC.later hL) hM hfl hok ks a.tmps hks _ hS2 hF2 hL2 hN2 hds2 hK2 hU;refine wpIn_mono hb fun x a' w' hp=>?_
    obtain ⟨pe,f',e',σ',hq,hx,h1,h2,h3,h4,h5,h6⟩:=hp;have hk6:Kept ks t0 a'.tmps:=fun i hi=>(h6 i hi).trans (hZ i hi)
    cases pe with
    | normal =>
     obtain rfl:x=.normal:=hx;have hJ:J mm f' σ' a' w':=⟨e',hq,h1,h2,h3,h4,h5,h6⟩
     have hIn':In a' w':=⟨mm,f',σ',hJ⟩
     refine ⟨hIn',?_⟩;have:=(hmu a' w' hIn').2 _ ⟨f',σ',hJ⟩;exact Nat.lt_succ_of_le this
    | exit id=>obtain rfl:x=.exit id:=hx;exact ⟨.exit id,f',e',σ',hq,rfl,h1,h2,hL.trans h3,h4,h5,hk6⟩
    | goto l=>obtain rfl:x=.goto l:=hx;exact ⟨.goto l,f',e',σ',hq,rfl,h1,h2,hL.trans h3,h4,h5,hk6⟩
    | ret=>obtain rfl:x=.ret:=hx;exact ⟨.ret,f',e',σ',hq,rfl,h1,h2,hL.trans h3,h4,h5,hk6⟩
    | panic p=>obtain ⟨v,rfl,hv⟩:=hx;exact ⟨.panic p,f',e',σ',hq,⟨v,rfl,hv⟩,h1,h2,hL.trans h3,h4,h5,hk6⟩
  have key:∀A:LoopAnn,YB A.keep b=true→(Zc9 (C.ag (Xp b)) σ.bx.length (A.live.map f) σ fun vs σ0=>A.I vs σ0 ∧
    ∀vs σ1,A.I vs σ1→W C b (fun e f' σ'=>match e with
     | .normal=>Zc9 (C.ag (Xp b)) σ1.bx.length (A.live.map f') σ' fun vs' σ''=>A.I vs' σ''∧A.μ vs' σ''<A.μ vs σ1
     | e=>Q e f' σ') (ZgX (Zj6 f A.keep) A.live vs) σ1)→(Code.loop b).wpIn (fw ro) n G.P (Yb G e0 σ0 w0 ds N (Kept ks t0) Q) a w:=fun A hkeep h=>by
   obtain ⟨vs0,σ1,e1,⟨hI,hround⟩,hS1,hdrop,hlen,hvs⟩:=Zeq hS h;have hkeepRel:∀{e':Env} {σ':St} {w':World} {tm:Array Value},Later e σ w e' σ' w'→Kept (ks++A.keep) a.tmps tm→∀i,i∈A.keep→VRel G e' σ' w' (clean (f i)) (tm.getD i Go.undef):=fun {e' σ' w' tm} hl hk i hi=>by
    rw [hk i (TT.2 (.inr hi))];exact VRel.clean hl.len hl.beta hl.pres (hF i) (hF i).bnd
   have hlive:∀(f':Frame) (tm:Array Value) (vs':List PV) {e':Env} {σ':St} {w':World} {e'':Env} {σ'':St},FRel G e' σ' w' f' tm→(∀(i:Nat) (x y:PV) (u:Value),(A.live.map f')[i]?=some x→vs'[i]?=some y→VRel G e' σ' w' x u→VRel G e'' σ'' w' y u) →
     ∀(k i:Nat) (x:PV),A.live[k]?=some i→vs'[k]?=some x→VRel G e'' σ'' w' x (tm.getD i Go.undef):=fun f' tm vs' {e' σ' w' e'' σ''} hf hv k i x h1 h2 =>
    hv k (f' i) x _ (by rw [TL,h1];rfl) h2 (hf i)
   let J:List PV→St→Act→World→Prop:=fun vs σ1 a1 w1=>∃e1,A.I vs σ1∧SRel G e1 σ1 w1∧FRel G e1 σ1 w1 (ZgX (Zj6 f A.keep) A.live vs) a1.tmps∧Later e σ w e1 σ1 w1∧a1.tmps.size=N∧Marks ds e1 σ1 w1 a1.defers∧Kept (ks++A.keep) a.tmps a1.tmps
   let In:Act→World→Prop:=fun a1 w1=>∃vs σ1,J vs σ1 a1 w1
   let Mu:Act→World→Nat→Prop:=fun a1 w1 m=>∃vs σ1,J vs σ1 a1 w1∧A.μ vs σ1=m
   have least:∀a1 w1,In a1 w1→∃m,Mu a1 w1 m∧∀m',Mu a1 w1 m'→m≤m':=fun a1 w1 ⟨vs,σ1,hJ⟩=>by
    have:∀m,Mu a1 w1 m→∃m,Mu a1 w1 m∧∀m',Mu a1 w1 m'→m≤m':=by
     intro m
     induction m using Nat.strongRecOn with
     | _ m ihm =>
      intro hm
      exact m135
    exact this _ ⟨vs,σ1,hJ,rfl⟩
   classical
   let mu:Act→World→Nat:=fun a1 w1=>if hh:∃m,Mu a1 w1 m∧∀m',Mu a1 w1 m'→m≤m' then Classical.choose hh else 0
   have hmu:∀a1 w1,In a1 w1→Mu a1 w1 (mu a1 w1)∧∀m',Mu a1 w1 m'→mu a1 w1≤m':=fun a1 w1 hIn=>by
    have hh:=least a1 w1 hIn;simp only [mu,dif_pos hh];exact Classical.choose_spec hh
   have hL1:Later e σ w e1 σ1 w:=(Later.refl e σ w).drop hdrop (Tq _);have hKept0:Kept (ks++A.keep) a.tmps a.tmps:=fun i _=>rfl
   refine wpIn_loop In mu ⟨vs0,σ1,e1,hI,hS1,?_,hL1,hN,hds.drop hdrop,hKept0⟩ ?_
   ·exact ZbC (Zew (hkeepRel hL1 hKept0)) (hlive f a.tmps vs0 hF hvs)
   ·intro a1 w1 hIn
    obtain ⟨⟨vs,σ2,⟨e2,hI2,hS2,hF2,hL2,hN2,hds2,hK2⟩,hm⟩,_⟩:=hmu a1 w1 hIn;have hb:=ih (n:=n) (hC.later hL) hM hfl hok (ks++A.keep) a.tmps (ZfG hks hkeep) _ hS2 hF2 hL2 hN2 hds2 hK2 (hround vs σ2 hI2);refine wpIn_mono hb fun x a' w' hp=>?_
    obtain ⟨pe,f',e',σ',hq,hx,h1,h2,h3,h4,h5,h6⟩:=hp;have hk6:Kept ks t0 a'.tmps:=fun i hi=>(h6 i (TT.2 (.inl hi))).trans (hZ i hi)
    cases pe with
    | normal =>
     obtain rfl:x=.normal:=hx;obtain ⟨vs',σ3,e3,⟨hI3,hlt⟩,hS3,hdrop3,hlen3,hvs3⟩:=Zeq h1 hq;have hL3:Later e σ w e3 σ3 w':=h3.drop hdrop3 hL2.len;have hJ:J vs' σ3 a' w':=⟨e3,hI3,hS3,ZbC (Zew (hkeepRel hL3 h6)) (hlive f' a'.tmps vs' h2 hvs3),hL3,h4,h5.drop hdrop3,h6⟩
     have hIn':In a' w':=⟨vs',σ3,hJ⟩
     refine ⟨hIn',?_⟩;have:=(hmu a' w' hIn').2 _ ⟨vs',σ3,hJ,rfl⟩;rw [← hm];exact Nat.lt_of_le_of_lt this hlt
    | exit id=>obtain rfl:x=.exit id:=hx;exact ⟨.exit id,f',e',σ',hq,rfl,h1,h2,hL.trans h3,h4,h5,hk6⟩
    | goto l=>obtain rfl:x=.goto l:=hx;exact ⟨.goto l,f',e',σ',hq,rfl,h1,h2,hL.trans h3,h4,h5,hk6⟩
    | ret=>obtain rfl:x=.ret:=hx;exact ⟨.ret,f',e',σ',hq,rfl,h1,h2,hL.trans h3,h4,h5,hk6⟩
    | panic p=>obtain ⟨v,rfl,hv⟩:=hx;exact ⟨.panic p,f',e',σ',hq,⟨v,rfl,hv⟩,h1,h2,hL.trans h3,h4,h5,hk6⟩
  split at h
  ·rename_i hkeep
   split at h
   ·exact key _ hkeep h
   ·exact key (A.tied f) hkeep h
  ·exact h.elim
 | rangeFunc g ps asg body iha ihb =>
  intro C ro e0 σ0 w0 N ds n hC hM hfl hok ks t0 hks Q e σ w a f hS hF hL hN hds hZ h
  simp only [ZL,Tl] at hok;simp only [W] at h;split at h
  ·rename_i gid first caps hg
   have hv:=ZaB hF g;rw [hg] at hv;generalize hgv:a.eval g=gv at hv
   cases hv with
   | func _ _ _ va vc ha hc h1 h2 =>
   have hro:ro=none:=by
    rcases hC.out with h0 | h0
    ·exact h0
    ·exact absurd (h 0 default) (h0 _ _ _ _ _)
   subst hro;refine wpIn_rangeFunc fun fn _=>?_
   have hMi:CxMono C.inner.calm:=⟨hM.one,hM.call,hM.raw,rfl⟩
   have hdf:ds.2.2=false:=by
    cases hd2:ds.2.2 with
    | false=>rfl
    | true=>exact absurd (h 0 default) (hfl hd2 _ _ _ _ _)
   let rec0:Loop:={ state:=.ready,pending:=none,fn,tmps:=a.tmps,params:=ps,assign:=asg,body,defers:=w.heap.size }
   let wA:=w.alloc (.deferred (some []))
   have hgA:Grows w wA:=Grows.alloc w _;have hSA:SRel G e σ wA:=hS.grow hgA;have hstA:Stepped e σ w e σ wA:=hgA.stepped e σ;have hdsA:Marks ds e σ wA (Zbv w.heap.size::a.defers):=hds.push hS hdf;have hsz:wA.heap.size=w.heap.size+1:=by simp [wA]
   obtain ⟨hst1,hS1,_⟩:=Zeh hSA (.loop .ready none rec0) (.loop rec0) (fun _ _ _ _ hh=>hh);have hβ1:(e.more σ.bx.length wA.heap.size).β σ.bx.length=w.heap.size+1:=by simp [Env.more,hsz]
   have hit:=h (w.heap.size+1) rec0;obtain ⟨hent,hcall⟩:=hC.iter _ _ _ _ _ hit;have hargs1:ArgsRel G (e.more σ.bx.length wA.heap.size) (σ.new (.loop .ready none rec0)) (wA.alloc (.loop rec0)) (first++.raw (.func (.yield (w.heap.size+1)) #[] #[])::caps) (va++#[.func (.yield (w.heap.size+1)) #[] #[]]++vc):=by
    rw [List.append_cons];refine (ArgsRel.append (ArgsRel.append ⟨ha,fun i x u hx hu=>((h1 i x u hx hu).step hstA).step hst1⟩ ⟨rfl,fun i x u hx hu=>?_⟩) ⟨hc,fun i x u hx hu=>((h2 i x u hx hu).step hstA).step hst1⟩)
    match i with
    | 0=>cases hx;cases hu;exact .raw _
    | n+1=>cases hx
   have hL1:Later e σ w (e.more σ.bx.length wA.heap.size) (σ.new (.loop .ready none rec0)) (wA.alloc (.loop rec0)):=hstA.toLater.trans hst1.toLater;have hlen1:σ.bx.length<(σ.new (.loop .ready none rec0)).bx.length:=by rw [ZAn];omega
   refine ⟨w.heap.size+1,[Zbv w.heap.size],wA.alloc (.loop rec0),{ target:=.fn (.func gid) vc,args:=va++#[.func (.yield (w.heap.size+1)) #[] #[]] },wA.alloc (.loop rec0),gid,va++#[.func (.yield (w.heap.size+1)) #[] #[]]++vc,wA.alloc (.loop rec0),
    run_enterLoop_outer fn a.tmps ps asg body,?_,fun _ _=>trivial,?_,fun hh=>by simp [fw] at hh,?_⟩
   ·show (Deferred.ofValue (a.eval g) _).run _ _=_;rw [hgv];simp [Deferred.ofValue,rangeCall,Act.eval]
   ·simp only [invoke];exact hent _ _
   ·refine (hcall (n - 1) _ _ _ hS1 hargs1 ?_).mono fun en w3 hA=>?_
    ·
     intro v args σ' K hr
     obtain ⟨rfl,hbx,hal,hWA⟩:=hr;refine ⟨w.heap.size+1,rfl,fun ro n e' w' vs hS' hL' ha'=>?_⟩;have hi':σ.bx.length<σ'.bx.length:=(Th.1 hbx).1;have hβ':e'.β σ.bx.length=w.heap.size+1:=(hL'.beta _ hlen1).trans hβ1;have hheap:w'.heap[w.heap.size+1]?=some (.loop rec0):=by have:=hS'.box _ _ hbx;rw [hβ'] at this;exact this
     have hvs:vs.size=rec0.params.size:=by rw [ha'.1,hal];simp [rec0]
     refine ⟨_,_,_,_,run_yield hheap hvs,?_⟩;have hF0:FRel G e' σ' w' (Jk f) a.tmps:=hF.clean (hL1.trans hL');have hps:∀p∈ps.toList,p<a.tmps.size:=fun p hp=>by
      have:=Tv.1 hok.1.1 p hp;rw [hN];exact Ta this
     have hfold:(rec0.params.zip vs).foldl (fun tmps (x:Nat×Value)=>tmps.setIfInBounds x.1 x.2) rec0.tmps=(ps.toList.zip vs.toList).foldl (fun tmps (x:Nat×Value)=>tmps.setIfInBounds x.1 x.2) a.tmps:=by
      rw [← Array.foldl_toList,Array.toList_zip]
     obtain ⟨hF1,hsz1⟩:=Zim (ps:=ps.toList) (args:=args) (vs:=vs.toList) hF0 (by simpa using ha'.1) (fun i x u hx hu=>ha'.2 i x u hx (by simpa using hu)) hps;refine roundIn_of_wpIn trivial ?_;have hCr:CxOK G C.inner (some (w.heap.size+1)) e' σ' w':=⟨hC.tab,hC.call,hC.raw.later (hL.trans (hL1.trans hL')),fun _ _ _ _ _ hh=>hh.elim,.inr fun _ _ _ _ _ hh=>hh⟩
     have hwa:=iha (n:=n) (ds:=(0,[],false)) hCr hMi (fun h=>by cases h) hok.1.2 [] #[] (Yx _) _ (a:={ tmps:=(rec0.params.zip vs).foldl (fun tmps (x:Nat×Value)=>tmps.setIfInBounds x.1 x.2) rec0.tmps,defers:=[] }) hS' (by rw [hfold];exact hF1) (Later.refl _ _ _) (by rw [hfold];exact hsz1.trans hN) (Marks.nil _ _ (T3 _)) (fun i hi=>by cases hi) hWA;refine wpIn_mono hwa fun x1 a1 w1 hp=>?_
     obtain ⟨pe,f1,e1,σ1,hq,hx,k1,k2,k3,k4,k5,k6⟩:=hp
     cases pe with
     | normal =>
      obtain rfl:x1=.normal:=hx;obtain ⟨hb1,hWB⟩:=hq;obtain ⟨hst2,hS2⟩:=Zg8 (st':=.busy) (pd':=none) k1 hb1;have hβ1':e1.β σ.bx.length=w.heap.size+1:=(k3.beta _ hi').trans hβ';have hheap1:w1.heap[w.heap.size+1]?=some (.loop rec0):=by have:=k1.box _ _ hb1;rw [hβ1'] at this;exact this
      refine ⟨_,run_beginRound hheap1 rfl,?_⟩;rw [hβ1'] at hst2 hS2;have hwb:=ihb (n:=n) (ds:=(0,[],false)) (hCr.later (k3.trans hst2.toLater)) hMi (fun h=>by cases h) hok.2 [] #[] (Yx _) _ hS2 (k2.step hst2) (Later.refl _ _ _) k4 (k5.later hst2.toLater) (fun i hi=>by cases hi) hWB;refine wpIn_mono hwb fun x2 a2 w2 hp2=>?_
      obtain ⟨pe2,f2,e2,σ2,hq2,hx2,m1,m2,m3,m4,m5,m6⟩:=hp2;have hl2:σ.bx.length<(σ1.set σ.bx.length (.loop .busy none rec0)).bx.length:=by simp only [St.set,Su];exact (Th.1 hb1).1
      have hβ2:e2.β σ.bx.length=w.heap.size+1:=(m3.beta _ hl2).trans hβ1';have hL2:Later e' σ' w' e2 σ2 w2:=(k3.trans hst2.toLater).trans m3;have fin:∀(jump:Option Code),Zwm σ.bx.length rec0 (if jump.isNone then .ready else .done) jump jump.isNone σ2 K→∃v w'',(Instr.endRound (w.heap.size+1) jump).run G.P w2=.ok v w''∧YH G e' σ' w' K (.returned v) w'':=fun jump hq=>by
       obtain ⟨hbx2,hK⟩:=hq;have hheap2:w2.heap[w.heap.size+1]?=some (.loop { rec0 with state:=.busy,pending:=none }):=by have:=m1.box _ _ hbx2;rw [hβ2] at this;exact this
       have hst5:=Zg8 (st':=if jump.isNone then .ready else .done) (pd':=jump) m1 hbx2;rw [hβ2] at hst5;exact ⟨_,_,run_endRound jump hheap2,_,_,e2,hK,⟨_,rfl,.mkbool⟩,hst5.2,hL2.trans hst5.1.toLater⟩
      cases pe2 with
      | normal=>obtain rfl:x2=.normal:=hx2;exact fin none hq2
      | ret=>obtain rfl:x2=.ret:=hx2;exact fin (some .ret) hq2
      | exit id=>obtain rfl:x2=.exit id:=hx2;exact fin (some (.exit id)) hq2
      | goto t=>obtain rfl:x2=.goto t:=hx2;exact fin (some (.goto t)) hq2
      | panic p=>exact hq2.elim
     | exit id=>exact hq.elim
     | goto t=>exact hq.elim
     | ret=>exact hq.elim
     | panic p=>exact hq.elim
    ·
     obtain ⟨pe,σ3,e3,hk,hE,hS3,hL3⟩:=hA;have hLs:=hL1.trans hL3;have hds3:Marks ds e3 σ3 w3 (Zbv w.heap.size::a.defers):=(hdsA.later hst1.toLater).later hL3;have hβ3:e3.β σ.bx.length=w.heap.size+1:=(hL3.beta _ hlen1).trans hβ1
     cases pe with
     | panic p =>
      obtain ⟨u,rfl,hr⟩:=hE;exact ⟨.panic p,_,e3,σ3,hk,⟨u,rfl,hr⟩,hS3,fun i=>.undef _,hL.trans hLs,hN,hds3,hZ⟩
     | ret p =>
      obtain ⟨u,rfl,hr⟩:=hE;unfold Zlx at hk
      simp only at hk;split at hk
      ·rename_i st pd r hbx
       have hheap:w3.heap[w.heap.size+1]?=some (.loop { r with state:=st,pending:=pd }):=by have:=hS3.box _ _ hbx;rw [hβ3] at this;exact this
       have hst4:=Zg8 (st':=.exhausted) (pd':=pd) hS3 hbx;rw [hβ3] at hst4;obtain ⟨hst4,hS4⟩:=hst4;have hpost:∀(pe:PExit) (x:Exit),Q pe (Jk f) (σ3.set σ.bx.length (.loop .exhausted pd r))→Zwn G e3 (σ3.set σ.bx.length (.loop .exhausted pd r)) (w3.putObj (w.heap.size+1) (.loop { r with state:=.exhausted,pending:=pd })) pe x →
         Yb G e0 σ0 w0 ds N (Kept ks t0) Q x { a with defers:=[Zbv w.heap.size]++a.defers } (w3.putObj (w.heap.size+1) (.loop { r with state:=.exhausted,pending:=pd })):=fun pe x hq hx =>
        ⟨pe,_,e3,_,hq,hx,hS4,hF.clean (hLs.trans hst4.toLater),hL.trans (hLs.trans hst4.toLater),hN,hds3.later hst4.toLater,hZ⟩
       have hend:∀(hb:st≠.busy),(Instr.endLoop (w.heap.size+1)).run G.P w3=.ok pd (w3.putObj (w.heap.size+1) (.loop { r with state:=.exhausted,pending:=pd })):=fun hb=>run_endLoop hheap hb
       have go:st≠.busy→Zoc σ.bx.length r (Jk f) Q σ3 pd→rangePost (fw none) n G.P (w.heap.size+1) (Yb G e0 σ0 w0 ds N (Kept ks t0) Q) { a with defers:=[Zbv w.heap.size]++a.defers } (.returned u) w3:=fun hb hq=>by
        refine ⟨pd,_,hend hb,?_⟩;unfold Zoc at hq
        split at hq
        ·exact hpost .normal .normal hq rfl
        ·exact wpIn_ret (hpost .ret .ret hq rfl)
        ·rename_i id;exact wpIn_exit (hpost (.exit id) (.exit id) hq rfl)
        ·rename_i t;exact wpIn_goto (hpost (.goto t) (.goto t) hq rfl)
        ·exact hq.elim
       cases st with
       | busy=>exact hk.elim
       | ready=>exact go (by simp) hk
       | done=>exact go (by simp) hk
       | exhausted=>exact go (by simp) hk
      ·exact hk.elim
  ·exact h.elim
 | _=>intro C ro e0 σ0 w0 N ds n hC hM hfl _ ks t0 _ Q e σ w a f hS hF hL hN hds hZ h;exact h.elim
end
end Go.PM
end
