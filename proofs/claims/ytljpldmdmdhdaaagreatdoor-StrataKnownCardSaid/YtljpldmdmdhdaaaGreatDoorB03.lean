/- A part of the proof: plain logic, contracts and laws over the given program. -/
import Derived.Scope
import Derived.RangeFuncRecord
import Derived.RangeFuncCalls
import Derived.Test.YtljpldmdmdhdaaaGreatDoorB02
set_option linter.unusedVariables false
set_option linter.unusedSimpArgs false
set_option linter.all false
set_option maxRecDepth 100000
set_option maxHeartbeats 16000000
section
namespace Go.PM
section
variable {G:GE} {e e':Env} {σ σ':St} {w w':World}
inductive NV (n:Nat) (as:List (Option Nat)):PV->PV->Prop
 | sl (t e:Nat) (rows:List (List D)) (j:Nat) (h:as[j]?=some (some t)):NV n as (.sl t e rows) (.sl j e rows)
 | nils (e j:Nat) (h:as[j]?=some none):NV n as (.nils e) (.sl j e [])
 | cl (v:PV) (h:bnd n v=true):NV n as v (clean v)
 | un (v:PV) (h:bnd n v=false):NV n as v .undef
 | clN (v:PV) (h:bnd n v=true):NV n as v (cleanN v)
structure NInv (S tk:List Nat) (as:List (Option Nat)):Prop where
 sub:∀t,t∈tk->t∈S
 mem:∀(i t:Nat),as[i]?=some (some t)->t∈S/\t∉tk
 inj:∀(i j t:Nat),as[i]?=some (some t)->as[j]?=some (some t)->i=j
theorem NV.ext {n:Nat} {as as':List (Option Nat)} {x y:PV} (h:NV n as x y) (hx:∃m,as'=as++m):NV n as' x y:=by
 obtain ⟨m,rfl⟩:=hx;have:∀(j:Nat) (q:Option Nat),as[j]?=some q->(as++m)[j]?=some q:=fun j q hq=>by
  grind
 cases h with
 | sl t e rows j h=>exact .sl t e rows j (this _ _ h)
 | nils e j h=>exact .nils e j (this _ _ h)
 | cl _ h=>exact .cl _ h
 | un _ h=>exact .un _ h
 | clN _ h=>exact .clN _ h
theorem X3 {t x:Nat}:∀{l:List Nat},x∈Jk t l->x∈l/\x≠t
 | [],h=>by trivial
 | y::l,h=>by
  simp only [Jk] at h;split at h
  ·exact ⟨TF _ (X3 h).1,(X3 h).2⟩
  rename_i hb
  rcases Tr.1 h with rfl | h
  ·exact ⟨sM,fun e=>by simp_all⟩
  exact ⟨TF _ (X3 h).1,(X3 h).2⟩
theorem VX {as as' as'':List (Option Nat)} (h:∃m,as'=as++m) (h':∃m,as''=as'++m):∃m,as''=as++m:=by
 grind
theorem NInv.add {S tk:List Nat} {as:List (Option Nat)} (h:NInv S tk as) {t:Nat} (ht:t∈tk):NInv S (Jk t tk) (as++[some t]):=by
 have key:∀(i s:Nat),(as++[some t])[i]?=some (some s)->(as[i]?=some (some s))\/(i=as.length/\s=t):=fun i s hi=>by
  grind
 refine ⟨fun x hx=>h.sub x (X3 hx).1,fun i s hi=>?_,fun i j s hi hj=>?_⟩
 ·rcases key i s hi with h1 | ⟨_,rfl⟩
  ·exact ⟨(h.mem i s h1).1,fun hm=>(h.mem i s h1).2 (X3 hm).1⟩
  exact ⟨h.sub _ ht,fun hm=>(X3 hm).2 rfl⟩
 rcases key i s hi with h1 | ⟨h1,rfl⟩ <;> rcases key j s hj with h2 | ⟨h2,h3⟩
 ·exact h.inj i j s h1 h2
 ·subst h3;exact absurd ht (h.mem i _ h1).2
 ·exact absurd ht (h.mem j _ h2).2
 omega
theorem NInv.nil {S tk:List Nat} {as:List (Option Nat)} (h:NInv S tk as):NInv S tk (as++[none]):=by
 have key:∀(i s:Nat),(as++[none])[i]?=some (some s)->(as[i]?=some (some s)):=fun i s hi=>by
  grind
 exact ⟨h.sub,fun i s hi=>h.mem i s (key i s hi),fun i j s hi hj=>h.inj i j s (key i s hi) (key j s hj)⟩
def ZwQ {n:Nat} {S tk:List Nat} {as:List (Option Nat)} (hI:NInv S tk as) {v:PV} {K:PV->List Nat->Nat->Prop} (h:ZwK n tk as.length v K) :
  ∃v' tk' as',K v' tk' as'.length/\(∃m,as'=as++m)/\NInv S tk' as'/\NV n as' v v':=by
 have gen:∀v,(match bnd n v with | true=>UU (clean v) fun v=>K v tk as.length | false=>K .undef tk as.length:Prop)->∃v' tk' as',K v' tk' as'.length/\(∃m,as'=as++m)/\NInv S tk' as'/\NV n as' v v':=fun v h=>by
  split at h
  ·rename_i hb;rw [Z5] at h;exact ⟨_,tk,as,h,⟨[],sM⟩,hI,.cl v hb⟩
  rename_i hb;exact ⟨_,tk,as,h,⟨[],sM⟩,hI,.un v hb⟩
 cases v with
 | sl t el rows =>
  simp only [ZwK] at h;exact mq89
 | nils el=>exact ⟨_,tk,as++[none],by simpa [ZwK] using h,⟨[none],rfl⟩,hI.nil,.nils el _ sM⟩
 | _=>exact gen _ h
theorem Zc9 {n:Nat} {S:List Nat}:∀{vs:List PV} {tk:List Nat} {as:List (Option Nat)} (_:NInv S tk as) {K:List PV->List Nat->Nat->Prop},ZvS n vs tk as.length K ->
  ∃vs' tk' as',K vs' tk' as'.length/\(∃m,as'=as++m)/\NInv S tk' as'/\vs'.length=vs.length/\∀(i:Nat) (x y:PV),vs[i]?=some x->vs'[i]?=some y->NV n as' x y
 | [],tk,as,hI,K,h=>⟨[],tk,as,h,⟨[],sM⟩,hI,rfl,fun i x y hx=>sM⟩
 | v::vs,tk,as,hI,K,h=>by
  obtain ⟨v',tk1,as1,h1,du,mb,hv⟩:=ZwQ hI h;obtain ⟨vs',tk2,as2,h2,bo,f8,hl,bh⟩:=Zc9 mb h1;exact mq60
def ZlI {n:Nat} {S tk:List Nat} {as:List (Option Nat)} (hI:NInv S tk as) {v:PV} {K:PV->List Nat->Nat->Prop} (h:Zgn n tk as.length v K) :
  ∃v' tk' as',K v' tk' as'.length/\(∃m,as'=as++m)/\NInv S tk' as'/\NV n as' v v':=by
 have gen:∀v,(match bnd n v with | true=>UU (cleanN v) fun v=>K v tk as.length | false=>K .undef tk as.length:Prop)->∃v' tk' as',K v' tk' as'.length/\(∃m,as'=as++m)/\NInv S tk' as'/\NV n as' v v':=fun v h=>by
  split at h
  ·rename_i hb;rw [Z5] at h;exact ⟨_,tk,as,h,⟨[],sM⟩,hI,.clN v hb⟩
  rename_i hb;exact ⟨_,tk,as,h,⟨[],sM⟩,hI,.un v hb⟩
 cases v with
 | sl t el rows =>
  simp only [Zgn] at h;exact mq89
 | nils el=>exact ⟨_,tk,as++[none],by simpa [Zgn] using h,⟨[none],rfl⟩,hI.nil,.nils el _ sM⟩
 | _=>exact gen _ h
theorem Zgx {n:Nat} {S:List Nat}:∀{vs:List PV} {tk:List Nat} {as:List (Option Nat)} (_:NInv S tk as) {K:List PV->List Nat->Nat->Prop},Znl n vs tk as.length K ->
  ∃vs' tk' as',K vs' tk' as'.length/\(∃m,as'=as++m)/\NInv S tk' as'/\vs'.length=vs.length/\∀(i:Nat) (x y:PV),vs[i]?=some x->vs'[i]?=some y->NV n as' x y
 | [],tk,as,hI,K,h=>⟨[],tk,as,h,⟨[],sM⟩,hI,rfl,fun i x y hx=>sM⟩
 | v::vs,tk,as,hI,K,h=>by
  obtain ⟨v',tk1,as1,h1,du,mb,hv⟩:=ZlI hI h;obtain ⟨vs',tk2,as2,h2,bo,f8,hl,bh⟩:=Zgx mb h1;exact mq60
inductive NB (n:Nat) (as:List (Option Nat)):Box->Box->Prop
 | cells (t:TypeId) (cs cs':List PV) (hl:cs'.length=cs.length) (h:∀(i:Nat) (x y:PV),cs[i]?=some x->cs'[i]?=some y->NV n as x y):NB n as (.cells t cs) (.cells t cs')
 | iter (s:List UInt8) (p:Nat):NB n as (.iter s p) (.iter s p)
 | loop (st:LoopState) (pd:Option Code) (r:Loop):NB n as (.loop st pd r) (.loop st pd r)
 | dmap (m:List (List UInt8×MV)):NB n as (.dmap m) (.dmap m)
 | smap (el:Nat) (m:List (List UInt8×List (List D))):NB n as (.smap el m none) (.smap el m none)
 | map (cs cs':List PV) (bn:List Nat) (ck:Nat) (hl:cs'.length=cs.length) (h:∀(i:Nat) (x y:PV),cs[i]?=some x->cs'[i]?=some y->NV n as x y):NB n as (.map cs bn ck) (.map cs' bn ck)
def NB.ext {n:Nat} {as as':List (Option Nat)} {x y:Box} (h:NB n as x y) (hx:∃m,as'=as++m):NB n as' x y:=by
 cases h with
 | cells t cs cs' hl h=>exact .cells t cs cs' hl fun i x y h1 h2=>(h i x y h1 h2).ext hx
 | iter s p=>exact .iter s p
 | loop st pd r=>exact .loop st pd r
 | dmap m=>exact .dmap m
 | smap el m=>exact .smap el m
 | map cs cs' bn ck hl h=>exact .map cs cs' bn ck hl fun i x y h1 h2=>(h i x y h1 h2).ext hx
theorem Ww {n:Nat} {S:List Nat}:∀{m:Nat} {bs:List Box} {tk:List Nat} {as:List (Option Nat)} (_:NInv S tk as) {K:List Box->List Nat->Nat->Prop},Zfd n m bs tk as.length K ->
  ∃bs' tk' as',K bs' tk' as'.length/\(∃m,as'=as++m)/\NInv S tk' as'/\bs'.length=m/\m<=bs.length/\∀(i:Nat) (x y:Box),bs[i]?=some x->bs'[i]?=some y->NB n as' x y
 | 0,bs,tk,as,hI,K,h=>⟨[],tk,as,by assumption,⟨[],sM⟩,hI,rfl,T6 _,fun i x y _ hy=>by simp at hy⟩
 | m+1,[],tk,as,hI,K,h=>h.elim
 | m+1,.cells t cs::bs,tk,as,hI,K,h=>by
  obtain ⟨cs',tk1,as1,h1,du,mb,cf,hv⟩:=Zc9 hI h;obtain ⟨bs',tk2,as2,h2,bo,f8,hl,hm,bh⟩:=Ww mb h1;refine ⟨.cells t cs'::bs',tk2,as2,h2,VX du bo,f8,by simp [hl],by grind,fun i x y hx hy=>?_⟩
  cases i with
  | zero=>simp at hx hy;subst hx;subst hy;exact .cells t cs cs' cf fun i x y h1 h2=>(hv i x y h1 h2).ext bo
  | succ i=>grind
 | m+1,.iter s p::bs,tk,as,hI,K,h=>by
  obtain ⟨bs',tk2,as2,h2,bo,f8,hl,hm,bh⟩:=Ww hI (K:=fun l tk k=>K (.iter s p::l) tk k) h;refine ⟨.iter s p::bs',tk2,as2,h2,bo,f8,by simp [hl],by grind,fun i x y hx hy=>?_⟩
  cases i with
  | zero=>simp at hx hy;subst hx;subst hy;exact .iter s p
  | succ i=>grind
 | m+1,.loop st pd r::bs,tk,as,hI,K,h=>by
  obtain ⟨bs',tk2,as2,h2,bo,f8,hl,hm,bh⟩:=Ww hI (K:=fun l tk k=>K (.loop st pd r::l) tk k) h;refine ⟨.loop st pd r::bs',tk2,as2,h2,bo,f8,by simp [hl],by grind,fun i x y hx hy=>?_⟩
  cases i with
  | zero=>simp at hx hy;subst hx;subst hy;exact .loop st pd r
  | succ i=>grind
 | m+1,.dmap c::bs,tk,as,hI,K,h=>by
  obtain ⟨bs',tk2,as2,h2,bo,f8,hl,hm,bh⟩:=Ww hI (K:=fun l tk k=>K (.dmap c::l) tk k) h;refine ⟨.dmap c::bs',tk2,as2,h2,bo,f8,by simp [hl],by grind,fun i x y hx hy=>?_⟩
  cases i with
  | zero=>simp at hx hy;subst hx;subst hy;exact .dmap c
  | succ i=>grind
 | m+1,.smap el c none::bs,tk,as,hI,K,h=>by
  obtain ⟨bs',tk2,as2,h2,bo,f8,hl,hm,bh⟩:=Ww hI (K:=fun l tk k=>K (.smap el c none::l) tk k) h;refine ⟨.smap el c none::bs',tk2,as2,h2,bo,f8,by simp [hl],by grind,fun i x y hx hy=>?_⟩
  cases i with
  | zero=>simp at hx hy;subst hx;subst hy;exact .smap el c
  | succ i=>grind
 | m+1,.smap _ _ (some _)::bs,tk,as,hI,K,h=>h.elim
 | m+1,.map cs bn ck::bs,tk,as,hI,K,h=>by
  obtain ⟨cs',tk1,as1,h1,du,mb,cf,hv⟩:=Zc9 hI h;obtain ⟨bs',tk2,as2,h2,bo,f8,hl,hm,bh⟩:=Ww mb h1;refine ⟨.map cs' bn ck::bs',tk2,as2,h2,VX du bo,f8,by simp [hl],by grind,fun i x y hx hy=>?_⟩
  cases i with
  | zero=>simp at hx hy;subst hx;subst hy;exact .map cs cs' bn ck cf fun i x y h1 h2=>(hv i x y h1 h2).ext bo
  | succ i=>grind
structure Drop (n:Nat) (e:Env) (σ:St) (e':Env) (σ':St):Prop where
 le:n<=σ.bx.length
 len:σ'.bx.length=n
 beta:e'.β=e.β
 X:e'.X=e.X
 H:e'.H=e.H
 okc:∀b off,okc e σ b off->okc e' σ' b off
 tok:∀t,t∈σ'.tk->∀p,e'.M t=some p->∃t0,t0∈σ.tk/\e.M t0=some p
def Later.drop {e1:Env} {σ1:St} {w1:World} {n:Nat} (h:Later e1 σ1 w1 e σ w) (hd:Drop n e σ e' σ') (hn:σ1.bx.length<=n):Later e1 σ1 w1 e' σ' w where
 len:=by rw [hd.len];exact hn
 beta:=by rw [hd.beta];exact h.beta
 X:=fun b off hx=>by rw [hd.X];exact h.X b off hx
 pres:=fun b off u hu ho=>let ⟨h1,h2⟩:=h.pres b off u hu ho;⟨hd.okc b off h1,h2⟩
 blocks:=h.blocks
 size:=h.size
 os:=h.os
 tape:=h.tape
 output:=h.output
 fresh:=fun i h1 h2=>by rw [hd.len] at h2;rw [hd.beta];exact h.fresh i h1 (TC h2 hd.le)
 ftok:=fun t ht p hp=>let ⟨t0,h0,h1⟩:=hd.tok t ht p hp;h.ftok t0 h0 p h1
 fhid:=fun b hb=>h.fhid b (by rw [<- hd.H];exact hb)
theorem Marks.drop {lo:Nat×List Deferred×Bool} {n:Nat} {l:List Deferred} (h:Marks lo e σ w l) (hd:Drop n e σ e' σ'):Marks lo e' σ' w l:=by
 obtain ⟨h0,rs,h1,dz,h2,h3⟩:=h;refine ⟨h0,rs,h1,dz,h2,fun r hr=>?_⟩;obtain ⟨g1,g2,g3,g4,g5⟩:=h3 r hr;refine ⟨g1,g2,fun i hi=>?_,fun t ht p hp=>?_,by rw [hd.H];exact g5⟩
 ·rw [hd.beta];rw [hd.len] at hi;exact g3 i (TC hi hd.le)
 obtain ⟨t0,h0,w5⟩:=hd.tok t ht p hp;grind
def mem_toks {t:Nat}:∀{k:Nat},t∈toks k↔t<k
 | 0=>by simp [toks]
 | k+1=>by simp only [toks,Tr,mem_toks];omega
def Env.re (e:Env) (as:List (Option Nat)):Env:={ e with M:=fun j=>(as[j]?.join).bind e.M }
theorem Ju {as:List (Option Nat)} {j:Nat} {p:Nat×Nat} (h:(e.re as).M j=some p):∃t,as[j]?=some (some t)/\e.M t=some p:=by
 simp only [Env.re] at h
 cases hj:as[j]? with
 | none=>simp_all
 | some q =>
 cases q with
 | none=>simp_all
 | some t=>simp_all
theorem Zda {n:Nat} (hn:n<=σ.bx.length) {as:List (Option Nat)} {tk:List Nat} (hI:NInv σ.tk tk as) {bs:List Box} (hb:bs.length=n):Drop n e σ (e.re as) ⟨bs,toks as.length,as.length⟩ where
 le:=hn
 len:=hb
 beta:=rfl
 X:=rfl
 H:=rfl
 okc:=fun b off ho=>⟨ho.1,fun i hi=>ho.2.1 i (TC hi (by simp_all)),fun t ht p hp uh=>by
  obtain ⟨t0,h1,h2⟩:=Ju hp;exact ho.2.2.1 t0 (hI.mem _ _ h1).1 p h2 uh,ho.2.2.2⟩
 tok:=fun t ht p hp=>by
  obtain ⟨t0,h1,h2⟩:=Ju hp;exact ⟨t0,(hI.mem _ _ h1).1,h2⟩
theorem NV.rel {n:Nat} (hn:n<=σ.bx.length) {as:List (Option Nat)} {tk:List Nat} (hI:NInv σ.tk tk as) {bs:List Box} (hb:bs.length=n) {x y:PV} {v:Value} (h:NV n as x y) (hv:VRel G e σ w x v) :
  VRel G (e.re as) ⟨bs,toks as.length,as.length⟩ w y v:=by
 have hd:=Zda (e:=e) hn hI hb;have aa:∀(j:Nat) (q:Option Nat),as[j]?=some q->j<as.length:=fun j q hq=>(To.1 hq).1
 cases h with
 | sl t el rows j h =>
  cases hv with
  | sl _ _ _ _ kd cg ht =>
  refine .sl j el rows v (aa _ _ h) (cg.mono fun b off u hu ho=>⟨hd.okc b off ho,hu⟩) fun _=>?_
  have hM:(e.re as).M j=e.M t:=by simp [Env.re,h]
  rcases ht (hI.mem _ _ h).1 with ⟨h1,h2,h3⟩ | ⟨sz,h1,h2,h3,b,off,cap,cs,ty,fz,h4,h5,h6,h7,h8,h9,w6⟩
  ·exact .inl ⟨h1,h2,hM.trans h3⟩
  exact .inr ⟨sz,h1,h2,h3,b,off,cap,cs,ty,fz,h4,h5,h6,h7,h8,h9,hM.trans w6⟩
 | nils el j h =>
  cases hv with
  | nils =>
  refine .sl j el [] _ (aa _ _ h) .slnil fun _=>.inl ⟨rfl,rfl,?_⟩
  simp [Env.re,h]
 | cl _ h=>exact VRel.clean (e:=e) (e':=e.re as) (σ:=σ) (σ':=⟨bs,toks as.length,as.length⟩) (w:=w) (w':=w) (n:=n) (by simp_all) (fun _ _=>rfl) (fun b off u hu ho=>⟨hd.okc b off ho,hu⟩) hv h
 | un _=>exact .undef v
 | clN _ h=>exact VRel.cleanN (e:=e) (e':=e.re as) (σ:=σ) (σ':=⟨bs,toks as.length,as.length⟩) (w:=w) (w':=w) (n:=n) (by simp_all) (fun _ _=>rfl) (fun b off u hu ho=>⟨hd.okc b off ho,hu⟩) hv h
theorem Zgy {n:Nat} (hS:SRel G e σ w) (hn:n<=σ.bx.length) {as:List (Option Nat)} {tk:List Nat} (hI:NInv σ.tk tk as) {bs:List Box} (hb:bs.length=n)
  (nk:∀(i:Nat) (x y:Box),σ.bx[i]?=some x->bs[i]?=some y->NB n as x y):SRel G (e.re as) ⟨bs,toks as.length,as.length⟩ w where
 inj:=fun i j hi hj h=>hS.inj i j (by grind) (by grind) h
 box:=fun i y hy=>by
  have hi:=(To.1 hy).1;simp only at hi;have hx:σ.bx[i]?=some σ.bx[i]:=Ta oM;have hB:=hS.box i _ hx;have hN:=nk i _ y hx hy;generalize σ.bx[i]=x at hB hN
  cases hN with
  | cells t cs cs' hl h =>
   obtain ⟨vs,h1,h2,h3⟩:=hB;refine ⟨vs,h1,oM,fun k z u hz hu=>?_⟩;have hk:=(To.1 hz).1;have hx:cs[k]?=some cs[k]:=Ta oM;exact ⟨(h k _ z hx hz).rel hn hI hb (h3 k _ u hx hu).1,(h3 k _ u hx hu).2⟩
  | iter s p=>exact hB
  | loop st pd r=>exact hB
  | dmap m=>exact hB.dmapTo rfl fun d v hv=>by have q:VRel G _ _ _ (.d d) v:=(NV.cl (n:=n) (as:=as) (.d d) rfl).rel hn hI hb (VRel.d d v hv);cases q;assumption
  | smap el m=>exact hB.smap0 rfl (fun d v hv=>by have q:VRel G _ _ _ (.d d) v:=(NV.cl (n:=n) (as:=as) (.d d) rfl).rel hn hI hb (VRel.d d v hv);cases q;assumption) HKeep.rfl'
  | map cs cs' bn ck hl h=>exact hB.mapTo rfl hl fun i x y hx hy=>⟨fun v hv=>(h i x y hx hy).rel hn hI hb hv,fun d hd=>by subst hd;cases h i _ y hx hy with | cl _ _=>rfl | clN _ _=>rfl | un _ hu=>cases hu⟩
 low:=fun i hi=>hS.low i (by grind)
 tkn:=fun t ht=>mem_toks.1 ht
 own:=fun t ht p hp=>by
  obtain ⟨t0,h1,h2⟩:=Ju hp;obtain ⟨h3,h4,h5⟩:=hS.own t0 (hI.mem _ _ h1).1 p h2;exact ⟨h3,fun i hi=>h4 i (by grind),h5⟩
 dis:=fun t t' ht pb ai p p' hp ju=>by
  obtain ⟨t0,h1,h2⟩:=Ju hp;obtain ⟨t1,h3,h4⟩:=Ju ju;exact hS.dis t0 t1 (hI.mem _ _ h1).1 (hI.mem _ _ h3).1 (fun h=>ai (hI.inj _ _ _ h1 (by simp_all))) p p' h2 h4
 xlt:=hS.xlt
 hid:=fun b q hq=>by
  obtain ⟨k1,k2,k3,k4,k5⟩:=hS.hid b q hq;exact ⟨k1,k2,fun i hi=>k3 i (by grind),fun t ht p hp=>by obtain ⟨t0,h1,h2⟩:=Ju hp;exact k4 t0 (hI.mem _ _ h1).1 p h2,k5⟩
 xown:=fun t ht p hp=>by
  obtain ⟨t0,h1,h2⟩:=Ju hp;exact hS.xown t0 (hI.mem _ _ h1).1 p h2
 glob:=hS.glob
 big:=hS.big
def NInv.start (S:List Nat) (tk:List Nat) (h:∀t,t∈tk->t∈S):NInv S tk []:=⟨h,fun i t h=>by simp at h,fun i j t h=>by simp at h⟩
def ZlJ (hS:SRel G e σ w) {n:Nat} {vs:List PV} {K:List PV->St->Prop} (h:Zo3 n vs σ K) :
  ∃vs' σ' e',K vs' σ'/\SRel G e' σ' w/\Drop n e σ e' σ'/\vs'.length=vs.length/\∀(i:Nat) (x y:PV) (u:Value),vs[i]?=some x->vs'[i]?=some y->VRel G e σ w x u->VRel G e' σ' w y u:=by
 obtain ⟨vs',tk1,as1,h1,du,mb,hl,hv⟩:=Zc9 (as:=[]) (NInv.start σ.tk σ.tk fun _ h=>h) h;obtain ⟨bs,tk2,as2,h2,bo,f8,dc,hn,nk⟩:=Ww mb h1;exact ⟨vs',⟨bs,toks as2.length,as2.length⟩,e.re as2,h2,Zgy hS hn f8 dc nk,Zda hn f8 dc,hl,fun i x y u hx hy hr=>((hv i x y hx hy).ext bo).rel hn f8 dc hr⟩
inductive NVA (n:Nat) (as:List (Option Nat)):PV->PV->Prop
 | one (x y:PV) (h:NV n as x y):NVA n as x y
 | agg (cs cs':List PV) (hl:cs'.length=cs.length) (h:∀(i:Nat) (x y:PV),cs[i]?=some x->cs'[i]?=some y->NV n as x y):NVA n as (.agg cs) (.agg cs')
def NVA.ext {n:Nat} {as as':List (Option Nat)} {x y:PV} (h:NVA n as x y) (hx:∃m,as'=as++m):NVA n as' x y:=by
 cases h with
 | one _ _ h=>exact .one _ _ (h.ext hx)
 | agg cs cs' hl h=>exact .agg cs cs' hl fun i x y h1 h2=>(h i x y h1 h2).ext hx
def NVA.rel {n:Nat} (hn:n<=σ.bx.length) {as:List (Option Nat)} {tk:List Nat} (hI:NInv σ.tk tk as) {bs:List Box} (hb:bs.length=n) {x y:PV} {v:Value} (h:NVA n as x y) (hv:VRel G e σ w x v) :
  VRel G (e.re as) ⟨bs,toks as.length,as.length⟩ w y v:=by
 cases h with
 | one _ _ h=>exact h.rel hn hI hb hv
 | agg cs cs' hl h =>
 cases hv with
 | agg _ vs hs h2 h1 =>
 refine .agg cs' vs oM (fun i y u hy hu=>?_) h1;have hi:=(To.1 hy).1;rw [hl] at hi;have hx:=Ta hi;exact (h i _ y hx hy).rel hn hI hb (h2 i _ u hx hu)
def Zte {n:Nat} {S tk:List Nat} {as:List (Option Nat)} (hI:NInv S tk as) {v:PV} {K:PV->List Nat->Nat->Prop} (h:Znm n tk as.length v K) :
  ∃v' tk' as',K v' tk' as'.length/\(∃m,as'=as++m)/\NInv S tk' as'/\NVA n as' v v':=by
 have gen:Zgn n tk as.length v K->∃v' tk' as',K v' tk' as'.length/\(∃m,as'=as++m)/\NInv S tk' as'/\NVA n as' v v':=fun h=>by
  obtain ⟨v',tk',as',h1,h2,h3,h4⟩:=ZlI hI h;exact ⟨v',tk',as',h1,h2,h3,.one _ _ h4⟩
 cases v with
 | agg cs =>
  simp only [Znm] at h;obtain ⟨cs',tk',as',h1,h2,h3,h4,h5⟩:=Zgx hI h;exact ⟨_,tk',as',h1,h2,h3,.agg cs cs' h4 h5⟩
 | _=>exact gen h
theorem Zgz {n:Nat} {S:List Nat}:∀{vs:List PV} {tk:List Nat} {as:List (Option Nat)} (_:NInv S tk as) {K:List PV->List Nat->Nat->Prop},Znn n vs tk as.length K ->
  ∃vs' tk' as',K vs' tk' as'.length/\(∃m,as'=as++m)/\NInv S tk' as'/\vs'.length=vs.length/\∀(i:Nat) (x y:PV),vs[i]?=some x->vs'[i]?=some y->NVA n as' x y
 | [],tk,as,hI,K,h=>⟨[],tk,as,h,⟨[],sM⟩,hI,rfl,fun i x y hx=>sM⟩
 | v::vs,tk,as,hI,K,h=>by
  obtain ⟨v',tk1,as1,h1,du,mb,hv⟩:=Zte hI h;obtain ⟨vs',tk2,as2,h2,bo,f8,hl,bh⟩:=Zgz mb h1;exact mq60
def Ztf {md n:Nat} {S:List Nat} {vs:List PV} {tk:List Nat} {as:List (Option Nat)} (hI:NInv S tk as) {K:List PV->List Nat->Nat->Prop} (h:Zs6 md n vs tk as.length K) :
  ∃vs' tk' as',K vs' tk' as'.length/\(∃m,as'=as++m)/\NInv S tk' as'/\vs'.length=vs.length/\∀(i:Nat) (x y:PV),vs[i]?=some x->vs'[i]?=some y->NVA n as' x y:=by
 unfold Zs6 at h
 split at h
 ·obtain ⟨a,b,c,h1,h2,h3,h4,h5⟩:=Zc9 hI h;exact ⟨a,b,c,h1,h2,h3,h4,fun i x y h6 h7=>.one _ _ (h5 i x y h6 h7)⟩
 ·obtain ⟨a,b,c,h1,h2,h3,h4,h5⟩:=Zgx hI h;exact ⟨a,b,c,h1,h2,h3,h4,fun i x y h6 h7=>.one _ _ (h5 i x y h6 h7)⟩
 exact Zgz hI h
def Zdb (hS:SRel G e σ w) {ag:Bool} {n:Nat} {vs:List PV} {K:List PV->St->Prop} (h:U4 ag n vs σ K) :
  ∃vs' σ' e',K vs' σ'/\SRel G e' σ' w/\Drop n e σ e' σ'/\vs'.length=vs.length/\∀(i:Nat) (x y:PV) (u:Value),vs[i]?=some x->vs'[i]?=some y->VRel G e σ w x u->VRel G e' σ' w y u:=by
 cases ag with
 | false=>exact ZlJ hS h
 | true =>
 obtain ⟨vs',tk1,as1,h1,du,mb,hl,hv⟩:=Zgz (as:=[]) (NInv.start σ.tk σ.tk fun _ h=>h) h;obtain ⟨bs,tk2,as2,h2,bo,f8,dc,hn,nk⟩:=Ww mb h1;exact ⟨vs',⟨bs,toks as2.length,as2.length⟩,e.re as2,h2,Zgy hS hn f8 dc nk,Zda hn f8 dc,hl,fun i x y u hx hy hr=>((hv i x y hx hy).ext bo).rel hn f8 dc hr⟩
end
end Go.PM
end

section
namespace Go.PM
variable {G:GE} {e:Env} {σ:St} {w:World}
theorem ZgA {α:Type} {k:List UInt8} {v:α}:∀{m:List (List UInt8×α)},lkM k m=some v->∃j:Nat,m[j]?=some (k,v)
 | [],h=>by cases h
 | (x,u)::l,h=>by
  simp only [lkM] at h
  by_cases hk:k=x
  ·subst hk;simp at h;subst h;exact ⟨0,rfl⟩
  simp only [decide_eq_false hk] at h;obtain ⟨j,hj⟩:=ZgA h;exact ⟨j+1,by simp_all⟩
theorem ZgB {α:Type} {k:List UInt8}:∀{m:List (List UInt8×α)},lkM k m=none->∀(i:Nat) (x:List UInt8×α),m[i]?=some x->x.1≠k
 | [],_,i,x,h=>by simp at h
 | (y,u)::l,h,i,x,hx=>by
  simp only [lkM] at h
  by_cases hk:k=y
  ·simp_all
  simp only [decide_eq_false hk] at h
  cases i with
  | zero=>grind
  | succ i=>exact ZgB h i x (by simp_all)
theorem Zpz {α:Type} {m:List (List UInt8×α)} (h:(m.map (·.1)).Nodup) {i j:Nat} {x y:List UInt8×α} (hi:m[i]?=some x) (hj:m[j]?=some y) (hk:x.1=y.1):i=j:=by
 have h1:(m.map (·.1))[i]?=some x.1:=by simp_all
 have h2:(m.map (·.1))[j]?=some x.1:=by simp_all
 have l1:=(To.1 h1).1;exact (List.getElem?_inj l1 h).1 (h1.trans h2.symm)
def UD {fo:Option (List UInt8×PV)}:∀m:List (List UInt8×List (List D)),(VR m fo).length=2 * m.length
 | []=>rfl
 | (x,v)::l=>by simp only [VR,Tf,UD l];omega
theorem Zj9 {α:Type} {k:List UInt8} {v:α}:∀{m:List (List UInt8×α)} {i:Nat} {x:List UInt8×α},(m.map (·.1)).Nodup->m[i]?=some x->(Z2 k v m)[i]?=some (x.1,match decide (x.1=k) with | true=>v | false=>x.2)
 | [],i,x,_,h=>by simp at h
 | (y,u)::l,i,x,hn,h=>by
  simp only [Tx,List.nodup_cons] at hn;simp only [Z2]
  by_cases hk:k=y
  ·grind
  simp only [decide_eq_false hk]
  cases i with
  | zero =>
   grind
  | succ i =>
  have h:l[i]?=some x:=by grind
  simp only [TZ];exact Zj9 hn.2 h
theorem putM_len {α:Type} {k:List UInt8} {v u:α} {m:List (List UInt8×α)} (h:lkM k m=some u):(Z2 k v m).length=m.length:=by
 rcases Zc1 (k:=k) (v:=v) m with ⟨_,h2⟩ | ⟨h1,_⟩
 ·simpa using congrArg List.length h2
 obtain ⟨j,hj⟩:=ZgA h
 grind
def Env.foc (e:Env) (t:Nat) (p:Option (Nat×Nat)):Env:={ e with M:=fun i=>if i=t then p else e.M i,H:=fun b=>match p with | none=>e.H b | some q=>if b=q.1 then none else e.H b }
theorem ZwR {t:Nat} {p:Option (Nat×Nat)} {b:Nat} {q:(Nat×List UInt8)×Nat} (h:(e.foc t p).H b=some q):e.H b=some q/\∀r,p=some r->b≠r.1:=by
 simp only [Env.foc] at h
 grind
theorem ZlK {t:Nat} {p:Option (Nat×Nat)} {b:Nat} {q:(Nat×List UInt8)×Nat} (h:e.H b=some q) (hn:∀r,p=some r->b≠r.1):(e.foc t p).H b=some q:=by
 simp only [Env.foc]
 grind
theorem Zka (hS:SRel G e σ w) {b:Nat} {k:List UInt8} {K:St->Prop} (h:Zfg b k σ K):∃e1 σ1,K σ1/\Stepped e σ w e1 σ1 w/\SRel G e1 σ1 w:=by
 unfold Zfg at h
 split at h
 ·rename_i el m d8
  have dc:b<σ.bx.length:=(To.1 d8).1;obtain ⟨es,⟨bn,ck,h1,h2,h3,h4⟩,h5,h6,h7⟩:=hS.box b _ d8;have hes:es.size=m.length:=by rw [UD] at h3;omega
  rcases h.ex with ⟨rows,ke,h⟩ | ⟨ke,h⟩
  ·obtain ⟨j,hj⟩:=ZgA ke;have t7:j<es.size:=by grind
   obtain ⟨p,hO,hH⟩:=h5 j es[j] (k,rows) (TL t7) hj fun kv ka=>by cases ka
   simp only at hO hH;have uq:∀t,t∈σ.tk->(e.foc σ.nx p).M t=e.M t:=fun t ht=>by
    have:=hS.tkn t ht;simp only [Env.foc];grind
   have og:(e.foc σ.nx p).M σ.nx=p:=by simp [Env.foc]
   have qj:(σ.set b (.smap el m (some (k,.sl σ.nx el rows)))).bx.length=σ.bx.length:=by simp [St.set]
   have hst:Stepped e σ w (e.foc σ.nx p) { σ.set b (.smap el m (some (k,.sl σ.nx el rows))) with tk:=σ.nx::σ.tk,nx:=σ.nx+1 } w:={
    len:=by simp_all
    beta:=fun _ _=>rfl
    X:=fun _ _ h=>h
    pres:=fun b' off u hu ho=>⟨⟨ho.1,fun i hi=>ho.2.1 i (by simp_all),fun t ht q hq o7=>by
     rcases Tr.1 ht with rfl | ht
     ·rw [og] at hq;have:=ho.2.2.2 _ (o7 ▸ hH q hq);exact this
     rw [uq t ht] at hq;exact ho.2.2.1 t ht q hq o7,fun q hq=>ho.2.2.2 q (ZwR hq).1⟩,hu⟩
    blocks:=fun _ _ _ _ _=>rfl
    size:=Tt _
    os:=rfl
    tape:=rfl
    output:=rfl
    fresh:=fun i g1 g2=>by grind
    ftok:=fun t ht q hq=>by
     grind
    fhid:=fun b' n8=>by
     cases hq:(e.foc σ.nx p).H b' with
     | none=>simp_all
     | some q=>exact .inr (.inr (by rw [(ZwR hq).1];simp))
    nx:=Nat.le_succ _
    toks:=fun t aa ht=>by
     grind
    own:=fun _ _ _ _ _ _=>rfl }
   refine ⟨_,_,h,hst,{
    inj:=fun i i' hi gu=>hS.inj i i' (by simp_all) (by simp_all)
    box:=fun i y hy=>?_
    low:=fun i hi=>hS.low i (by simp_all)
    tkn:=fun t ht=>by
     rcases Tr.1 ht with rfl | ht
     ·simp_all
     exact Nat.lt_succ_of_lt (hS.tkn t ht)
    own:=fun t ht q hq=>by
     rcases Tr.1 ht with rfl | ht
     ·rw [og] at hq;obtain ⟨g1,g2,g3,g4,g5⟩:=hS.hid _ _ (hH q hq);refine ⟨g1,fun i hi=>g3 i (by simp_all),?_⟩;rcases hO with ⟨_,_,hp⟩ | ⟨sz,_,_,_,b',off,cap,cs,ty,fz,_,_,_,hh,_,_,hp⟩
      ·simp_all
      grind
     rw [uq t ht] at hq;obtain ⟨g1,g2,g3⟩:=hS.own t ht q hq;exact ⟨g1,fun i hi=>g2 i (by simp_all),g3⟩
    dis:=fun t t' ht pb ai q q' hq jf=>by
     rcases Tr.1 ht with rfl | ht <;> rcases Tr.1 pb with rfl | pb
     ·omega
     ·rw [og] at hq;rw [uq t' pb] at jf;exact fun he=>(hS.hid _ _ (hH q hq)).2.2.2.1 t' pb q' jf he.symm
     ·rw [og] at jf;rw [uq t ht] at hq;exact fun he=>(hS.hid _ _ (hH q' jf)).2.2.2.1 t ht q hq he
     rw [uq t ht] at hq;rw [uq t' pb] at jf;exact hS.dis t t' ht pb ai q q' hq jf
    xlt:=hS.xlt
    xown:=fun t ht q hq off ho=>by
     rcases Tr.1 ht with rfl | ht
     ·rw [og] at hq;exact (hS.hid _ _ (hH q hq)).2.2.2.2 off ho
     rw [uq t ht] at hq;exact hS.xown t ht q hq off ho
    hid:=fun b' q hq=>by
     obtain ⟨g0,gn⟩:=ZwR hq;obtain ⟨g1,g2,g3,g4,g5⟩:=hS.hid b' q g0;refine ⟨g1,g2,fun i hi=>g3 i (by simp_all),fun t ht r hr=>?_,g5⟩
     grind
    glob:=hS.glob
    big:=hS.big }⟩
   by_cases hib:i=b
   ·subst hib;have:y=.smap el m (some (k,.sl σ.nx el rows)):=by
     have hy:(σ.bx.set i (.smap el m (some (k,.sl σ.nx el rows))))[i]?=some y:=hy
     simp_all
    subst this;refine ⟨es,⟨bn,ck,h1,h2,by rw [UD];omega,fun i' u hu=>?_⟩,fun i' u x hu hx ai=>?_,fun kv ka hl=>?_,h7⟩
    ·obtain ⟨g1,k',x,g2,g3,g4,g5⟩:=h4 i' u hu;have gu:i'<m.length:=by grind
     have hm:=Ta gu;generalize m[i']=xx at hm;obtain ⟨q1,q2⟩:=XP (fo:=none) hm;obtain ⟨r1,r2⟩:=XP (fo:=some (k,PV.sl σ.nx el rows)) hm;rw [q1] at g2;cases g2;rw [q2] at g3;cases g3;refine ⟨g1,xx.1,_,r1,r2,g4,?_⟩
     by_cases jk:xx.1=k
     ·have:i'=j:=Zpz h7 hm hj jk;subst this;rw [hj] at hm
      cases hm
      have hu':es[i']=u:=by simp_all
      simp only [Zh3,decide_true]
      cases g5 with
      | d _ _ hd=>exact .sl _ _ _ _ (Nat.lt_succ_self _) (hd.later hst.toLater) fun _=>by show OwnedAt G w el rows u.val ((e.foc σ.nx p).M σ.nx);simp_all
     simp only [Zh3,decide_eq_false jk];exact VRel.step g5 hst
    ·have jk:x.1≠k:=ai _ rfl;obtain ⟨p',k1,k2⟩:=h5 i' u x hu hx fun kv ka=>by cases ka
     refine ⟨p',k1,fun q hq=>ZlK (k2 q hq) fun r hr he=>?_⟩
     simp_all
    grind
   have hy:σ.bx[i]?=some y:=by
    have hy:(σ.bx.set b (.smap el m (some (k,.sl σ.nx el rows))))[i]?=some y:=hy
    grind
   have mc:=(To.1 hy).1;refine (hS.box i y hy).step hst rfl fun b' q hq hqi=>⟨ZlK hq fun r hr he=>?_,rfl⟩
   rw [he,hH r hr] at hq
   cases hq
   exact hib (hS.inj b i dc mc hqi).symm
  have hk:k∉m.map (·.1):=fun hm=>by
   obtain ⟨x,hx,rfl⟩:=Sr.1 hm;obtain ⟨i,hi,rfl⟩:=T5 hx;exact ZgB ke i _ (Ta hi) rfl
  obtain ⟨g1,g2⟩:=Wv hS d8 (x':=.smap el m (some (k,.nils el))) (w1:=w) rfl rfl rfl rfl (fun _ _=>rfl) fun hst=>by
   refine ⟨es,⟨bn,ck,h1,h2,by rw [UD];omega,fun i' u hu=>?_⟩,fun i' u x hu hx ai=>?_,fun kv ka hl=>?_,h7⟩
   ·obtain ⟨g1,k',x,g2,g3,g4,g5⟩:=h4 i' u hu;have gu:i'<m.length:=by grind
    have hm:=Ta gu;generalize m[i']=xx at hm;obtain ⟨q1,q2⟩:=XP (fo:=none) hm;obtain ⟨r1,r2⟩:=XP (fo:=some (k,PV.nils el)) hm;rw [q1] at g2;cases g2;rw [q2] at g3;cases g3;refine ⟨g1,xx.1,_,r1,r2,g4,?_⟩;have jk:¬xx.1=k:=ZgB ke i' xx hm;simp only [Zh3,decide_eq_false jk];exact VRel.step g5 hst
   ·grind
   grind
  grind
 simp_all
def Env.unf (e:Env) (bb:Nat) (k:List UInt8) (p:Option (Nat×Nat)):Env:={ e with H:=fun b=>match p with | none=>e.H b | some q=>if b=q.1 then some ((bb,k),q.2) else e.H b }
theorem ZwS {bb:Nat} {k:List UInt8} {p:Option (Nat×Nat)} {b:Nat} {q:(Nat×List UInt8)×Nat} (h:(e.unf bb k p).H b=some q):e.H b=some q\/∃r,p=some r/\b=r.1/\q=((bb,k),r.2):=by
 simp only [Env.unf] at h
 grind
theorem ZlL {bb:Nat} {k:List UInt8} {p:Option (Nat×Nat)} {b:Nat} {q:(Nat×List UInt8)×Nat} (h:e.H b=some q) (hn:∀r,p=some r->b≠r.1):(e.unf bb k p).H b=some q:=by
 simp only [Env.unf]
 grind
def ZpA {bb:Nat} {k:List UInt8} {p:Option (Nat×Nat)} {r:Nat×Nat} (h:p=some r):(e.unf bb k p).H r.1=some ((bb,k),r.2):=by
 subst h;simp [Env.unf]
theorem ZgC (hS:SRel G e σ w) {b:Nat} {K:St->Prop} (h:Uu b σ K):∃e1 σ1,K σ1/\Stepped e σ w e1 σ1 w/\SRel G e1 σ1 w:=by
 unfold Uu at h
 split at h
 ·rename_i el m k t e2' rows d8
  split at h
  ·rename_i ym xk
   cases Tu xk
   have ht:=(Yq _ _).1 ym;have dc:b<σ.bx.length:=(To.1 d8).1;obtain ⟨es,⟨bn,ck,h1,h2,h3,h4⟩,h5,h6,h7⟩:=hS.box b _ d8;have hes:es.size=m.length:=by rw [UD] at h3;omega
   obtain ⟨r0,ke⟩:∃r0,lkM k m=some r0:=by
    cases ke:lkM k m with
    | none=>simp_all
    | some r0=>simp_all
   obtain ⟨j,hj⟩:=ZgA ke;have t7:j<es.size:=by grind
   obtain ⟨hD,hO⟩:DRel (okc e σ) w (.sl rows) es[j].val/\OwnedAt G w el rows es[j].val (e.M t):=by
    obtain ⟨g1,k',x,g2,g3,g4,g5⟩:=h4 j es[j] (TL t7);rw [(XP hj).2] at g3;simp only [Zh3,decide_true] at g3
    cases g3
    cases g5 with
    | sl _ _ _ _ hn hd xm=>exact ⟨hd,xm ht⟩
   have bj:∀x,x∈Jk t σ.tk->x∈σ.tk/\x≠t:=fun x hx=>(XO t x σ.tk).1 hx
   have qj:(σ.set b (.smap el (Z2 k rows m) none)).bx.length=σ.bx.length:=by simp [St.set]
   have hst:Stepped e σ w (e.unf (e.β b) k (e.M t)) { σ.set b (.smap el (Z2 k rows m) none) with tk:=Jk t σ.tk } w:={
    len:=by simp_all
    beta:=fun _ _=>rfl
    X:=fun _ _ h=>h
    pres:=fun b' off u hu ho=>⟨⟨ho.1,fun i hi=>ho.2.1 i (by simp_all),fun x hx q hq o7=>ho.2.2.1 x (bj x hx).1 q hq o7,fun q hq=>by
     rcases ZwS hq with hq | ⟨r,hr,rfl,rfl⟩
     ·exact ho.2.2.2 q hq
     exact ho.2.2.1 t ht r hr rfl⟩,hu⟩
    blocks:=fun _ _ _ _ _=>rfl
    size:=Tt _
    os:=rfl
    tape:=rfl
    output:=rfl
    fresh:=fun i g1 g2=>by grind
    ftok:=fun x hx q hq=>.inr (.inl ⟨x,(bj x hx).1,q,hq,rfl⟩)
    fhid:=fun b' n8=>by
     cases hq:(e.unf (e.β b) k (e.M t)).H b' with
     | none=>simp_all
     | some q =>
     rcases ZwS hq with hq | ⟨r,hr,rfl,rfl⟩
     ·simp_all
     grind
    nx:=Tt _
    toks:=fun x aa hx=>⟨(bj x hx).1,rfl⟩
    own:=fun _ _ _ _ _ _=>rfl }
   have hnh:∀r,e.M t=some r->∀q,e.H r.1≠some q:=fun r hr q hq=>(hS.hid _ _ hq).2.2.2.1 t ht r hr rfl
   refine ⟨_,_,h,hst,{
    inj:=fun i i' hi gu=>hS.inj i i' (by simp_all) (by simp_all)
    box:=fun i y hy=>?_
    low:=fun i hi=>hS.low i (by simp_all)
    tkn:=fun x hx=>hS.tkn x (bj x hx).1
    own:=fun x hx q hq=>by
     obtain ⟨g1,g2,g3⟩:=hS.own x (bj x hx).1 q hq;exact ⟨g1,fun i hi=>g2 i (by simp_all),g3⟩
    dis:=fun x x' hx ig=>hS.dis x x' (bj x hx).1 (bj x' ig).1
    xlt:=hS.xlt
    xown:=fun x hx=>hS.xown x (bj x hx).1
    hid:=fun b' q hq=>by
     rcases ZwS hq with hq | ⟨r,hr,rfl,rfl⟩
     ·obtain ⟨g1,g2,g3,g4,g5⟩:=hS.hid b' q hq;exact ⟨g1,g2,fun i hi=>g3 i (by simp_all),fun x hx=>g4 x (bj x hx).1,g5⟩
     obtain ⟨g1,g2,cs,ty,fz,g3⟩:=hS.own t ht r hr;exact ⟨g1,(Tv.1 g3).1,fun i hi=>g2 i (by simp_all),fun x hx q' jf=>hS.dis x t (bj x hx).1 ht (bj x hx).2 q' r jf hr,fun off ho=>hS.xown t ht r hr off ho⟩
    glob:=hS.glob
    big:=hS.big }⟩
   by_cases hib:i=b
   ·subst hib;have:y=.smap el (Z2 k rows m) none:=by
     have hy:(σ.bx.set i (.smap el (Z2 k rows m) none))[i]?=some y:=hy
     simp_all
    subst this;refine ⟨es,⟨bn,ck,h1,h2,by rw [UD,putM_len ke];omega,fun i' u hu=>?_⟩,fun i' u x hu hx ai=>?_,fun kv ka hl=>(by cases ka),Zfo h7⟩
    ·obtain ⟨g1,k',x,g2,g3,g4,g5⟩:=h4 i' u hu;have gu:i'<m.length:=by grind
     have hm:=Ta gu;generalize m[i']=xx at hm;obtain ⟨q1,q2⟩:=XP (fo:=some (k,PV.sl t el rows)) hm;rw [q1] at g2;cases g2;rw [q2] at g3;cases g3;have hp:=Zj9 (k:=k) (v:=rows) h7 hm;obtain ⟨r1,r2⟩:=XP (fo:=none) hp;refine ⟨g1,xx.1,_,r1,r2,g4,?_⟩;simp only [Zh3] at g5 |-
     by_cases jk:xx.1=k
     ·simp only [TY jk] at g5 |-
      cases g5 with
      | sl _ _ _ _ _ hd _=>exact .d _ _ (hd.later hst.toLater)
     simp only [decide_eq_false jk] at g5 |-;exact VRel.step g5 hst
    have gu:i'<m.length:=by grind
    have hm:=Ta gu;generalize m[i']=xx at hm;have hp:=Zj9 (k:=k) (v:=rows) h7 hm;rw [hp] at hx
    cases hx
    simp only
    by_cases jk:xx.1=k
    ·have:i'=j:=Zpz h7 hm hj jk;subst this;rw [hj] at hm;cases hm;have hu':es[i']=u:=by simp_all
     simp only [decide_true];exact ⟨e.M t,by simp_all,fun q hq=>ZpA hq⟩
    simp only [decide_eq_false jk];obtain ⟨p',k1,k2⟩:=h5 i' u xx hu hm fun kv ka=>by grind
    exact ⟨p',k1,fun q hq=>ZlL (k2 q hq) fun r hr he=>hnh r hr _ (he ▸ k2 q hq)⟩
   have hy:σ.bx[i]?=some y:=by
    have hy:(σ.bx.set b (.smap el (Z2 k rows m) none))[i]?=some y:=hy
    grind
   exact (hS.box i y hy).step hst rfl fun b' q hq hqi=>⟨ZlL hq fun r hr he=>hnh r hr _ (he ▸ hq),rfl⟩
  simp_all
 simp_all
end Go.PM
end

section
namespace Go.PM
theorem Flat.front {ok:Nat->Nat->Prop} {w:World} {r1 r2:List (List D)} {sz:Nat} {xs:List Value} (h:Flat ok w (r1++r2) sz xs):Flat ok w r1 sz (xs.take (r1.length * sz)):=by
 have hl:=h.len;rw [Tc,Nat.add_mul] at hl;refine ⟨by simp_all,fun r hr=>h.wid r (Tw.2 (.inl hr)),fun a b y u hb hy hu=>?_⟩;have ha:a<r1.length:=by
  grind
 refine h.rel a b y u hb (by grind) ?_
 grind
section
variable {G:GE} {T:Tab} {e:Env} {σ:St} {w:World}
theorem Zkb (hT:TabOK T G.P) (hS:SRel G e σ w) {t tx el ty:Nat} (oz:(T.get t).kind=.slice el) (dk:(T.get el).kind≠.other) (ax:0<(T.get el).size)
  {rows:List (List D)} {z:List D} {v vx:Value} {px:PV} (hD:DRel (okc e σ) w (.sl rows) v) (tk0:List Nat) (bj:∀x,x∈tk0->x∈σ.tk)
  (hO:(v=.slice none 0 0/\rows=[])\/∃tok,tok∈σ.tk/\tok∉tk0/\Owned G e w tok el rows v)
  (hm:Ve T tx el px=some [z]) (hx:VRel G e σ w px vx) (hw:z.length=(T.get el).size)
  (jq:(rows.length+1) * (T.get el).bytes<=2 ^ 47) (hlen:rows.length+1<=2 ^ 47) :
  ∃w1 b off cap e1,(Builtin.append_ #[t,tx] ty #[v,vx]).run G.P w=.ok (.slice (some ⟨b,off,none⟩) (rows.length+1) cap) w1/\rows.length+1<=cap /\
   Stepped e σ w e1 { σ with tk:=σ.nx::tk0,nx:=σ.nx+1 } w1/\SRel G e1 { σ with tk:=σ.nx::tk0,nx:=σ.nx+1 } w1 /\
   VRel G e1 { σ with tk:=σ.nx::tk0,nx:=σ.nx+1 } w1 (.sl σ.nx el rows) (.slice (some ⟨b,off,none⟩) rows.length cap):=by
 obtain ⟨news,kq,dy⟩:=ZvW hT hm hx (fun r hr=>by simp_all) ax rfl;obtain ⟨y4,od,gz⟩:=Jr hT hS dk tk0 hO;obtain ⟨v',w1,aj,o6,ku,jr,dl,az,gl,js⟩:=Zfk (ty:=ty) (more:=[z]) hT hS oz dk ax hD od y4 kq dy jq hlen;rcases js with ⟨_,h⟩ | ⟨b,off,cap,cs,tyb,fz,rfl,hb,hc,hh,et,ll,kc,xs,sb,hxc⟩
 ·simp at h
 obtain ⟨e1,h1,h2,h3⟩:=Uy (more:=[]) (v':=.slice (some ⟨b,off,none⟩) rows.length cap) hT hS dk ax hD tk0 bj od (fun r h=>by cases h) gz o6 ku jr dl az gl
  (.inr ⟨b,off,cap,cs,tyb,fz,sM,hb,by grind,hh,et,ll,kc,xs.take (rows.length * (T.get el).size),by rw [TU];exact sb.front,fun k u hk=>hxc k u (by
   grind)⟩)
 rw [TU] at h3;exact ⟨w1,b,off,cap,e1,by simp_all,by simp_all,h1,h2,h3⟩
theorem ZpB (hT:TabOK T G.P) (hS:SRel G e σ w) {el tok b off cap:Nat} (dk:(T.get el).kind≠.other) (ax:0<(T.get el).size)
  {rows:List (List D)} {row:List D} {us:List Value} (hV:VRel G e σ w (.sl tok el rows) (.slice (some ⟨b,off,none⟩) rows.length cap)) (cd:tok∈σ.tk) (hcap:rows.length+1<=cap)
  (dy:Flat (okc e σ) w [row] (T.get el).size us) :
  (∀j,j<us.length->(w.cell? ⟨b,off+rows.length * (T.get el).size+j,none⟩).isSome=true)/\(∀j,j<us.length->w.frozen? ⟨b,off+rows.length * (T.get el).size+j,none⟩=false) /\
  (∀i,i<σ.bx.length->e.β i≠b) /\
  ∃e1,Stepped e σ w e1 { σ with tk:=σ.nx::Jk tok σ.tk,nx:=σ.nx+1 } (w.setCells b (off+rows.length * (T.get el).size) us)/\SRel G e1 { σ with tk:=σ.nx::Jk tok σ.tk,nx:=σ.nx+1 } (w.setCells b (off+rows.length * (T.get el).size) us) /\
   VRel G e1 { σ with tk:=σ.nx::Jk tok σ.tk,nx:=σ.nx+1 } (w.setCells b (off+rows.length * (T.get el).size) us) (.sl σ.nx el (rows++[row])) (.slice (some ⟨b,off,none⟩) (rows.length+1) cap):=by
 cases hV with
 | sl _ _ _ _ hn hD jt =>
 have bj:∀x,x∈Jk tok σ.tk->x∈σ.tk:=fun x hx=>((XO _ _ _).1 hx).1
 have hnt:tok∉Jk tok σ.tk:=fun h=>((XO _ _ _).1 h).2 rfl
 obtain ⟨y4,od,gz⟩:=Jr hT hS dk (Jk tok σ.tk) (.inr ⟨tok,cd,hnt,jt cd⟩);rcases y4 with ⟨h,_⟩ | ⟨b',off',cap',cs,tyb,fz,he,hb,hc,hh,et,ll,si⟩
 ·cases h
 cases he
 obtain ⟨olds,ah,ac,am,bz⟩:=ZGE od ax hD;have hul:us.length=(T.get el).size:=by rw [dy.len];simp
 have qz:(rows.length+1) * (T.get el).size<=cap * (T.get el).size:=Si _ hcap;rw [Nat.add_mul] at qz;have az:∀k,k<cs.size->(w.cell? ⟨b,k,none⟩).isSome=true:=fun k hk=>by simp [World.cell?,hh,hk]
 obtain ⟨r1,r2,r3,r4⟩:=YJ b us (off+rows.length * (T.get el).size) w;obtain ⟨cs',q1,q2,q3⟩:=YW b us (off+rows.length * (T.get el).size) w cs tyb fz hh;refine ⟨fun j hj=>az _ oM,fun j hj=>?_,si,?_⟩
 ·simp only [World.frozen?,hh]
  simp_all
 refine Uy (v:=.slice (some ⟨b,off,none⟩) rows.length cap) hT hS dk ax hD (Jk tok σ.tk) bj od (fun r h=>by simp at h;rw [h];exact dy.wid _ sM) gz r1 r2 r3 (by rw [Xq];omega)
  (fun b' o' u hu ho=>?_) (fun b' n8 hn=>r4 b' (hn b off cap rfl)) (.inr ⟨b,off,cap,cs',tyb,fz,sM,hb,by simp_all,q1,⟨oM,et.2.1,et.2.2.1,et.2.2.2⟩,ll,.inl ⟨cap,rfl⟩,olds++us,ah.append dy,fun k u hk=>?_⟩)
 ·by_cases lu:b'=b
  ·subst lu
   by_cases hoo:off+rows.length * (T.get el).size<=o'
   ·grind
   left
   rw [World.cell?_setCells_out b' us _ w ⟨b',o',none⟩ (fun _ _=>.inl (by simp_all))];exact hu
  left;simpa [World.cell?,r4 b' lu] using hu
 by_cases lq:k<olds.length
 ·rw [T4 lq] at hk;rw [World.cell?_setCells_out b us _ w ⟨b,off+k,none⟩ (fun _ _=>.inl (by show off+k<_;rw [<- ah.len];omega))]
  simp_all
 rw [Se oM] at hk;have l4:=(To.1 hk).1;have:=World.cell?_setCells_in b us (off+rows.length * (T.get el).size) w (fun j hj=>az _ oM) (k - olds.length) l4;rw [show off+k=off+rows.length * (T.get el).size+(k - olds.length) by rw [<- ah.len];omega,this]
 grind
end
structure Hole4 (ops:Array Oper) (m:Nat) (I S F H:Oper):Prop where
 size:ops.size=m+5
 oI:ops[m+1]?=some I
 oS:ops[m+2]?=some S
 oF:ops[m+3]?=some F
 oH:ops[m+4]?=some H
 gI:I.guard=none
 gS:S.guard=none
 gF:F.guard=none
 gH:H.guard=none
 nI:∀c,I.op≠.defer c
 nS:∀c,S.op≠.defer c
 nF:∀c,F.op≠.defer c
 nH:∀c,H.op≠.defer c
 eI:∀ed∈I.after,Region.binds .any ed=true->ed.on<=m
 eF:∀ed∈F.after,Region.binds .any ed=true->ed.on<=m
 eS:∀ed∈S.after,Region.binds .any ed=true->ed.on<=m+1
 eH:∀ed∈H.after,Region.binds .any ed=true->ed.on<=m\/ed.on=m+3
 eSI:∃ed∈S.after,Region.binds .any ed=true/\ed.on=m+1
 eHF:∃ed∈H.after,Region.binds .any ed=true/\ed.on=m+3
def cnt (i s f h:Bool):Nat:=(!i).toNat+(!s).toNat+(!f).toNat+(!h).toNat
def Zdc {P:Program} {ro:Option Nat} {n:Nat} {ops:Array Oper} {Q:Exit->Act->World->Prop} {i:Nat} {o:Oper} {K:Act->World->Prop} {a:Act} {w w':World} {v:Value} (ho:ops[i]?=some o) (hg:o.guard=none) (i6:∀c,o.op≠.defer c)
  (aj:(execOp a.eval o).run P w=.ok (.value v) w'\/((execOp a.eval o).run P w=.ok .skip w'/\v=Go.undef)) (hk:K (a.put o.dst v) w'):wpOpIn (fw ro) n P ops Q i K a w:=by
 unfold wpOpIn
 rw [ho];dsimp only;have hw:Region.wanted o (yielded ops a.tmps)=true:=by simp [Region.wanted,hg]
 rw [Ti hw];refine ⟨fun _ _=>trivial,?_⟩;rw [show (fw ro).round=ro from rfl,Oper.semAt_eq _ _ _ i6];rcases aj with hr | ⟨hr,rfl⟩
 ·rw [hr];exact hk
 rw [hr];exact hk
theorem ZDX {P:Program} {ro:Option Nat} {n:Nat} {ops:Array Oper} {m:Nat} {I S F H:Oper} (h4:Hole4 ops m I S F H) {Q:Exit->Act->World->Prop} {A:Bool->Bool->Act} {W:Bool->Bool->World} {vI vF:Value}
  (rI:∀f h,(h=true->f=true)->(execOp (A false f).eval I).run P (W false h)=.ok (.value vI) (W false h)) (pI:∀f,(A false f).put I.dst vI=A true f)
  (rF:∀i s,(s=true->i=true)->(execOp (A i false).eval F).run P (W s false)=.ok (.value vF) (W s false)) (pF:∀i,(A i false).put F.dst vF=A i true)
  (rS:∀f h,(h=true->f=true)->(execOp (A true f).eval S).run P (W false h)=.ok .skip (W true h)) (pS:∀f,(A true f).put S.dst Go.undef=A true f)
  (rH:∀i s,(s=true->i=true)->(execOp (A i true).eval H).run P (W s false)=.ok .skip (W s true)) (pH:∀i,(A i true).put H.dst Go.undef=A i true)
  (hQ:Q .normal (A true true) (W true true)) :
  ∀(k:Nat) (i s f h:Bool),cnt i s f h=k->(s=true->i=true)->(h=true->f=true)->∀(listed:Array Bool),listed.size=ops.size ->
   (∀j,j<ops.size->(listed.getD j false=true↔(j=m+1->i=true)/\(j=m+2->s=true)/\(j=m+3->f=true)/\(j=m+4->h=true))) ->
   wpAnyIn (fw ro) n P .any ops Q k listed (A i f) (W s h):=by
 intro k
 induction k with
 | zero =>
  intro i s f h hc zf zg listed hsz eu
  obtain ⟨rfl,rfl,rfl,rfl⟩:i=true/\s=true/\f=true/\h=true:=by
   revert hc;cases i <;> cases s <;> cases f <;> cases h <;> simp [cnt]
  refine ⟨?_,hQ⟩;rw [List.eq_nil_iff_forall_not_mem];intro j hj
  obtain ⟨h1,o,ho,_⟩:=mem_ready.1 hj
  grind
 | succ k ih =>
 intro i s f h hc zf zg listed hsz eu
 have ni:∀i b,i<ops.size->listed.getD i b=listed.getD i false:=fun i b hi=>by
  simp_all
 have acu:=h4.size;have rc:∀(j:Nat) (i' s' f' h':Bool),j<ops.size->(∀q,q<ops.size->((q=m+1->i'=true)/\(q=m+2->s'=true)/\(q=m+3->f'=true)/\(q=m+4->h'=true)↔q=j\/((q=m+1->i=true)/\(q=m+2->s=true)/\(q=m+3->f=true)/\(q=m+4->h=true)))) ->
   ∀q,q<ops.size->((listed.setIfInBounds j true).getD q false=true↔(q=m+1->i'=true)/\(q=m+2->s'=true)/\(q=m+3->f'=true)/\(q=m+4->h'=true)):=fun j i' s' f' h' hj hh q hq=>by
  rw [hh q hq]
  by_cases hqj:q=j
  ·simp_all
  have:(listed.setIfInBounds j true).getD q false=listed.getD q false:=getD_set_ne false (Ne.symm hqj)
  simp_all
 refine ⟨fun hr=>?_,fun j hj=>?_⟩
 ·exfalso;have rdy:∀j o,ops[j]?=some o->listed.getD j false=false->(∀ed∈o.after,Region.binds .any ed=true->listed.getD ed.on false=true)->False:=fun j o ho hl he=>by
   have:j∈Region.ready .any ops listed:=mem_ready.2 ⟨by grind,o,ho,he⟩
   grind
  have fls:∀j,j<ops.size->¬((j=m+1->i=true)/\(j=m+2->s=true)/\(j=m+3->f=true)/\(j=m+4->h=true))->listed.getD j false=false:=fun j hj hn=>by
   grind
  cases i with
  | false=>exact rdy (m+1) I h4.oI (fls _ oM (fun hh=>by simp_all)) fun ed he hb=>(eu _ (by have:=h4.eI ed he hb;omega)).2 (by have:=h4.eI ed he hb;omega)
  | true =>
  cases s with
  | false=>exact rdy (m+2) S h4.oS (fls _ oM (fun hh=>by grind)) fun ed he hb=>(eu _ (by have:=h4.eS ed he hb;omega)).2 (by have:=h4.eS ed he hb;grind)
  | true =>
  cases f with
  | false=>exact rdy (m+3) F h4.oF (fls _ oM (fun hh=>by grind)) fun ed he hb=>(eu _ (by have:=h4.eF ed he hb;omega)).2 (by have:=h4.eF ed he hb;omega)
  | true =>
  cases h with
  | false=>exact rdy (m+4) H h4.oH (fls _ oM (fun hh=>by grind)) fun ed he hb=>(eu _ (by have:=h4.eH ed he hb;omega)).2 (by have:=h4.eH ed he hb;grind)
  | true=>trivial
 obtain ⟨h1,o,ho,co⟩:=mem_ready.1 hj;have aa:=(Tv.1 ho).1;rw [ni _ _ aa] at h1;have hn:¬((j=m+1->i=true)/\(j=m+2->s=true)/\(j=m+3->f=true)/\(j=m+4->h=true)):=fun hh=>by
  grind
 have lw:(listed.setIfInBounds j true).size=ops.size:=by grind
 by_cases j1:j=m+1
 ·subst j1;have hi:i=false:=by grind
  subst hi;have hs:s=false:=by grind
  subst hs;rw [h4.oI] at ho;cases ho;refine Zdc h4.oI h4.gI h4.nI (.inl (rI f h zg)) ?_;rw [pI];exact ih true false f h (by simp [cnt] at hc |-;omega) (fun h=>by cases h) zg _ lw (rc _ _ _ _ _ aa fun q hq=>by
   grind)
 by_cases j2:j=m+2
 ·subst j2;have hs:s=false:=by grind
  subst hs;rw [h4.oS] at ho;cases ho;obtain ⟨ed,he,hb,hon⟩:=h4.eSI;have hi:i=true:=by
   grind
  subst hi;refine Zdc h4.oS h4.gS h4.nS (.inr ⟨rS f h zg,rfl⟩) ?_;rw [pS];exact ih true true f h (by simp [cnt] at hc |-;omega) (fun _=>rfl) zg _ lw (rc _ _ _ _ _ aa fun q hq=>by
   grind)
 by_cases j3:j=m+3
 ·subst j3;have hf:f=false:=by grind
  subst hf;have hh:h=false:=by grind
  subst hh;rw [h4.oF] at ho;cases ho;refine Zdc h4.oF h4.gF h4.nF (.inl (rF i s zf)) ?_;rw [pF];exact ih i s true false (by simp [cnt] at hc |-;omega) zf (fun h=>by cases h) _ lw (rc _ _ _ _ _ aa fun q hq=>by
   grind)
 by_cases j4:j=m+4
 ·subst j4;have hh:h=false:=by grind
  subst hh;rw [h4.oH] at ho;cases ho;obtain ⟨ed,he,hb,hon⟩:=h4.eHF;have hf:f=true:=by
   grind
  subst hf;refine Zdc h4.oH h4.gH h4.nH (.inr ⟨rH i s zf,rfl⟩) ?_;rw [pH];exact ih i s true true (by simp [cnt] at hc |-;omega) zf (fun _=>rfl) _ lw (rc _ _ _ _ _ aa fun q hq=>by
   grind)
 omega
theorem ZGF {F:Fence} {n:Nat} {P:Program} {o:Oper} {a:Act} {w:World} {K:Act->World->Prop} {Q Q':Exit->Act->World->Prop} (hQ:∀x a w,x≠.normal->Q x a w->Q' x a w) (h:o.wpIn F n P a w K Q):o.wpIn F n P a w K Q':=by
 unfold Oper.wpIn at *
 refine ⟨h.1,?_⟩;have h:=h.2;generalize (o.semAt F.round a.eval).run P w=r at *
 cases r with
 | ok x w' =>
  cases x <;> simp only [Oper.uponIn] at h |- <;> first
   | exact h
   | exact h.elim
   | (refine ⟨h.1, h.2.mono fun en w'' he => ?_⟩
      cases en <;> simp only at he |- <;> first
       | exact he
       | exact hQ _ _ _ sM he
       | (obtain ⟨a0,w0,hq⟩:=he;exact ⟨a0,w0,hQ _ _ _ sM hq⟩))
 | halt hh w' =>
 cases hh <;> simp only [Oper.uponIn] at h |- <;> first
  | grind
  | simp_all
section
variable {G:GE} {C:Cx} {e0 e:Env} {σ0 σ:St} {w0 w:World} {a:Act} {f:Frame} {Q:PQ} {ro:Option Nat} {n:Nat} {ds:Nat×List Deferred×Bool} {N:Nat} {Z:Array Value->Prop}
theorem Zft {m t:Nat} {QQ:Exit->Act->World->Prop} (hC:CxOK G C ro e0 σ0 w0) (hM:CxMono C) {ops:Array Oper} (hd:∀o,o∈ops->∀d,o.dst=some d->d<N/\∀t v,Z t->Z (t.setIfInBounds d v)) {ms:List Nat} (zd:∀i o,i<m->ops[i]?=some o->ms.getD i 0=U2 ms o.after.toList 0)
  (hm:ops.size=m+t) (gd:∀j o,m<=j->ops[j]?=some o->(∀p,p<m->∃ed∈o.after,Region.binds .any ed=true/\ed.on=p)\/(∃ed∈o.after,Region.binds .any ed=true/\m<=ed.on/\ed.on<ops.size))
  (zh:∀x a w,x≠.normal->ZM G e0 σ0 w0 ds N Z Q x a w->QQ x a w)
  (ek:∀(listed:Array Bool) a w,listed.size=ops.size->(∀k,k<ops.size->(listed.getD k false=true↔k<m))->ZM G e0 σ0 w0 ds N Z Q .normal a w->wpAnyIn (fw ro) n G.P .any ops QQ t listed a w) :
  ∀(k:Nat) (l:List (Nat×Oper)),l.length=k->(∀p∈l,p.1<m)->(∀p∈l,ops[p.1]?=some p.2)->l.Pairwise (Ztd ops.toList ms)->(∀p∈l,∀e∈p.2.after.toList,Region.binds .any e=true->e.on<m/\e.on≠p.1) ->
  ∀{listed:Array Bool},listed.size=ops.size->(∀k,k<ops.size->(listed.getD k false=true↔k<m/\∀p∈l,p.1≠k))->(∀j,j<m->(∀p∈l,p.1≠j)->∀p∈l,anc ms p.1 j=false) ->
  ∀{ctx:List Ld} {e:Env} {σ:St} {w:World} {a:Act} {f:Frame},SRel G e σ w->FRel G e σ w f a.tmps->Later e0 σ0 w0 e σ w->a.tmps.size=N->Marks ds e σ w a.defers->Z a.tmps->Wg C ops.toList ms Q l ctx f σ ->
  wpAnyIn (fw ro) n G.P .any ops QQ (k+t) listed a w
 | 0,l,hl,hlm,be,hp,hed,listed,hsz,eu,hdown,ctx,e,σ,w,a,f,hS,hF,hL,hN,ba,hZ,h=>by
  have l9:l=[]:=Sp.1 hl;subst l9;rw [Sx];exact ek listed a w hsz (fun k hk=>by simp_all) ⟨.normal,f,e,σ,h,rfl,hS,hF,hL,hN,ba,hZ⟩
 | k+1,l,hl,hlm,be,hp,hed,listed,hsz,eu,hdown,ctx,e,σ,w,a,f,hS,hF,hL,hN,ba,hZ,h=>by
  have ni:∀i b,i<ops.size->listed.getD i b=listed.getD i false:=fun i b hi=>by
   simp_all
  rw [show k+1+t=(k+t)+1 by omega];refine ⟨fun hr=>?_,fun i hi=>?_⟩
  ·cases l with
   | nil=>simp at hl
   | cons x l =>
   exfalso;have hx:=be x sM;have aa:=(Tv.1 hx).1;have:x.1∈Region.ready .any ops listed:=by
    refine mem_ready.2 ⟨?_,x.2,hx,fun ed nj hb=>?_⟩
    ·grind
    have h1:=hed x sM ed (TS.1 nj) hb;refine (eu ed.on oM).2 ⟨h1.1,fun p ju=>?_⟩;exact mq132
   simp_all
  obtain ⟨h1,o,ho,co⟩:=mem_ready.1 hi;have aa:=(Tv.1 ho).1;rw [ni _ _ aa] at h1;have him:i<m:=by
   apply Classical.byContradiction
   intro ey
   rcases gd i o oM ho with h2 | ⟨ed,he,hb,ey,av⟩
   ·cases l with
    | nil=>simp at hl
    | cons x l =>
    grind
   grind
  have dh:∃p∈l,p.1=i:=by
   grind
  obtain ⟨p,eg,rfl⟩:=dh;have uo:p.2=o:=by grind
  obtain ⟨pre,post,rfl⟩:=List.append_of_mem eg;obtain ⟨i,o'⟩:=p;dsimp only at uo ho aa h1 hi;subst uo;have pa:=List.pairwise_append.1 hp;have gc:=(List.pairwise_cons.1 pa.2.1)
  have jv:∀x∈pre++(i,o')::post,anc ms x.1 i=false:=fun x hx=>by
   cases sq:anc ms x.1 i with
   | false=>rfl
   | true =>
   exfalso;unfold anc at sq
   rw [zd i o' him ho] at sq;rcases WO sq with h2 | ⟨ed,nj,hb,h2⟩
   ·simp at h2
   grind
  have ir:=Zj8 hM pre (fun x hx=>by
   have hA:=pa.2.2 x hx (i,o') sM;have mr:=jv x (by simp [hx]);rcases hA.2.2 with h2 | h2
   ·simp_all
   simp_all) ctx f σ h
  have bc:=Vh (ro:=ro) (n:=n) hC hS hF hL hN ba hZ (ops:=ops) (hd o' (Sc ho)) ir;have acs:∀x∈pre++post,x.1≠i:=fun x hx=>by
   exact mq145
  have bj:∀x,x∈pre++post->x∈pre++(i,o')::post:=fun x hx=>by
   grind
  have next:∀a' w',KRel G e0 σ0 w0 ds N Z (fun f' σ'=>∃c,Wg C ops.toList ms Q (pre++post) c f' σ') a' w'->wpAnyIn (fw ro) n G.P .any ops QQ (k+t) (listed.setIfInBounds i true) a' w':=fun a' w' ⟨f',e',σ',⟨c,lq⟩,h2,h3,h4,h5,h6,h7⟩=>by
   refine Zft hC hM hd zd hm gd zh ek k (pre++post) (by grind) (fun x hx=>hlm x (bj x hx)) (fun x hx=>be x (bj x hx)) (List.pairwise_append.2 ⟨pa.1,gc.2,fun x hx y hy=>pa.2.2 x hx y (TF _ hy)⟩)
    (fun x hx=>hed x (bj x hx)) (by simp_all) (fun k hk=>?_) (fun j hjm hj x hx=>?_) h2 h3 h4 h5 h6 h7 lq
   ·exact mq75
   grind
  have hK:∀a' w',KRel G e0 σ0 w0 ds N Z (fun f' σ'=>match YX o'.op with | true=>Zs5 ms i σ.bx σ'.bx ctx (Wg C ops.toList ms Q (pre++post) ctx f' σ') | false=>Wg C ops.toList ms Q (pre++post) (VT C.T o' i f ctx) f' σ') a' w' ->
    KRel G e0 σ0 w0 ds N Z (fun f' σ'=>∃c,Wg C ops.toList ms Q (pre++post) c f' σ') a' w':=fun a' w' ⟨f',e',σ',hk,au⟩=>by
   refine ⟨f',e',σ',?_,au⟩
   cases hE:YX o'.op with
   | true=>rw [hE] at hk;exact ⟨_,(chkL_iff.1 hk).2⟩
   | false=>grind
  unfold wpOpIn
  rw [ho];dsimp only;split at bc
  ·rename_i hw
   rw [Ti hw];exact ZGF zh (Oper.wpIn_mono (fun a w h=>next a w (hK a w h)) bc)
  rename_i hw
  rw [Te hw];exact ⟨fun _ _=>trivial,next _ _ (hK _ _ bc)⟩
end
def Jv (o:Oper):Bool:=match o.guard with | none=>true | _=>false
def Zdd (x:Operand) (ds:List Nat):Bool:=match x with | .tmp t=>!(ZhY t ds) | _=>true
def ZnA (x:Operand) (d:Nat):Bool:=match x with | .tmp t=>Nat.beq t d | _=>false
def VY (m:Nat) (l:List Edge):Bool:=l.all fun ed=>!(Region.binds .any ed) || Nat.ble ed.on m
def Jw (m:Nat) (l:List Edge):Bool:=l.any fun ed=>Region.binds .any ed && Nat.beq ed.on m
def ZlM:Nat->List Edge->Bool
 | 0,_=>true
 | n+1,l=>Jw n l && ZlM n l
structure HoleD where
 s:Operand
 z:Operand
 t:Nat
 tx:Nat
 ti:Nat
 ix:Operand
 ts:Nat
 x:Operand
 sf:Nat
 xf:Operand
 kf:Nat
 th:Nat
 da:Nat
 di:Nat
 df:Nat
def ZnB (h:Hole):Option HoleD:=match h.A.op,h.I.op,h.S.op,h.F.op,h.H.op with
 | .call { callee:=.builtin .append,args,argTypes },.indexAddr ti xi ix,.store ts xs x,.fieldAddr sf xf kf,.store th xh yh=>match argTypes.toList,args.toList,h.A.dst,h.I.dst,h.F.dst,h.S.dst,h.H.dst with
  | [t,tx],[s,z],some da,some di,some df,none,none =>
   match ZnA xi da && Nat.beq ti t && ZnA xs di && ZnA xh df && ZnA yh da && Zdd ix [da,di,df] && Zdd x [da,di,df] && Zdd xf [da,di,df] && !(Nat.beq da di) && !(Nat.beq da df) && !(Nat.beq di df) with
   | true=>some ⟨s,z,t,tx,ti,ix,ts,x,sf,xf,kf,th,da,di,df⟩
   | false=>none
  | _,_,_,_,_,_,_=>none
 | _,_,_,_,_=>none
def ZpC (ops:List Oper) (h:Hole):Bool :=
 let m:=h.pre.length
 let ms:=Wu ops []
 let cs:=VC m (ZI 0 h.pre)
 (match ZnB h with | some _=>true | none=>false) && Jv h.A && Jv h.I && Jv h.S && Jv h.F && Jv h.H &&
 VY m h.I.after.toList && VY m h.F.after.toList && VY (m+1) h.S.after.toList && (h.H.after.toList.all fun ed=>!(Region.binds .any ed) || (Nat.ble ed.on m || Nat.beq ed.on (m+3))) &&
 Jw (m+1) h.S.after.toList && Jw (m+3) h.H.after.toList && Jw m h.I.after.toList && Jw m h.F.after.toList && ZlM m h.A.after.toList && (match m with | 0=>true | k+1=>VY k h.A.after.toList) && Nat.ble 1 m &&
 Nat.beq cs.length m && Zii ops ms m cs && Zij cs m && ZaZ ms cs
theorem Zkc {ops:Array Oper} {h:Hole} (hh:Zfe ops.toList=some h):ops.toList=h.pre++[h.A,h.I,h.S,h.F,h.H]:=by
 unfold Zfe at hh
 split at hh
 ·rename_i H F S I A pre hr
  split at hh
  ·cases hh
   simp_all
  grind
 grind
theorem Za0 {h:Hole} {d:HoleD} (hd:ZnB h=some d):∃(args:Array Operand) (at':Array Nat),args.toList=[d.s,d.z]/\at'.toList=[d.t,d.tx]/\h.A.op=.call { callee:=.builtin .append,args:=args,argTypes:=at' } /\
  h.I.op=.indexAddr d.t (.tmp d.da) d.ix/\h.S.op=.store d.ts (.tmp d.di) d.x/\h.F.op=.fieldAddr d.sf d.xf d.kf/\h.H.op=.store d.th (.tmp d.df) (.tmp d.da) /\
  h.A.dst=some d.da/\h.I.dst=some d.di/\h.F.dst=some d.df/\h.S.dst=none/\h.H.dst=none/\Zdd d.ix [d.da,d.di,d.df]=true/\Zdd d.x [d.da,d.di,d.df]=true/\Zdd d.xf [d.da,d.di,d.df]=true/\d.da≠d.di/\d.da≠d.df/\d.di≠d.df:=by
 have tmp:∀{x:Operand} {d:Nat},ZnA x d=true->x=.tmp d:=fun {x d} h=>by
  unfold ZnA at h
  split at h
  ·simp_all
  cases h
 have ne:∀{a b:Nat},(!(Nat.beq a b))=true->a≠b:=fun {a b} h e=>by simp_all
 unfold ZnB at hd
 split at hd
 ·rename_i args at' ti xi ix ts xs x sf xf kf th xh yh h1 h2 h3 h4 h5
  split at hd
  ·rename_i t tx s z da di df g1 g2 g3 g4 g5 g6 g7
   split at hd
   ·rename_i hb
    cases hd
    simp only [Tl] at hb;obtain ⟨⟨⟨⟨⟨⟨⟨⟨⟨⟨b1,b2⟩,b3⟩,b4⟩,b5⟩,b6⟩,b7⟩,b8⟩,b9⟩,b10⟩,b11⟩:=hb;have:=tmp b1;subst this;have:=Tu b2;grind
   grind
  grind
 grind
theorem Zim (w:World) {b1 b2:Nat} (h:b1≠b2) (o1 o2:Nat) (v1 v2:Value):(w.setCell ⟨b1,o1,none⟩ v1).setCell ⟨b2,o2,none⟩ v2=(w.setCell ⟨b2,o2,none⟩ v2).setCell ⟨b1,o1,none⟩ v1:=by
 unfold World.setCell
 simp only [World.mk.injEq,and_self,and_true,true_and]
 grind
def Xz {b1 b2:Nat} (h:b1≠b2) (o1:Nat) (v1:Value):∀(l:List Value) (o2:Nat) (w:World),(w.setCell ⟨b1,o1,none⟩ v1).setCells b2 o2 l=(w.setCells b2 o2 l).setCell ⟨b1,o1,none⟩ v1
 | [],_,_=>rfl
 | v::l,o2,w=>by
  rw [World.setCells,World.setCells,Zim w h,Xz h o1 v1 l]
def J9 {b1 b2:Nat} (h:b1≠b2):∀(l1:List Value) (o1:Nat) (l2:List Value) (o2:Nat) (w:World),(w.setCells b1 o1 l1).setCells b2 o2 l2=(w.setCells b2 o2 l2).setCells b1 o1 l1
 | [],_,_,_,_=>rfl
 | v::l1,o1,l2,o2,w=>by
  rw [World.setCells,World.setCells,J9 h l1,Xz h]
section
variable {G:GE} {T:Tab} {e:Env} {σ:St} {w:World}
theorem Vj (hT:TabOK T G.P) {t:Nat} (hk:(T.get t).kind≠.other) {v:Value} {b off:Nat} (hlen:v.cells.size=(T.get t).size) (hc:∀j,j<v.cells.toList.length->(w.cell? ⟨b,off+j,none⟩).isSome=true)
  (hf:∀j,j<v.cells.toList.length->w.frozen? ⟨b,off+j,none⟩=false) (ko:∀u∈v.cells.toList,u.oneCell'=true) {ρ':Operand->Value} {o:Oper} {p x:Operand} (ho:o.op=.store t p x) (hp:ρ' p=.pointer (some ⟨b,off,none⟩)) (hx:ρ' x=v) :
  (execOp ρ' o).run G.P w=.ok .skip (w.setCells b off v.cells.toList):=by
 obtain ⟨i,d,z,hi,hd,hs,ec,aq,hz,cx,_⟩:=(hT.get hk).ex;have aj:=run_storeCells_cells (P:=G.P) b off v.cells.toList 0 w oM oM ko;simp only [Nat.add_zero] at aj;have:(Instr.storeAt t (.pointer (some ⟨b,off,none⟩)) v).run G.P w=.ok () (w.setCells b off v.cells.toList):=by
  have oy:v.cells.size=i.size:=oM;exact mq137
 unfold execOp
 simp_all
theorem Zkd (hT:TabOK T G.P) {s i off t:Nat} {fs:List (Nat×Nat)} (hk:(T.get s).kind=.struct fs) (tv:fs[i]?=some (off,t)) {ρ':Operand->Value} {o:Oper} {x:Operand} (ho:o.op=.fieldAddr s x i) {b oo:Nat} (hv:ρ' x=.pointer (some ⟨b,oo,none⟩)) (w:World) :
  (execOp ρ' o).run G.P w=.ok (.value (.pointer (some ⟨b,oo+off,none⟩))) w:=by
 obtain ⟨ti,d,z,hi,hd,hs,ec,aq,hz,cx,_⟩:=(hT.get (t:=s) (by grind)).ex;rw [hk] at aq;obtain ⟨gs,rfl,hf⟩:=aq;obtain ⟨f,j,hg,cz,ht,hj,ub⟩:=hf.get tv;have qs:gs[i]?=some f:=by simp_all
 have hfp:(fieldPlace ⟨b,oo,none⟩ f).run G.P w=.ok ⟨b,oo+off,none⟩ w:=by
  exact mq133
 unfold execOp
 simp [ho,hv,Instr.fieldAt,Za hd,qs,Instr.sureAddr,hfp]
theorem Zke (hT:TabOK T G.P) {t el:Nat} (hk:(T.get t).kind=.slice el) (cu:(T.get el).kind≠.other) {ρ':Operand->Value} {o:Oper} {x i:Operand} (ho:o.op=.indexAddr t x i) {b off n cap:Nat} {k:IntKind} {m:Int} (hv:ρ' x=.slice (some ⟨b,off,none⟩) n cap)
  (hi:ρ' i=.int k m) (h0:0<=m) (hn:m<n) (w:World):(execOp ρ' o).run G.P w=.ok (.value (.pointer (some ⟨b,off+m.toNat * (T.get el).size,none⟩))) w:=by
 obtain ⟨ti,d,z,oc,hd,hs,ec,aq,hz,cx,_⟩:=(hT.get (t:=t) (by grind)).ex;rw [hk] at aq;cases aq;obtain ⟨i2,d2,z2,af,cg,fj,_,bi,_,_,_⟩:=(hT.get cu).ex;unfold execOp
 simp [ho,hv,hi,Instr.indexAt,Xw,Za hd,h0,hn,Zt af,Yb,fj]
theorem Ztg {x:PV} {v:Value} {row:List D} (hx:VRel G e σ w x v) (hr:ZjT x=some row):Flat (okc e σ) w [row] row.length v.cells.toList/\∀u∈v.cells.toList,u.oneCell'=true:=by
 unfold ZjT at hr
 split at hr
 ·rename_i l hl
  obtain ⟨dv,bw⟩:=WK hx hl;obtain ⟨fx,cg⟩:=Uz (ok:=okc e σ) hr;refine ⟨⟨by simp_all,fun r hr=>by simp_all,fun a b y u hb hy hu=>?_⟩,fun u hu=>?_⟩
  ·cases a with
   | zero =>
    simp only [List.getElem?_cons_zero,Option.bind_some] at hy;simp only [Nat.zero_mul,Sx,TG] at hu;have h1:b<l.length:=oM;exact X0 (cg b l[b] y (Ta h1) hy) (bw b l[b] u (Ta h1) hu).1
   | succ a=>simp at hy
  obtain ⟨j,hj,rfl⟩:=T5 hu;have h1:j<l.length:=by grind
  exact (bw j l[j] _ (Ta h1) (by simp_all)).2
 grind
end
theorem Zin {t:Nat}:∀{l:List Nat},t∉l->Jk t l=l
 | [],_=>rfl
 | x::l,h=>by
  have h1:x≠t:=fun e=>h (by simp [e])
  have h2:=Zin (t:=t) (l:=l) (fun hm=>h (by simp [hm]));unfold Jk
  split
  ·simp_all
  rw [h2]
theorem ZnC {T:Tab} {h:Hole} {d:HoleD} {f:Frame} {σ:St} {K:Frame->St->Prop} (hd:ZnB h=some d) (hA:Zno T h f σ K) :
  ∃el rows zr row k tk0,(T.get d.t).kind=.slice el/\(T.get el).kind≠.other/\1<=(T.get el).size/\d.ts=el/\Ve T d.tx el (ev f d.z)=some [zr]/\ZjT (ev f d.x)=some row/\ev f d.ix=.d (.int k (rows.length:Nat)) /\
   zr.length=(T.get el).size/\row.length=(T.get el).size/\(rows.length+1) * (T.get el).bytes<=2 ^ 47/\rows.length+1<=2 ^ 47 /\
   ((∃e2,ev f d.s=.nils e2/\rows=[]/\tk0=σ.tk)\/∃tok,ev f d.s=.sl tok el rows/\tok∈σ.tk/\tk0=Jk tok σ.tk) /\
   K (Yk (Yk f (some d.da) (.sl (σ.nx+1) el (rows++[row]))) (some d.di) .undef) ⟨σ.bx,(σ.nx+1)::tk0,σ.nx+2⟩:=by
 obtain ⟨args,at',a1,a2,a3,a4,a5,a6,a7,a8,a9,_⟩:=Za0 hd;unfold Zno at hA
 simp only [a3,a4,a5,a1,a2,a8,a9,ZU,ZZ] at hA;split at hA
 ·rename_i el hk
  split at hA
  ·grind
  rename_i cu
  split at hA
  ·rename_i zr row k n h1 h2 h3 h4 h5
   split at hA
   ·rename_i h6 h7
    have e1:=Tb h1;have e2:=Tu h2;have e6:=Tu h6;have e7:=Tu h7;split at hA
    ·rename_i e0 hs
     obtain ⟨rfl,hb,hK⟩:=hA;exact ⟨el,[],zr,row,k,σ.tk,hk,fun h0=>cu h0,e1,e2,h3,h4,h5,e6,e7,hb,sM,.inl ⟨e0,hs,rfl,rfl⟩,hK⟩
    ·rename_i tok e0 rows hs
     split at hA
     ·rename_i g1 g2
      have:=Tu g2;subst this;obtain ⟨rfl,hb,dj,hK⟩:=hA;exact ⟨e0,rows,zr,row,k,Jk tok σ.tk,hk,fun h0=>cu h0,e1,e2,h3,h4,h5,e6,e7,hb,dj,.inr ⟨tok,hs,(Yq _ _).1 g1,rfl⟩,hK⟩
     simp_all
    simp_all
   simp_all
  simp_all
 simp_all
section
def WP {x:Operand} {ds:List Nat} (h:Zdd x ds=true) {a:Act} {d:Nat} (hd:d∈ds) (v:Value):(a.put (some d) v).eval x=a.eval x:=by
 cases x with
 | tmp t =>
  have:d≠t:=fun e=>by
   subst e;simp only [Zdd,TV] at h;rw [(Yq _ _).2 hd] at h;cases h
  simp [Act.put,Act.eval,Array.getD_eq_getD_getElem?,Array.getElem?_setIfInBounds,this]
 | _=>rfl
def ZlN {x:Operand} {ds:List Nat} (h:Zdd x ds=true) {f:Frame} {d:Nat} (hd:d∈ds) (v:PV):ev (Yk f (some d) v) x=ev f x:=by
 cases x with
 | tmp t =>
  have:d≠t:=fun e=>by
   subst e;simp only [Zdd,TV] at h;rw [(Yq _ _).2 hd] at h;cases h
  exact Y9 f v this
 | _=>rfl
def ZbH {a:Act} {d:Nat} (h:d<a.tmps.size) (v:Value):(a.put (some d) v).eval (.tmp d)=v:=by
 simp [Act.put,Act.eval,Array.getElem?_setIfInBounds,h]
def Zde {a:Act} {d k:Nat} (h:d≠k) (v:Value):(a.put (some d) v).eval (.tmp k)=a.eval (.tmp k):=by
 simp [Act.put,Act.eval,Array.getD_eq_getD_getElem?,Array.getElem?_setIfInBounds,h]
theorem Zth {a:Act} {d k:Nat} (h:d≠k) (v u:Value):(a.put (some d) v).put (some k) u=(a.put (some k) u).put (some d) v:=by
 simp only [Act.put,Act.mk.injEq,and_true]
 grind
def ZDY (a:Act) (di df:Nat) (vI vF:Value) (i f:Bool):Act :=
 let b:=match i with | true=>a.put (some di) vI | false=>a
 match f with | true=>b.put (some df) vF | false=>b
variable {G:GE} {C:Cx} {e0:Env} {σ0:St} {w0:World} {Q:PQ} {ro:Option Nat} {n:Nat} {ds:Nat×List Deferred×Bool} {N:Nat} {Z:Array Value->Prop}
theorem Zti (hC:CxOK G C ro e0 σ0 w0) {ops:Array Oper} (hd:∀o,o∈ops->∀d,o.dst=some d->d<N/\∀t v,Z t->Z (t.setIfInBounds d v)) {h:Hole} {D:HoleD} (hD:ZnB h=some D) {m:Nat} (h4:Hole4 ops m h.I h.S h.F h.H) (oA:ops[m]?=some h.A) (gA:h.A.guard=none)
  (eA:∀ed∈h.A.after,Region.binds .any ed=true->ed.on<m) (eIA:∃ed∈h.I.after,Region.binds .any ed=true/\ed.on=m) (eFA:∃ed∈h.F.after,Region.binds .any ed=true/\ed.on=m)
  {listed:Array Bool} {a:Act} {w:World} (hsz:listed.size=ops.size) (eu:∀k,k<ops.size->(listed.getD k false=true↔k<m)) (hp:ZM G e0 σ0 w0 ds N Z (Zo6 C ops.toList h Q) .normal a w) :
  wpAnyIn (fw ro) n G.P .any ops (ZM G e0 σ0 w0 ds N Z Q) 5 listed a w:=by
 have hT:=hC.tab;have acu:=h4.size;obtain ⟨pe,f,e,σ,hq,hx,hS,hF,hL,hN,ba,hZ⟩:=hp
 cases pe with
 | exit i=>cases hx
 | goto i=>cases hx
 | ret=>cases hx
 | panic p=>obtain ⟨_,hx,_⟩:=hx;cases hx
 | normal =>
 obtain ⟨args,at',a1,a2,a3,a4,a5,a6,a7,a8,a9,a10,a11,a12,b1,b2,b3,n1,n2,n3⟩:=Za0 hD;obtain ⟨el,rows,zr,row,kk,tk0,c1,c2,c3,c4,c5,c6,c7,c8,c9,c10,c11,c12,hK⟩:=ZnC hD hq;have jw:∀(j:Nat) (o:Oper) (d:Nat),ops[j]?=some o->o.dst=some d->d<N:=fun j o d ho oh=>(hd o (Sc ho) d oh).1
 have hdz:∀(j:Nat) (o:Oper) (d:Nat),ops[j]?=some o->o.dst=some d->∀t v,Z t->Z (t.setIfInBounds d v):=fun j o d ho oh=>(hd o (Sc ho) d oh).2
 have dA:=jw m _ _ oA a8;have dI:=jw _ _ _ h4.oI a9;have dF:=jw _ _ _ h4.oF a10;have hρ:∀x,VRel G e σ w (ev f x) (a.eval x):=fun x=>ZbC hF x
 obtain ⟨hDR,hO,bj,ahf⟩:DRel (okc e σ) w (.sl rows) (a.eval D.s)/\((a.eval D.s=.slice none 0 0/\rows=[])\/∃tok,tok∈σ.tk/\tok∉tk0/\Owned G e w tok el rows (a.eval D.s))/\(∀x,x∈tk0->x∈σ.tk)/\True:=by
  have hs:=hρ D.s;rcases c12 with ⟨e2,h1,rfl,rfl⟩ | ⟨tok,h1,h2,rfl⟩
  ·rw [h1] at hs;generalize a.eval D.s=v at hs
   cases hs with
   | nils _=>exact ⟨.slnil,.inl ⟨rfl,rfl⟩,fun _ h=>h,trivial⟩
  rw [h1] at hs;generalize a.eval D.s=v at hs
  cases hs with
  | sl _ _ _ _ hn hd ht=>exact ⟨hd,.inr ⟨tok,h2,fun hm=>((XO _ _ _).1 hm).2 rfl,ht h2⟩,fun x hx=>((XO _ _ _).1 hx).1,trivial⟩
 obtain ⟨w1,bb,off,cap,e1,zi,hcap,st1,S1,V1⟩:=Zkb (ty:=h.A.type) hT hS c1 c2 c3 hDR tk0 bj hO c5 (hρ D.z) c8 c10 c11;have acx:VRel G e1 _ w1 (ev f D.x) (a.eval D.x):=(hρ D.x).step st1;obtain ⟨dz,ko⟩:=Ztg acx c6;rw [c9] at dz;obtain ⟨q1,q2,q3,e2,st2,S2,V2⟩:=ZpB hT S1 c2 c3 V1 sM hcap dz;have gx:=hK;rw [YU] at gx;simp only [Y5,h4.gF] at gx;unfold XX at gx
 simp only [a6,YX,Zh4,Zni,qop,ZZ] at gx;rw [ZlN b3 sM,ZlN b3 sM] at gx;split at gx;rotate_left
 ·simp_all
 rename_i fs cp
 split at gx;rotate_left
 ·simp_all
 rename_i fo ft sd
 split at gx;rotate_left
 ·rename_i r oo bm
  rw [YU] at gx;simp only [Y5,h4.gH] at gx;unfold XX at gx
  simp only [a7,YX,eop,a10] at gx;have:ev (Yk (Yk (Yk f (some D.da) (.sl (σ.nx+1) el (rows++[row]))) (some D.di) .undef) (some D.df) (.elem r (oo+fo))) (.tmp D.df)=.elem r (oo+fo):=Yw _ _ _
  simp_all
 ·simp_all
 rename_i b oo acy
 rw [YU] at gx;simp only [Y5,h4.gH] at gx;unfold XX at gx
 simp only [a7,YX,eop,a10,ZU,ZZ] at gx;generalize hf4:Yk (Yk (Yk f (some D.da) (.sl (σ.nx+1) el (rows++[row]))) (some D.di) .undef) (some D.df) (.ptr b (oo+fo))=f4 at gx;have k1:ev f4 (.tmp D.df)=.ptr b (oo+fo):=by rw [<- hf4];exact Yw _ _ _
 have k2:ev f4 (.tmp D.da)=.sl (σ.nx+1) el (rows++[row]):=by
  rw [<- hf4];show Va (Va (Va f D.da _) D.di _) D.df _ D.da=_;rw [Y9 _ _ (Ne.symm n2),Y9 _ _ (Ne.symm n1),Yw]
 rw [k1,k2] at gx;simp only [asT,PV.cells] at gx;split at gx;rotate_left
 ·exact gx.elim
 rename_i ty cs d8
 split at gx
 ·exact gx.elim
 rotate_left
 ·exact gx.elim
 rename_i l1 l2 l3
 rw [a12] at gx;have hth:(C.T.get D.th).size=1:=(Tu l1).symm;have io:oo+fo+1<=cs.length:=Tb l2;have xn:=hρ D.xf;rw [acy] at xn;generalize hvx:a.eval D.xf=vx at xn
 cases xn with
 | ptr _ _ dc =>
 have xq:e1.β b=e.β b:=st1.beta b dc;have lu:e.β b≠bb:=by rw [<- xq];exact q3 b dc
 obtain ⟨vs,m9,ou,_⟩:=S1.box b _ d8;rw [xq] at m9
 let v':Value:=.slice (some ⟨bb,off,none⟩) (rows.length+1) cap
 let oS:=off+rows.length * (C.T.get el).size
 let us:=(a.eval D.x).cells.toList
 let vI:Value:=.pointer (some ⟨bb,oS,none⟩)
 let vF:Value:=.pointer (some ⟨e.β b,oo+fo,none⟩)
 let WW:Bool->Bool->World:=fun s g =>
  let u:=match s with | true=>w1.setCells bb oS us | false=>w1
  match g with | true=>u.setCells (e.β b) (oo+fo) [v'] | false=>u
 have hNA:D.da<a.tmps.size:=oM;have hNI:∀v:Value,D.di<(a.put (some D.da) v).tmps.size:=fun v=>by rw [Yr,hN];exact dI
 let A0:=a.put (some D.da) v'
 let AA:=ZDY A0 D.di D.df vI vF
 have evA:∀i g,(AA i g).eval (.tmp D.da)=v':=fun i g=>by
  cases i <;> cases g
  ·exact ZbH hNA v'
  ·exact (Zde (Ne.symm n2) vF).trans (ZbH hNA v')
  ·exact (Zde (Ne.symm n1) vI).trans (ZbH hNA v')
  exact (Zde (Ne.symm n2) vF).trans ((Zde (Ne.symm n1) vI).trans (ZbH hNA v'))
 have evX:∀x,Zdd x [D.da,D.di,D.df]=true->∀i g,(AA i g).eval x=a.eval x:=fun x hx i g=>by
  have h1:=WP hx (a:=a) (d:=D.da) sM v'
  cases i <;> cases g
  ·exact h1
  ·exact (WP hx (d:=D.df) sM vF).trans h1
  ·exact (WP hx (d:=D.di) sM vI).trans h1
  exact (WP hx (d:=D.df) sM vF).trans ((WP hx (d:=D.di) sM vI).trans h1)
 have evI:∀g,(AA true g).eval (.tmp D.di)=vI:=fun g=>by
  cases g
  ·exact ZbH (hNI v') vI
  exact (Zde (Ne.symm n3) vF).trans (ZbH (hNI v') vI)
 have evF:∀i,(AA i true).eval (.tmp D.df)=vF:=fun i=>by
  cases i
  ·exact ZbH (by rw [Yr,hN];exact dF) vF
  exact ZbH (by rw [Yr,Yr,hN];exact dF) vF
 have ac0:a.eval D.ix=.int kk (rows.length:Nat):=by
  have:=hρ D.ix;rw [c7] at this;exact this.dint
 have huw:∀(u:World),(∀k,k≠e.β b->u.heap[k]?=w1.heap[k]?)->(∀j,j<us.length->(u.cell? ⟨bb,oS+j,none⟩).isSome=true)/\(∀j,j<us.length->u.frozen? ⟨bb,oS+j,none⟩=false):=fun u hu=>by
  have h1:=hu bb (Ne.symm lu);exact ⟨fun j hj=>by have:=q1 j hj;simpa [World.cell?,h1] using this,fun j hj=>by have:=q2 j hj;simpa [World.frozen?,h1] using this⟩
 have hfw:∀(u:World),(∀k,k≠bb->u.heap[k]?=w1.heap[k]?)->(∀j,j<v'.cells.toList.length->(u.cell? ⟨e.β b,oo+fo+j,none⟩).isSome=true)/\(∀j,j<v'.cells.toList.length->u.frozen? ⟨e.β b,oo+fo+j,none⟩=false):=fun u hu=>by
  have h1:=(hu (e.β b) lu).trans m9;refine ⟨fun j hj=>?_,fun j hj=>by simp [World.frozen?,h1]⟩;have:j<1:=hj;have:oo+fo+j<vs.size:=oM;simp [World.cell?,h1,this]
 have cq:=(YJ bb us oS w1).2.2.2;have fd:=(YJ (e.β b) [v'] (oo+fo) w1).2.2.2;have rS:∀f' h',(h'=true->f'=true)->(execOp (AA true f').eval h.S).run G.P (WW false h')=.ok .skip (WW true h'):=fun f' h' _=>by
  have hx:(AA true f').eval D.x=a.eval D.x:=evX _ b2 _ _
  cases h' with
  | false =>
   obtain ⟨g1,g2⟩:=huw w1 (fun _ _=>rfl);exact Vj hT (by simp_all) (by rw [c4];simpa using dz.len) g1 g2 ko a5 (evI f') hx
  | true =>
  obtain ⟨g1,g2⟩:=huw (WW false true) fd;have:=Vj (w:=WW false true) hT (by simp_all) (by rw [c4];simpa using dz.len) g1 g2 ko a5 (evI f') hx;rw [this];show Result.ok Next.skip ((w1.setCells (e.β b) (oo+fo) [v']).setCells bb oS us)=.ok .skip ((w1.setCells bb oS us).setCells (e.β b) (oo+fo) [v']);rw [J9 lu]
 have rH:∀i s,(s=true->i=true)->(execOp (AA i true).eval h.H).run G.P (WW s false)=.ok .skip (WW s true):=fun i s _=>by
  cases s with
  | false =>
   obtain ⟨g1,g2⟩:=hfw w1 (fun _ _=>rfl);exact Vj hT (fun h0=>l3 h0) (by rw [hth];rfl) g1 g2 (fun u hu=>by simp [v',Value.cells] at hu;subst hu;rfl) a7 (evF i) (evA i true)
  | true =>
  obtain ⟨g1,g2⟩:=hfw (WW true false) cq;exact Vj (w:=WW true false) hT (fun h0=>l3 h0) (by rw [hth];rfl) g1 g2 (fun u hu=>by simp [v',Value.cells] at hu;subst hu;rfl) a7 (evF i) (evA i true)
 have rI:∀f' h',(h'=true->f'=true)->(execOp (AA false f').eval h.I).run G.P (WW false h')=.ok (.value vI) (WW false h'):=fun f' h' _=>by
  have:=Zke hT c1 c2 a4 (evA false f') ((evX _ b1 false f').trans ac0) oM oM (WW false h')
  assumption
 have rF:∀i s,(s=true->i=true)->(execOp (AA i false).eval h.F).run G.P (WW s false)=.ok (.value vF) (WW s false):=fun i s _ =>
  Zkd hT cp sd a6 ((evX _ b3 i false).trans hvx) (WW s false)
 have pI:∀f',(AA false f').put h.I.dst vI=AA true f':=fun f'=>by
  rw [a9]
  cases f'
  ·rfl
  exact Zth (Ne.symm n3) vF vI
 have pF:∀i,(AA i false).put h.F.dst vF=AA i true:=fun i=>by rw [a10];rfl
 have pS:∀f',(AA true f').put h.S.dst Go.undef=AA true f':=fun f'=>by rw [a11];rfl
 have pH:∀i,(AA i true).put h.H.dst Go.undef=AA i true:=fun i=>by rw [a12];rfl
 have me:ZM G e0 σ0 w0 ds N Z Q .normal (AA true true) (WW true true):=by
  have hβ2:e2.β b=e.β b:=(st2.beta b (by exact dc)).trans xq;have F1:=(hF.step st1).step st2;have F2:=FRel.put (a:=a) (d:=some D.da) F1 V2 (fun i hi=>by simp_all);have F3:=FRel.put (a:=a.put (some D.da) v') (d:=some D.di) F2 (.undef vI) (fun i hi=>by simp_all);have F4:=FRel.put (a:=(a.put (some D.da) v').put (some D.di) vI) (d:=some D.df) (x:=.ptr b (oo+fo)) (v:=vF) F3 (by
   have:=VRel.ptr (G:=G) (e:=e2) (σ:=⟨σ.bx,(σ.nx+1)::Jk σ.nx (σ.nx::tk0),σ.nx+1+1⟩) (w:=w1.setCells bb oS us) b (oo+fo) dc
   grind) (fun i hi=>by cases hi;rw [Yr,Yr,hN];exact dF)
  have cd:Jk σ.nx (σ.nx::tk0)=tk0:=by
   have ac1:σ.nx∉tk0:=fun hm=>by have:=hS.tkn _ (bj _ hm);omega
   unfold Jk
   split
   ·exact Zin ac1
   simp_all
  have hsq:(⟨σ.bx,(σ.nx+1)::Jk σ.nx (σ.nx::tk0),σ.nx+1+1⟩:St)=⟨σ.bx,(σ.nx+1)::tk0,σ.nx+2⟩:=by rw [cd]
  obtain ⟨w4,sr,st4,S4⟩:=Jq (x:=.sl (σ.nx+1) el (rows++[row])) (v:=v') (t:=D.th) hT S2 d8 V2 rfl (by grind) io (fun h0=>l3 h0);have jx:w4=WW true true:=by
   have h1:=rH true true (fun _=>rfl);unfold execOp at h1
   rw [hβ2] at sr;have h2:(AA true true).eval (.tmp D.df)=.pointer (some ⟨e.β b,oo+fo,none⟩):=evF true;have h3:(AA true true).eval (.tmp D.da)=v':=evA true true;have ac3:(Instr.storeAt D.th (.pointer (some ⟨e.β b,oo+fo,none⟩)) v').run G.P (WW true false)=.ok () w4:=sr
   simp_all
  subst jx;refine ⟨.normal,_,e2,_,gx,rfl,by simp_all,?_,(((hL.trans st1.toLater).trans st2.toLater).trans (by rw [<- hsq];exact st4.toLater)),?_,?_,?_⟩
  ·have F5:=F4.step st4;rw [hsq] at F5;rw [<- hf4];exact F5
  ·show (((a.put (some D.da) v').put (some D.di) vI).put (some D.df) vF).tmps.size=N;rw [Yr,Yr,Yr,hN]
  ·show Marks ds _ _ _ (((a.put (some D.da) v').put (some D.di) vI).put (some D.df) vF).defers;rw [Y4,Y4,Y4,<- hsq];exact ((ba.later st1.toLater).later st2.toLater).later st4.toLater
  exact hdz _ _ _ h4.oF a10 _ _ (hdz _ _ _ h4.oI a9 _ _ (hdz _ _ _ oA a8 _ _ hZ))
 have ni:∀i b,i<ops.size->listed.getD i b=listed.getD i false:=fun i b hi=>by
  simp_all
 have zj:∀k,k<ops.size->m<=k->listed.getD k false=false:=fun k hk hm=>by
  grind
 refine ⟨fun hr=>?_,fun j hj=>?_⟩
 ·exfalso;have:m∈Region.ready .any ops listed:=mem_ready.2 ⟨by simp_all,h.A,oA,fun ed he hb=>(eu _ (by grind)).2 (eA ed he hb)⟩;rw [hr] at this;cases this
 obtain ⟨h1,o,ho,co⟩:=mem_ready.1 hj;have aa:=(Tv.1 ho).1;rw [ni _ _ aa] at h1;have hjm:j=m:=by
  have ey:m<=j:=by
   apply Classical.byContradiction
   intro hn
   rw [(eu j aa).2 oM] at h1;cases h1
  have no:∀(o':Oper) (q:Nat),o=o'->(∃ed∈o'.after,Region.binds .any ed=true/\ed.on=q)->m<=q->q<ops.size->False:=fun o' q cz ge ui nh=>by
   grind
  apply Classical.byContradiction
  intro ai
  have:j=m+1\/j=m+2\/j=m+3\/j=m+4:=oM;rcases this with rfl | rfl | rfl | rfl
  ·rw [h4.oI] at ho;grind
  ·rw [h4.oS] at ho;exact no h.S (m+1) (Option.some.inj ho).symm h4.eSI oM oM
  ·rw [h4.oF] at ho;grind
  rw [h4.oH] at ho;exact no h.H (m+3) (Option.some.inj ho).symm h4.eHF oM oM
 subst hjm;have ac4:∀c,h.A.op≠.defer c:=fun c hc=>by simp_all
 have ac5:(execOp a.eval h.A).run G.P w=.ok (.value v') w1:=by
  have ab:args=#[D.s,D.z]:=by grind
  have ac6:at'=#[D.t,D.tx]:=by rw [<- Array.toArray_toList (xs:=at'),a2]
  subst ab;subst ac6;unfold execOp
  simp only [a3,resolve,invoke,builtin,Sem.run_bind,Sem.run_pure,Result.andThen];rw [show Array.map a.eval #[D.s,D.z]=#[a.eval D.s,a.eval D.z] from sM,zi]
 refine Zdc oA gA ac4 (.inl ac5) ?_;rw [a8];refine ZDX h4 (A:=AA) (W:=WW) rI pI rF pF rS pS rH pH me 4 false false false false rfl (fun h=>by cases h) (fun h=>by cases h) _ (by simpa using hsz) fun q hq=>?_
 by_cases hqm:q=j
 ·subst hqm;have ur:q<listed.size:=by rw [hsz];exact hq
  simp [Array.getD,ur]
 have:(listed.setIfInBounds j true).getD q false=listed.getD q false:=getD_set_ne false (Ne.symm hqm);rw [this,eu q hq]
 constructor
 ·intro h;exact ⟨oM,oM,oM,oM⟩
 rintro ⟨x1,x2,x3,x4⟩
 have g1:q≠j+1:=fun e=>by cases x1 e
 have g2:q≠j+2:=fun e=>by cases x2 e
 have g3:q≠j+3:=fun e=>by cases x3 e
 have g4:q≠j+4:=fun e=>by cases x4 e
 omega
theorem XA {m:Nat} {l:List Edge} (h:Jw m l=true):∃ed∈l,Region.binds .any ed=true/\ed.on=m:=by
 simp only [Jw,List.any_eq_true,Tl] at h
 simp_all
def Zdf {l:List Edge}:∀{n:Nat},ZlM n l=true->∀p,p<n->∃ed∈l,Region.binds .any ed=true/\ed.on=p
 | 0,_,p,hp=>oM
 | n+1,h,p,hp=>by
  simp only [ZlM,Tl] at h
  by_cases hpn:p=n
  ·subst hpn;exact XA h.1
  exact Zdf h.2 p oM
theorem Xr {m:Nat} {l:List Edge} (h:VY m l=true):∀ed∈l,Region.binds .any ed=true->ed.on<=m:=fun ed he hb=>by
 have:=Tn.1 h ed he
 simp_all
theorem XB {o:Oper} (h:Jv o=true):o.guard=none:=by
 unfold Jv at h
 grind
theorem ZnD (hC:CxOK G C ro e0 σ0 w0) (hM:CxMono C) {ops:Array Oper} (hd:∀o,o∈ops->∀d,o.dst=some d->d<N/\∀t v,Z t->Z (t.setIfInBounds d v)) {h:Hole} (hh:Zfe ops.toList=some h) (ak:ZpC ops.toList h=true)
  {e:Env} {σ:St} {w:World} {a:Act} {f:Frame} (hS:SRel G e σ w) (hF:FRel G e σ w f a.tmps) (hL:Later e0 σ0 w0 e σ w) (hN:a.tmps.size=N) (ba:Marks ds e σ w a.defers) (hZ:Z a.tmps)
  (hW:Wg C ops.toList (Wu ops.toList []) (Zo6 C ops.toList h Q) (VC h.pre.length (ZI 0 h.pre)) [] f σ) :
  wpAnyIn (fw ro) n G.P .any ops (ZM G e0 σ0 w0 ds N Z Q) ops.size (Array.replicate ops.size false) a w:=by
 have ky:=Zkc hh;simp only [ZpC,Tl] at ak;obtain ⟨⟨⟨⟨⟨⟨⟨⟨⟨⟨⟨⟨⟨⟨⟨⟨⟨⟨⟨⟨k1,k2⟩,k3⟩,k4⟩,k5⟩,k6⟩,k7⟩,k8⟩,k9⟩,k10⟩,k11⟩,k12⟩,k13⟩,k14⟩,k15⟩,k16⟩,k17⟩,k18⟩,k19⟩,k20⟩,k21⟩:=ak
 cases hD:ZnB h with
 | none=>simp_all
 | some D =>
 obtain ⟨args,at',a1,a2,a3,a4,a5,a6,a7,a8,a9,a10,a11,a12,b1,b2,b3,n1,n2,n3⟩:=Za0 hD;generalize hm:h.pre.length=m at *;have dl:ops.size=m+5:=by rw [<- Array.length_toList,ky];simp [hm]
 have at5:∀k,k<5->ops[m+k]?=[h.A,h.I,h.S,h.F,h.H][k]?:=fun k hk=>by
  rw [<- TG,ky,Se oM,hm];simp
 have oA:ops[m]?=some h.A:=at5 0 oM;have h4:Hole4 ops m h.I h.S h.F h.H:={
  size:=dl
  oI:=at5 1 oM
  oS:=at5 2 oM
  oF:=at5 3 oM
  oH:=at5 4 oM
  gI:=XB k3
  gS:=XB k4
  gF:=XB k5
  gH:=XB k6
  nI:=fun c hc=>by simp_all
  nS:=fun c hc=>by simp_all
  nF:=fun c hc=>by simp_all
  nH:=fun c hc=>by simp_all
  eI:=fun ed he hb=>Xr k7 ed (TS.1 he) hb
  eF:=fun ed he hb=>Xr k8 ed (TS.1 he) hb
  eS:=fun ed he hb=>Xr k9 ed (TS.1 he) hb
  eH:=fun ed he hb=>by
   have:=Tn.1 k10 ed (TS.1 he)
   simp_all
  eSI:=let ⟨ed,h1,h2⟩:=XA k11;⟨ed,TS.2 h1,h2⟩
  eHF:=let ⟨ed,h1,h2⟩:=XA k12;⟨ed,TS.2 h1,h2⟩ }
 have eIA:∃ed∈h.I.after,Region.binds .any ed=true/\ed.on=m:=let ⟨ed,h1,h2⟩:=XA k13;⟨ed,TS.2 h1,h2⟩;have eFA:∃ed∈h.F.after,Region.binds .any ed=true/\ed.on=m:=let ⟨ed,h1,h2⟩:=XA k14;⟨ed,TS.2 h1,h2⟩;have xe:1<=m:=Tb k17;have eA:∀ed∈h.A.after,Region.binds .any ed=true->ed.on<m:=fun ed he hb=>by
  cases m with
  | zero=>omega
  | succ k=>have:=Xr k16 ed (TS.1 he) hb;omega
 have dh:∀p∈VC m (ZI 0 h.pre),p.1<m/\ops[p.1]?=some p.2:=fun p hp=>by
  have h1:=(Xy (UC hp)).2;simp only [Nat.sub_zero] at h1;have h2:=(To.1 h1).1;rw [hm] at h2;exact ⟨h2,by rw [<- TG,ky,T4 oM];exact h1⟩
 have qy:∀k,k<m->∃p∈VC m (ZI 0 h.pre),p.1=k:=fun k hk=>Jt k20 k hk
 have hlen:(VC m (ZI 0 h.pre)).length=m:=Tu k18;have:=Zft (n:=n) hC hM hd (m:=m) (t:=5) (QQ:=ZM G e0 σ0 w0 ds N Z Q) (ms:=Wu ops.toList []) (fun i o hi ho=>by
   obtain ⟨p,hp,rfl⟩:=qy i hi;have:=(dh p hp).2;rw [ho] at this
   cases this
   exact Wk k21 p hp) dl (fun j o hj ho=>by
   have aa:=(Tv.1 ho).1;have:j=m\/j=m+1\/j=m+2\/j=m+3\/j=m+4:=oM;rcases this with rfl | rfl | rfl | rfl | rfl
   ·rw [oA] at ho;cases ho;exact .inl fun p hp=>let ⟨ed,h1,h2⟩:=Zdf k15 p hp;⟨ed,TS.2 h1,h2⟩
   ·grind
   ·rw [h4.oS] at ho;cases ho;obtain ⟨ed,h1,h2,h3⟩:=h4.eSI
    grind
   ·grind
   rw [h4.oH] at ho;cases ho;obtain ⟨ed,h1,h2,h3⟩:=h4.eHF
   grind)
  (fun x a w hx hp=>by
   cases x with
   | normal=>simp_all
   | _ =>
   obtain ⟨pe,f',e',σ',hq,ii,au⟩:=hp;refine ⟨pe,f',e',σ',?_,ii,au⟩
   cases pe <;> first | exact hq | trivial | (obtain ⟨_,ii,_⟩:=ii;cases ii))
  (fun listed a w hsz eu hp=>Zti hC hd hD h4 oA (XB k2) eA eIA eFA hsz eu hp)
  m (VC m (ZI 0 h.pre)) hlen (fun p hp=>(dh p hp).1) (fun p hp=>(dh p hp).2) (X2 k19).1 (fun p hp e he hb=>(X2 k19).2 p hp e he hb)
  (listed:=Array.replicate ops.size false) sM (fun k hk=>by
   simp_all) (fun j hjm hj p hp=>by
   grind) hS hF hL hN ba hZ hW
 simp_all
end
end Go.PM
end

section
namespace Go.PM
theorem waits_iff {o:Oper}:∀{left:List (Nat×Oper)},WI o left=true↔∃p∈left,∃ed∈o.after,Region.binds .any ed=true/\ed.on=p.1
 | []=>by simp [WI]
 | (i,p)::l=>by
  unfold WI
  rw [Sk,waits_iff (left:=l)]
  constructor
  ·rintro (h | ⟨q,hq,h⟩)
   ·simp only [List.any_eq_true,Tl] at h
    simp_all
   grind
  rintro ⟨q,hq,ed,h1,h2,h3⟩
  rcases Tr.1 hq with rfl | hq
  ·left
   simp only [List.any_eq_true,Tl];exact ⟨ed,TS.1 h1,h2,by simp_all⟩
  grind
theorem WQ {left:List (Nat×Oper)}:∀{l:List (Nat×Oper)} {p:Nat×Oper},Zgm left l=some p->p∈l/\YX p.2.op=false/\WI p.2 left=false
 | [],p,h=>by cases h
 | (i,o)::l,p,h=>by
  unfold Zgm at h
  split at h
  ·grind
  obtain ⟨h1,h2⟩:=WQ h;simp_all
theorem Za1 {left:List (Nat×Oper)}:∀{l:List (Nat×Oper)},Zgm left l=none->∀p∈l,YX p.2.op=false->WI p.2 left=true
 | [],h,p,hp,_=>by cases hp
 | (i,o)::l,h,p,hp,he=>by
  unfold Zgm at h
  split at h
  ·cases h
  rename_i je
  rcases Tr.1 hp with rfl | hp
  ·simp_all
  exact Za1 h p hp he
theorem conjE_iff {left:List (Nat×Oper)} {X:Nat->Oper->Prop}:∀{l:List (Nat×Oper)},Znk left l X↔∀p∈l,WI p.2 left=false->X p.1 p.2
 | []=>by simp [Znk]
 | (i,o)::l=>by
  unfold Znk
  cases hw:WI o left with
  | true=>simp only [conjE_iff (l:=l)];simp_all
  | false=>simp only [conjE_iff (l:=l)];simp_all
theorem XC {i:Nat}:∀{l:List (Nat×Oper)},l.Pairwise (fun a b=>a.1≠b.1)->∀p,p∈Yp i l↔p∈l/\p.1≠i
 | [],_,p=>by simp [Yp]
 | (j,o)::l,hp,p=>by
  have h1:=List.pairwise_cons.1 hp;unfold Yp
  split
  ·rename_i hb
   have:=Tu hb
   grind
  rename_i hb
  have ai:i≠j:=fun e=>by simp_all
  rw [Tr,Tr,XC h1.2]
  grind
def ZlO {i:Nat}:∀{l:List (Nat×Oper)},l.Pairwise (fun a b=>a.1≠b.1)->(Yp i l).Pairwise (fun a b=>a.1≠b.1)
 | [],h=>h
 | (j,o)::l,h=>by
  have h1:=List.pairwise_cons.1 h;unfold Yp
  split
  ·exact h1.2
  exact List.Pairwise.cons (fun p hp=>h1.1 p (Yx hp)) (ZlO h1.2)
theorem WS {i:Nat} {o:Oper}:∀{l:List (Nat×Oper)},(i,o)∈l->(Yp i l).length+1=l.length
 | [],h=>by cases h
 | (j,p)::l,h=>by
  unfold Yp
  split
  ·rfl
  rename_i hb
  rcases Tr.1 h with h | h
  ·simp_all
  rw [Tf,WS h];rfl
theorem Za2 {i j:Nat}:∀{l:List (Nat×Oper)},Yp i (Yp j l)=Yp j (Yp i l)
 | []=>rfl
 | (k,o)::l=>by
  by_cases h1:j=k
  ·subst h1
   by_cases h2:i=j
   ·grind
   have hb:Nat.beq i j=false:=by cases h:Nat.beq i j with | false=>rfl | true=>simp_all
   simp [Yp,hb]
  have hb:Nat.beq j k=false:=by cases h:Nat.beq j k with | false=>rfl | true=>simp_all
  by_cases h2:i=k
  ·subst h2;simp [Yp,hb]
  have hc:Nat.beq i k=false:=by cases h:Nat.beq i k with | false=>rfl | true=>simp_all
  simp [Yp,hb,hc,Za2 (l:=l)]
section
variable {C:Cx} {all:List Oper} {ms:List Nat} {Q:PQ} {f:Frame} {σ:St}
theorem UE (hM:CxMono C) {i:Nat} {o:Oper} {ctx:List Ld} {K K':List Ld->Frame->St->Prop} (hK:∀c f σ,K c f σ->K' c f σ) (h:XY C all ms Q i o ctx f σ K):XY C all ms Q i o ctx f σ K':=by
 unfold XY at h |-
 refine ZaW hM (fun f' σ' hk=>?_) h
 cases hE:YX o.op with
 | true=>simp only [hE] at hk |-;rw [chkL_iff] at hk |-;simp_all
 | false=>simp_all
def Zaa (hM:CxMono C):∀(n:Nat) (l:List (Nat×Oper)) (c c':List Ld) (f:Frame) (σ:St),(∀d,d∈c'->d∈c)->XZ C all ms Q n l c f σ->XZ C all ms Q n l c' f σ
 | 0,[],_,_,_,_,_,h=>h
 | _+1,[],_,_,_,_,_,h=>h
 | 0,_::_,_,_,_,_,_,h=>h.elim
 | n+1,x::l,c,c',f,σ,hs,h=>by
  unfold XZ at h |-
  split at h
  ·exact Zc7 hM hs (fun c c' f σ=>Zaa hM n _ c c' f σ) h
  rw [conjE_iff] at h |-;exact fun p hp hw=>Zc7 hM hs (fun c c' f σ=>Zaa hM n _ c c' f σ) (h p hp hw)
structure Rem (all:List Oper) (ms:List Nat) (L:List (Nat×Oper)):Prop where
 pw:L.Pairwise (fun a b=>a.1≠b.1)
 msk:∀p∈L,ms.getD p.1 0=U2 ms p.2.after.toList 0
 apart:∀p∈L,∀q∈L,p.1≠q.1->YX p.2.op=false->anc ms p.1 q.1=false->anc ms q.1 p.1=false->ZbF all p.2 q.2=true
 down:∀j,(∀p∈L,p.1≠j)->∀q∈L,anc ms q.1 j=false
theorem Rem.noanc {L:List (Nat×Oper)} (h:Rem all ms L) {p:Nat×Oper} (hp:p∈L) (hw:WI p.2 L=false):∀q∈L,anc ms q.1 p.1=false:=fun q hq=>by
 cases ha:anc ms q.1 p.1 with
 | false=>rfl
 | true =>
 exfalso;unfold anc at ha
 rw [h.msk p hp] at ha;rcases WO ha with h2 | ⟨ed,he,hb,h2⟩
 ·simp at h2
 have je:∀x∈L,x.1≠ed.on:=fun x hx e=>by
  have:WI p.2 L=true:=waits_iff.2 ⟨x,hx,ed,TS.2 he,hb,e.symm⟩
  simp_all
 rcases h2 with h2 | h2
 ·grind
 rw [h.down ed.on je q hq] at h2;cases h2
def Rem.drop {L:List (Nat×Oper)} (h:Rem all ms L) {p:Nat×Oper} (hp:p∈L) (hw:WI p.2 L=false):Rem all ms (Yp p.1 L) where
 pw:=ZlO h.pw
 msk:=fun q hq=>h.msk q (Yx hq)
 apart:=fun a ha b hb=>h.apart a (Yx ha) b (Yx hb)
 down:=fun j hj q hq=>by
  by_cases hjp:j=p.1
  ·subst hjp;exact h.noanc hp hw q (Yx hq)
  refine h.down j (fun x hx e=>?_) q (Yx hq);exact hj x ((XC h.pw x).2 ⟨hx,fun e2=>hjp (e.symm.trans e2)⟩) e
def UF {o:Oper} {i:Nat} {L:List (Nat×Oper)} (h:WI o L=false):WI o (Yp i L)=false:=by
 cases hw:WI o (Yp i L) with
 | false=>rfl
 | true =>
 obtain ⟨p,hp,hr⟩:=waits_iff.1 hw;rw [waits_iff.2 ⟨p,Yx hp,hr⟩] at h;cases h
theorem ZpD {L:List (Nat×Oper)} (h:L.Pairwise (fun a b=>a.1≠b.1)) {p q:Nat×Oper} (hp:p∈L) (hq:q∈L) (he:p.1=q.1):p=q:=by
 induction L with
 | nil=>cases hp
 | cons x l ih =>
 have h1:=List.pairwise_cons.1 h
 grind
theorem ZpE (hM:CxMono C):∀(k:Nat),(∀(L:List (Nat×Oper)),L.length=k+1->Rem all ms L->∀p∈L,WI p.2 L=false->∀ctx f σ,XZ C all ms Q (k+1) L ctx f σ->XY C all ms Q p.1 p.2 ctx f σ (XZ C all ms Q k (Yp p.1 L))) /\
  (∀(L:List (Nat×Oper)),L.length=k+1->Rem all ms L->∀p∈L,YX p.2.op=false->WI p.2 L=false->∀ctx f σ,XY C all ms Q p.1 p.2 ctx f σ (XZ C all ms Q k (Yp p.1 L))->XZ C all ms Q (k+1) L ctx f σ):=by
 intro k
 induction k with
 | zero =>
  have one:∀(L:List (Nat×Oper)),L.length=0+1->∀p∈L,L=[p]:=fun L hl p hp=>by
   cases L with
   | nil=>cases hp
   | cons x l =>
   simp_all
  refine ⟨fun L hl hR p hp hw ctx f σ h=>?_,fun L hl hR p hp he hw ctx f σ h=>?_⟩
  ·obtain rfl:=one L hl p hp;unfold XZ at h
   split at h
   ·rename_i i o l8
    have:=(WQ l8).1
    grind
   exact (conjE_iff.1 h) p hp hw
  obtain rfl:=one L hl p hp;unfold XZ
  split
  ·rename_i i o l8
   have:=(WQ l8).1
   grind
  rename_i l8
  have:=Za1 l8 p hp he
  simp_all
 | succ k ih =>
 obtain ⟨ihA,ihB⟩:=ih;refine ⟨fun L hl hR p hp hw ctx f σ h=>?_,fun L hl hR p hp he hw ctx f σ h=>?_⟩
 ·cases L with
  | nil=>cases hp
  | cons x l =>
  unfold XZ at h
  split at h
  ·rename_i j q l8
   obtain ⟨g1,g2,g3⟩:=WQ l8
   by_cases hj:j=p.1
   ·have:=ZpD hR.pw g1 hp hj
    grind
   have hpd:p∈Yp j (x::l):=(XC hR.pw p).2 ⟨hp,fun e=>hj e.symm⟩;have hjd:(j,q)∈Yp p.1 (x::l):=(XC hR.pw (j,q)).2 ⟨g1,hj⟩;have hlen:(Yp j (x::l)).length=k+1:=by have:=WS g1;omega
   have gf:(Yp p.1 (x::l)).length=k+1:=by have:=WS (o:=p.2) hp;omega
   have h2:=UE hM (fun c f σ hk=>ihA _ hlen (hR.drop g1 g3) p hpd (UF hw) c f σ hk) h;have h3:=ZDW hM (fun c c' f σ=>Zaa hM k _ c c' f σ) g2 (hR.apart _ g1 _ hp hj g2 (hR.noanc hp hw _ g1) (hR.noanc g1 g3 _ hp)) (hR.noanc hp hw _ g1) h2;rw [Za2] at h3;exact UE hM (fun c f σ hk=>ihB _ gf (hR.drop hp hw) (j,q) hjd g2 (UF g3) c f σ hk) h3
  exact (conjE_iff.1 h) p hp hw
 cases L with
 | nil=>cases hp
 | cons x l =>
 unfold XZ
 split
 ·rename_i j q l8
  obtain ⟨g1,g2,g3⟩:=WQ l8
  by_cases hj:j=p.1
  ·have:=ZpD hR.pw g1 hp hj
   grind
  have hpd:p∈Yp j (x::l):=(XC hR.pw p).2 ⟨hp,fun e=>hj e.symm⟩;have hjd:(j,q)∈Yp p.1 (x::l):=(XC hR.pw (j,q)).2 ⟨g1,hj⟩;have hlen:(Yp j (x::l)).length=k+1:=by have:=WS g1;omega
  have gf:(Yp p.1 (x::l)).length=k+1:=by have:=WS (o:=p.2) hp;omega
  have h2:=UE hM (fun c f σ hk=>ihA _ gf (hR.drop hp hw) (j,q) hjd (UF g3) c f σ hk) h;have h3:=ZDW hM (fun c c' f σ=>Zaa hM k _ c c' f σ) he (hR.apart _ hp _ g1 (fun e=>hj e.symm) he (hR.noanc g1 g3 _ hp) (hR.noanc hp hw _ g1)) (hR.noanc g1 g3 _ hp) h2;rw [Za2] at h3;exact UE hM (fun c f σ hk=>ihB _ hlen (hR.drop g1 g3) p hpd he (UF hw) c f σ hk) h3
 rename_i l8
 have:=Za1 l8 p hp he
 simp_all
end
def ZwT (i:Nat) (l:List Edge):Bool:=l.all fun ed=>!(Region.binds .any ed) || Nat.ble (ed.on+1) i
def Ztj (all:List Oper) (ms:List Nat) (L:List (Nat×Oper)):Bool :=
 L.all fun p=>L.all fun q=>Nat.beq p.1 q.1 || YX p.2.op || anc ms p.1 q.1 || anc ms q.1 p.1 || ZbF all p.2 q.2
def ZwU (ops:List Oper):Bool :=
 let ms:=Wu ops []
 let L:=ZI 0 ops
 ZaZ ms L && (L.all fun p=>ZwT p.1 p.2.after.toList) && Ztj ops ms L
def Zdg:∀{l:List Oper} {i:Nat},(ZI i l).Pairwise (fun a b=>a.1≠b.1)
 | [],_=>List.Pairwise.nil
 | o::l,i=>List.Pairwise.cons (fun p hp=>by have:=(Xy hp).1;omega) Zdg
def ZbI:∀{l:List Oper} {i:Nat},(ZI i l).length=l.length
 | [],_=>rfl
 | o::l,i=>by simp [ZI,ZbI (l:=l)]
theorem ZbJ:∀{l:List Oper} {i k:Nat} {o:Oper},l[k]?=some o->(i+k,o)∈ZI i l
 | [],_,_,_,h=>by simp at h
 | x::l,i,k,o,h=>by
  unfold ZI
  cases k with
  | zero=>simp_all
  | succ k =>
  have:=ZbJ (l:=l) (i:=i+1) (k:=k) (o:=o) (by grind)
  grind
section
variable {G:GE} {C:Cx} {e0 e:Env} {σ0 σ:St} {w0 w:World} {a:Act} {f:Frame} {Q:PQ} {ro:Option Nat} {n:Nat} {ds:Nat×List Deferred×Bool} {N:Nat} {Z:Array Value->Prop}
theorem ZpF (hC:CxOK G C ro e0 σ0 w0) (hM:CxMono C) {ops:Array Oper} (hd:∀o,o∈ops->∀d,o.dst=some d->d<N/\∀t v,Z t->Z (t.setIfInBounds d v)) {ms:List Nat} :
  ∀(k:Nat) (L:List (Nat×Oper)),L.length=k->Rem ops.toList ms L->(∀p∈L,ops[p.1]?=some p.2)->(∀p∈L,∀ed∈p.2.after,Region.binds .any ed=true->ed.on<p.1) ->
  ∀{listed:Array Bool},listed.size=ops.size->(∀k,k<ops.size->(listed.getD k false=true↔∀p∈L,p.1≠k)) ->
  ∀{ctx:List Ld} {e:Env} {σ:St} {w:World} {a:Act} {f:Frame},SRel G e σ w->FRel G e σ w f a.tmps->Later e0 σ0 w0 e σ w->a.tmps.size=N->Marks ds e σ w a.defers->Z a.tmps->XZ C ops.toList ms Q k L ctx f σ ->
  wpAnyIn (fw ro) n G.P .any ops (ZM G e0 σ0 w0 ds N Z Q) k listed a w
 | 0,L,hl,hR,be,hed,listed,hsz,eu,ctx,e,σ,w,a,f,hS,hF,hL,hN,ba,hZ,h=>by
  have l9:L=[]:=Sp.1 hl;exact mq108
 | k+1,L,hl,hR,be,hed,listed,hsz,eu,ctx,e,σ,w,a,f,hS,hF,hL,hN,ba,hZ,h=>by
  have ni:∀i b,i<ops.size->listed.getD i b=listed.getD i false:=fun i b hi=>by
   simp_all
  have zj:∀p∈L,listed.getD p.1 true=false:=fun p hp=>by
   grind
  refine ⟨fun hr=>?_,fun i hi=>?_⟩
  ·exfalso;have:∀(m:Nat),∀p∈L,p.1<=m->False:=by
    intro m
    induction m with
    | zero =>
     intro p hp hm
     have aa:=(Tv.1 (be p hp)).1;have:p.1∈Region.ready .any ops listed:=mem_ready.2 ⟨zj p hp,p.2,be p hp,fun ed he hb=>by grind⟩
     simp_all
    | succ m ih =>
    intro p hp hm
    have aa:=(Tv.1 (be p hp)).1;have:p.1∈Region.ready .any ops listed:=mem_ready.2 ⟨zj p hp,p.2,be p hp,fun ed he hb=>(eu ed.on (by grind)).2 fun q hq e=>by
     grind⟩
    simp_all
   cases L with
   | nil=>simp at hl
   | cons x l=>exact this x.1 x sM (Tt _)
  obtain ⟨h1,o,ho,co⟩:=mem_ready.1 hi;have aa:=(Tv.1 ho).1;rw [ni _ _ aa] at h1;have dh:∃p∈L,p.1=i:=by
   grind
  obtain ⟨p,eg,rfl⟩:=dh;have uo:p.2=o:=by grind
  subst uo;have hw:WI p.2 L=false:=by
   cases hv:WI p.2 L with
   | false=>rfl
   | true =>
   obtain ⟨q,hq,ed,he,hb,hon⟩:=waits_iff.1 hv
   grind
  have ir:=(ZpE hM k).1 L hl hR p eg hw ctx f σ h;have bc:=Vh (ro:=ro) (n:=n) hC hS hF hL hN ba hZ (ops:=ops) (hd p.2 (Sc ho)) ir;have hlen:(Yp p.1 L).length=k:=by have:=WS (o:=p.2) eg;omega
  have next:∀a' w',KRel G e0 σ0 w0 ds N Z (fun f' σ'=>∃c,XZ C ops.toList ms Q k (Yp p.1 L) c f' σ') a' w'->wpAnyIn (fw ro) n G.P .any ops (ZM G e0 σ0 w0 ds N Z Q) k (listed.setIfInBounds p.1 true) a' w':=fun a' w' ⟨f',e',σ',⟨c,lq⟩,h2,h3,h4,h5,h6,h7⟩=>by
   refine ZpF hC hM hd k (Yp p.1 L) hlen (hR.drop eg hw) (fun x hx=>be x (Yx hx)) (fun x hx=>hed x (Yx hx)) (by simp_all) (fun k hk=>?_) h2 h3 h4 h5 h6 h7 lq
   by_cases xr:k=p.1
   ·subst xr;have ur:p.1<listed.size:=oM;have:(listed.setIfInBounds p.1 true).getD p.1 false=true:=by simp_all
    simp only [this,true_iff];exact fun x hx=>((XC hR.pw x).1 hx).2
   have:(listed.setIfInBounds p.1 true).getD k false=listed.getD k false:=getD_set_ne false (Ne.symm xr);rw [this,eu k hk]
   constructor
   ·exact fun hh x hx=>hh x (Yx hx)
   intro hh x hx jk
   exact hh x ((XC hR.pw x).2 ⟨hx,fun e2=>xr (jk.symm.trans e2)⟩) jk
  have hK:∀a' w',KRel G e0 σ0 w0 ds N Z (fun f' σ'=>match YX p.2.op with | true=>Zs5 ms p.1 σ.bx σ'.bx ctx (XZ C ops.toList ms Q k (Yp p.1 L) ctx f' σ') | false=>XZ C ops.toList ms Q k (Yp p.1 L) (VT C.T p.2 p.1 f ctx) f' σ') a' w' ->
    KRel G e0 σ0 w0 ds N Z (fun f' σ'=>∃c,XZ C ops.toList ms Q k (Yp p.1 L) c f' σ') a' w':=fun a' w' ⟨f',e',σ',hk,au⟩=>by
   refine ⟨f',e',σ',?_,au⟩
   cases hE:YX p.2.op with
   | true=>rw [hE] at hk;exact ⟨_,(chkL_iff.1 hk).2⟩
   | false=>grind
  exact mq83
theorem ZpG (hC:CxOK G C ro e0 σ0 w0) (hM:CxMono C) {ops:Array Oper} (hd:∀o,o∈ops->∀d,o.dst=some d->d<N/\∀t v,Z t->Z (t.setIfInBounds d v)) (ak:ZwU ops.toList=true)
  (hS:SRel G e σ w) (hF:FRel G e σ w f a.tmps) (hL:Later e0 σ0 w0 e σ w) (hN:a.tmps.size=N) (ba:Marks ds e σ w a.defers) (hZ:Z a.tmps) (h:XZ C ops.toList (Wu ops.toList []) Q ops.toList.length (ZI 0 ops.toList) [] f σ) :
  wpAnyIn (fw ro) n G.P .any ops (ZM G e0 σ0 w0 ds N Z Q) ops.size (Array.replicate ops.size false) a w:=by
 simp only [ZwU,Tl] at ak;obtain ⟨⟨k1,k2⟩,k3⟩:=ak;have be:∀p∈ZI 0 ops.toList,ops[p.1]?=some p.2:=fun p hp=>by
  have:=(Xy hp).2
  simp_all
 have qy:∀k,k<ops.size->∃p∈ZI 0 ops.toList,p.1=k:=fun k hk=>⟨_,ZbJ (i:=0) (k:=k) (o:=ops[k]) (by simp_all),sM⟩
 have hlen:ops.toList.length=ops.size:=Array.length_toList;rw [hlen] at h;refine ZpF hC hM hd ops.size (ZI 0 ops.toList) (by rw [ZbI,hlen]) ⟨Zdg,Wk k1,fun p hp q hq ai he h1 h2=>?_,fun j hj q hq=>?_⟩ be (fun p hp ed he hb=>?_) sM (fun k hk=>?_) hS hF hL hN ba hZ h
 ·have:=Tn.1 (Tn.1 k3 p hp) q hq
  simp_all
 ·exact mq65
 ·have:=Tn.1 (Tn.1 k2 p hp) ed (TS.1 he);rw [hb] at this;exact Tb (by simp_all)
 simp_all
end
end Go.PM
end

section
namespace Go.PM
def Xm {P:Program} {b:Go.Frame} {a:Act} {k:List Item} {cs:List Go.Frame} {w:World} {c:Code} :
  step P (lone (b.atR a (.code (.scope c)::k)) cs w)=.next (lone (b.atR a (.code c::.inScope c::k)) cs w) :=
 step_lone_go (by rfl)
def ZgD {P:Program} {b:Go.Frame} {a:Act} {k:List Item} {cs:List Go.Frame} {w:World} {c:Code} :
  step P (lone (b.atR a (.inScope c::k)) cs w)=.next (lone (b.atR a k) cs w) :=
 step_lone_go (by rfl)
theorem ZnE {F:Fence} {n:Nat} {P:Program} {Q:Exit->Act->World->Prop} {a:Act} {w:World} {c:Code} (h:c.wpIn F n P (Exit.noGoto Q) a w):(Code.scope c).wpIn F n P Q a w:=by
 intro b k cs ul hb hr
 have h0:(lone (b.atR a (.code (.scope c)::k)) cs w).fenced P F:=fenced_calm hb hr rfl;obtain ⟨e,a₁,w₁,hq,np⟩:=h b (.inScope c::k) cs ul hb hr
 cases e with
 | normal=>exact ⟨.normal,a₁,w₁,hq,.head h0 Xm (StepsIn.trans np (.one (fenced_calm hb hr rfl) ZgD))⟩
 | exit id =>
  have hx:exitTo id (.inScope c::k)=exitTo id k:=by rfl
  exact ⟨.exit id,a₁,w₁,hq,fun k' hk=>.head h0 Xm (np.1 k' (by simp_all)),
   fun ot hk=>let ⟨k₁,h1,h2⟩:=np.2 ot (by simp_all);⟨k₁,h1,.head h0 Xm h2⟩⟩
 | goto l=>trivial
 | ret=>exact ⟨_,a₁,w₁,hq,.of_steps (.one h0 Xm) np⟩
 | panic ch=>exact ⟨_,a₁,w₁,hq,.of_steps (.one h0 Xm) np⟩
 | outgrown=>exact ⟨_,a₁,w₁,hq,.of_steps (.one h0 Xm) np⟩
def ZpH (N:Nat):List Oper->Bool
 | []=>true
 | o::l=>(match o.dst with | some d=>Nat.ble (d+1) N | none=>true) && ZpH N l
def ZG (N:Nat):Code->Bool
 | .region _ ops draw=>ZpH N ops.toList && (!draw || (match Zfe ops.toList with | none=>(match Zh7 (Wu ops.toList []) none (ZI 0 ops.toList) with | true=>Zpx ops.toList | false=>ZwU ops.toList) | some h=>ZpC ops.toList h))
 | .seq a b=>ZG N a && ZG N b
 | .cond _ a b=>ZG N a && ZG N b
 | .block _ b=>ZG N b
 | .loop b=>ZG N b
 | .scope b=>ZG N b
 | .rangeFunc _ ps a b=>ps.toList.all (fun p=>Nat.ble (p+1) N) && ZG N a && ZG N b
 | _=>true
def Za3 {N:Nat}:∀{l:List Oper},ZpH N l=true->∀o∈l,∀d,o.dst=some d->d<N
 | [],_,o,ho=>by cases ho
 | x::l,h,o,ho=>by
  simp only [ZpH,Tl] at h;rcases Tr.1 ho with rfl | ho
  ·intro d hd
   have:=h.1;rw [hd] at this;exact Tb this
  exact Za3 h.2 o ho
def Ja {ks:List Nat}:∀{l:List Oper},YT l ks=true->∀o∈l,∀d,o.dst=some d->d∉ks
 | [],_,o,ho=>by cases ho
 | x::l,h,o,ho=>by
  simp only [YT,Tl] at h;rcases Tr.1 ho with rfl | ho
  ·intro d hd hm
   have:=h.1;rw [hd] at this;simp only [TV] at this;rw [(Yq _ _).2 hm] at this;cases this
  exact Ja h.2 o ho
def Kept (ks:List Nat) (t0 t:Array Value):Prop:=∀i,i∈ks->t.getD i Go.undef=t0.getD i Go.undef
theorem Kept.set {ks:List Nat} {t0 t:Array Value} (h:Kept ks t0 t) {d:Nat} (hd:d∉ks) (v:Value):Kept ks t0 (t.setIfInBounds d v):=fun i hi=>by
 have ai:d≠i:=fun e=>hd (e ▸ hi)
 rw [<- h i hi]
 simp_all
def VD {ks ls:List Nat}:∀{l:List Oper},YT l ks=true->YT l ls=true->YT l (ks++ls)=true
 | [],_,_=>rfl
 | o::l,h1,h2=>by
  simp only [YT,Tl] at h1 h2 |-;refine ⟨?_,VD h1.2 h2.2⟩;have h1:=h1.1;have h2:=h2.1
  cases hd:o.dst with
  | none=>rfl
  | some d =>
  rw [hd] at h1 h2;simp only [TV] at h1 h2 |-
  cases h3:ZhY d (ks++ls) with
  | false=>rfl
  | true =>
  rcases Tw.1 ((Yq _ _).1 h3) with h4 | h4
  ·rw [(Yq _ _).2 h4] at h1;cases h1
  rw [(Yq _ _).2 h4] at h2;cases h2
theorem ZeN {ks ls:List Nat}:∀{c:Code},Ye ks c=true->Ye ls c=true->Ye (ks++ls) c=true:=by
 intro c
 induction c with
 | region id ops draw=>exact fun h1 h2=>VD h1 h2
 | seq a b iha ihb=>intro h1 h2;simp only [Ye,Tl] at h1 h2 |-;simp_all
 | cond c a b iha ihb=>intro h1 h2;simp only [Ye,Tl] at h1 h2 |-;simp_all
 | block id b ih=>assumption
 | loop b ih=>assumption
 | scope b ih=>assumption
 | _=>intro _ _;rfl
def YY:∀c:Code,Ye [] c=true:=by
 intro c
 induction c with
 | region id ops draw =>
  have:∀l:List Oper,YT l []=true:=by
   intro l
   induction l with
   | nil=>rfl
   | cons o l ih=>simp only [YT,ih,Bool.and_true];cases o.dst <;> rfl
  exact this _
 | seq a b iha ihb=>simp [Ye,iha,ihb]
 | cond c a b iha ihb=>simp [Ye,iha,ihb]
 | block id b ih=>exact ih
 | loop b ih=>exact ih
 | scope b ih=>exact ih
 | _=>rfl
section
variable {G:GE} {C:Cx} {e0 e:Env} {σ0 σ:St} {w0 w:World} {a:Act} {f:Frame} {Q:PQ} {ro:Option Nat} {n:Nat} {ds:Nat×List Deferred×Bool} {N:Nat}
theorem Zab {base:Frame} {tm:Array Value} (hb:FRel G e σ w base tm):∀{live:List Nat} {vs:List PV},(∀(k i:Nat) (x:PV),live[k]?=some i->vs[k]?=some x->VRel G e σ w x (tm.getD i Go.undef))->FRel G e σ w (Zgo base live vs) tm
 | [],vs,_=>by assumption
 | i::is,[],_=>hb
 | i::is,v::vs,h=>by
  intro j
  have ih:=Zab hb (live:=is) (vs:=vs) fun k i x h1 h2=>h (k+1) i x (by simp_all) (by simp_all)
  simp only [Zgo]
  by_cases ji:i=j
  ·subst ji;rw [Yw];exact h 0 i v sM sM
  rw [Y9 _ _ ji];exact ih j
theorem Zdh {f0:Frame} {tm:Array Value}:∀{keep:List Nat},(∀i,i∈keep->VRel G e σ w (clean (f0 i)) (tm.getD i Go.undef))->FRel G e σ w (ZjU f0 keep) tm
 | [],_=>fun i=>.undef _
 | i::is,h=>by
  intro j
  simp only [ZjU]
  by_cases ji:i=j
  ·subst ji;rw [Yw];simp_all
  rw [Y9 _ _ ji];exact Zdh (fun k hk=>h k (TF _ hk)) j
def Ztk {ks:List Nat} {t0:Array Value} {b:Code} (ihb:∀(Q:PQ) {e:Env} {σ:St} {w:World} {a:Act} {f:Frame},SRel G e σ w->FRel G e σ w f a.tmps->Later e0 σ0 w0 e σ w->a.tmps.size=N->Marks ds e σ w a.defers->Kept ks t0 a.tmps->W C b Q f σ->b.wpIn (fw ro) n G.P (ZM G e0 σ0 w0 ds N (Kept ks t0) Q) a w)
  (x:Exit) (a:Act) (w:World) (h:ZM G e0 σ0 w0 ds N (Kept ks t0) (fun e f σ=>match e with | .normal=>W C b Q f σ | e=>Q e f σ) x a w):Exit.then (b.wpIn (fw ro) n G.P (ZM G e0 σ0 w0 ds N (Kept ks t0) Q)) (ZM G e0 σ0 w0 ds N (Kept ks t0) Q) x a w:=by
 obtain ⟨pe,f,e,σ,hq,hx,h1,h2,h3,h4,h5,h6⟩:=h
 cases pe with
 | normal=>obtain rfl:x=.normal:=hx;exact ihb Q h1 h2 h3 h4 h5 h6 hq
 | exit id=>obtain rfl:x=.exit id:=hx;exact ⟨.exit id,f,e,σ,hq,rfl,h1,h2,h3,h4,h5,h6⟩
 | goto l=>obtain rfl:x=.goto l:=hx;exact ⟨.goto l,f,e,σ,hq,rfl,h1,h2,h3,h4,h5,h6⟩
 | ret=>obtain rfl:x=.ret:=hx;exact ⟨.ret,f,e,σ,hq,rfl,h1,h2,h3,h4,h5,h6⟩
 | panic p=>obtain ⟨v,rfl,hv⟩:=hx;exact ⟨.panic p,f,e,σ,hq,⟨v,rfl,hv⟩,h1,h2,h3,h4,h5,h6⟩
theorem ZnF {Z:Array Value->Prop} {id:Nat} (x:Exit) (a:Act) (w:World) (h:ZM G e0 σ0 w0 ds N Z (fun e f σ=>match e with | .exit i=>(match Nat.beq i id with | true=>Q .normal f σ | false=>Q (.exit i) f σ) | e=>Q e f σ) x a w) :
  Exit.inBlock id (ZM G e0 σ0 w0 ds N Z Q) x a w:=by
 obtain ⟨pe,f,e,σ,hq,hx,au⟩:=h
 cases pe with
 | normal=>obtain rfl:x=.normal:=hx;exact ⟨.normal,f,e,σ,hq,rfl,au⟩
 | exit i =>
  obtain rfl:x=.exit i:=hx;simp only [Exit.inBlock]
  by_cases hi:i=id
  ·subst hi;rw [Ti rfl];simp only [show Nat.beq i i=true from sM] at hq;exact ⟨.normal,f,e,σ,hq,rfl,au⟩
  rw [Te hi];have:Nat.beq i id=false:=by
   cases hb:Nat.beq i id with
   | false=>rfl
   | true=>simp_all
  simp only [this] at hq;exact ⟨.exit i,f,e,σ,hq,rfl,au⟩
 | goto l=>obtain rfl:x=.goto l:=hx;exact ⟨.goto l,f,e,σ,hq,rfl,au⟩
 | ret=>obtain rfl:x=.ret:=hx;exact ⟨.ret,f,e,σ,hq,rfl,au⟩
 | panic p=>obtain ⟨v,rfl,hv⟩:=hx;exact ⟨.panic p,f,e,σ,hq,⟨v,rfl,hv⟩,au⟩
theorem ZnG {Z:Array Value->Prop} (x:Exit) (a:Act) (w:World) (h:ZM G e0 σ0 w0 ds N Z (fun e f σ=>match e with | .goto _=>False | e=>Q e f σ) x a w) :
  Exit.noGoto (ZM G e0 σ0 w0 ds N Z Q) x a w:=by
 obtain ⟨pe,f,e,σ,hq,hx,au⟩:=h
 cases pe with
 | normal=>obtain rfl:x=.normal:=hx;exact ⟨.normal,f,e,σ,hq,rfl,au⟩
 | exit i=>obtain rfl:x=.exit i:=hx;exact ⟨.exit i,f,e,σ,hq,rfl,au⟩
 | goto l=>grind
 | ret=>obtain rfl:x=.ret:=hx;exact ⟨.ret,f,e,σ,hq,rfl,au⟩
 | panic p=>obtain ⟨v,rfl,hv⟩:=hx;exact ⟨.panic p,f,e,σ,hq,⟨v,rfl,hv⟩,au⟩
def ZgE (hS:SRel G e σ w) {b:Nat} {st st':LoopState} {pd pd':Option Code} {r:Loop} (hb:σ.bx[b]?=some (.loop st pd r)) :
  Stepped e σ w e (σ.set b (.loop st' pd' r)) (w.putObj (e.β b) (.loop { r with state:=st',pending:=pd' }))/\SRel G e (σ.set b (.loop st' pd' r)) (w.putObj (e.β b) (.loop { r with state:=st',pending:=pd' })):=by
 have kp:w.heap[e.β b]?=some (.loop { r with state:=st,pending:=pd }):=hS.box b _ hb;exact Wv hS hb rfl rfl rfl World.putObj_size (fun k hk=>World.putObj_heap_other hk) fun _=>World.putObj_heap_same (Tv.1 kp).1
def Zio:∀{ps:List Nat} {f:Frame} {args:List PV} {tm:Array Value} {vs:List Value},FRel G e σ w f tm->vs.length=args.length->(∀(i:Nat) (x:PV) (u:Value),args[i]?=some x->vs[i]?=some u->VRel G e σ w x u)->(∀p∈ps,p<tm.size) ->
  FRel G e σ w (Zo4 f ps args) ((ps.zip vs).foldl (fun tmps (x:Nat×Value)=>tmps.setIfInBounds x.1 x.2) tm)/\((ps.zip vs).foldl (fun tmps (x:Nat×Value)=>tmps.setIfInBounds x.1 x.2) tm).size=tm.size
 | [],f,args,tm,vs,hF,hl,hr,hp=>by simp only [Zo4,List.zip_nil_left,List.foldl_nil,and_true];exact hF
 | p::ps,f,[],tm,[],hF,hl,hr,hp=>⟨hF,rfl⟩
 | p::ps,f,x::args,tm,u::vs,hF,hl,hr,hp=>by
   simp only [List.zip_cons_cons,SI,Zo4];have h1:FRel G e σ w (Va f p x) (tm.setIfInBounds p u):=by
    have:=FRel.put (a:={ tmps:=tm,defers:=[] }) (d:=some p) hF (hr 0 x u rfl rfl) (fun i hi=>by cases hi;exact hp p sM);exact this
   obtain ⟨g1,g2⟩:=Zio (ps:=ps) h1 (by simpa using hl) (fun i y v hy hv=>hr (i+1) y v (by simpa using hy) (by simpa using hv)) (fun q hq=>by simpa using hp q (by simp [hq]));exact ⟨g1,by rw [g2];simp⟩
theorem Marks.push {lo:Nat×List Deferred×Bool} {l:List Deferred} (hS:SRel G e σ w) (hf:lo.2.2=false) (h:Marks lo e σ w l):Marks lo e σ (w.alloc (.deferred (some []))) (J5 w.heap.size::l):=by
 obtain ⟨h0,rs,h1,_,h2,h3⟩:=h;have hg:=Grows.alloc w (.deferred (some []));have o5:∀r∈rs,r<w.heap.size:=fun r hr=>(Tv.1 (h3 r hr).2.1).1
 refine ⟨TP h0 hg.size,w.heap.size::rs,by grind,fun h=>by simp_all,List.nodup_cons.2 ⟨fun hm=>by grind,h2⟩,fun r hr=>?_⟩;rcases Tr.1 hr with rfl | hr
 ·refine ⟨h0,heap_alloc_new w _,fun i hi=>by have:=hS.lt hi;omega,fun t ht p hp=>?_,(by
   cases hq:e.H w.heap.size with
   | none=>rfl
   | some q=>have:=(hS.hid _ _ hq).2.1;omega)⟩
  obtain ⟨_,_,cs,ty,fz,hh⟩:=hS.own t ht p hp
  grind
 obtain ⟨g1,g2,g3,g4⟩:=h3 r hr;exact ⟨g1,(hg.old r (o5 r hr)).trans g2,g3,g4⟩
theorem Ztl {o:Oper} {d:Nat} (hd:o.dst=some d):∀{l:List Oper},o∈l->Zgp d l=true:=fun {l} ho=>by
 induction l with
 | nil=>cases ho
 | cons x l ih =>
 rcases Tr.1 ho with rfl | ho
 ·unfold Zgp
  simp_all
 unfold Zgp
 grind
theorem Zip (ay:G.P.follows .mixedOrders=true) {id:Nat} {ops:Array Oper} {draw:Bool} (hC:CxOK G C ro e0 σ0 w0) (hM:CxMono C.calm) (ak:ZG N (.region id ops draw)=true) {ks:List Nat} {t0:Array Value} (cp:Ye ks (.region id ops draw)=true)
  (hS:SRel G e σ w) (hF:FRel G e σ w f a.tmps) (hL:Later e0 σ0 w0 e σ w) (hN:a.tmps.size=N) (ba:Marks ds e σ w a.defers) (hZ:Kept ks t0 a.tmps) (h:WR C ops.toList draw Q f σ):(Code.region id ops draw).wpIn (fw ro) n G.P (ZM G e0 σ0 w0 ds N (Kept ks t0) Q) a w:=by
 simp only [ZG,Tl] at ak;have hd:∀o,o∈ops->∀d,o.dst=some d->d<N/\∀t v,Kept ks t0 t->Kept ks t0 (t.setIfInBounds d v):=fun o ho d xu =>
  ⟨Za3 ak.1 o (TS.1 ho) d xu,fun t v hk=>hk.set (Ja cp o (TS.1 ho) d xu) v⟩
 cases draw with
 | false =>
  refine wpIn_region ?_;have:=Zfq (ro:=ro) (n:=n) hC hd ops.toList 0 (fun j=>sM) hS hF hL hN ba hZ h;rw [List.range_eq_range'];omega
 | true =>
 have i7:=ak.2;simp only [Bool.not_true,Bool.false_or] at i7;simp only [WR] at h;have ip:Later e0 σ0 w0 e σ { w with drawn:=w.drawn+1 }:=hL.trans { Later.refl e σ w with };have hst:Stepped e σ w e σ { w with drawn:=w.drawn+1 }:={ Stepped.refl e σ w with }
 have hS':SRel G e σ { w with drawn:=w.drawn+1 }:={ hS with box:=fun i x hx=>(hS.box i x hx).step hst rfl HKeep.rfl' }
 have hF':=hF.step hst
 let Z:Array Value->Prop:=fun t=>Kept ks t0 t/\∀i,Zgp i ops.toList=false->t.getD i Go.undef=a.tmps.getD i Go.undef
 have hd':∀o,o∈ops->∀d,o.dst=some d->d<N/\∀t v,Z t->Z (t.setIfInBounds d v):=fun o ho d xu=>⟨(hd o ho d xu).1,fun t v hz=>⟨(hd o ho d xu).2 t v hz.1,fun i hi=>by
  have ai:d≠i:=fun he=>by
   subst he;rw [Ztl xu (TS.1 ho)] at hi;cases hi
  rw [<- hz.2 i hi]
  simp_all⟩⟩
 have hC':=hC.later ip;have fin:∀x a' w',ZM G e σ { w with drawn:=w.drawn+1 } ds N Z (ZjV C ops.toList f Q) x a' w'->ZM G e0 σ0 w0 ds N (Kept ks t0) Q x a' w':=fun x a' w' hp=>by
  obtain ⟨pe,f',e',σ',hq,hx,g1,g2,g3,g4,g5,g6⟩:=hp
  cases pe with
  | panic p =>
   refine ⟨.panic p,_,e',σ',hq,hx,g1,fun i=>?_,ip.trans g3,g4,g5,g6.1⟩;unfold Cx.pd
   cases C.pk with
   | false=>exact .undef _
   | true =>
   show VRel _ _ _ _ (match Zgp i ops.toList with | true=>PV.undef | false=>clean (f i)) _
   cases hw:Zgp i ops.toList with
   | true=>exact .undef _
   | false =>
   rw [g6.2 i hw];exact (hF'.clean g3) i
  | normal=>exact ⟨_,f',e',σ',hq,hx,g1,g2,ip.trans g3,g4,g5,g6.1⟩
  | ret=>exact ⟨_,f',e',σ',hq,hx,g1,g2,ip.trans g3,g4,g5,g6.1⟩
  | exit id=>exact ⟨_,f',e',σ',hq,hx,g1,g2,ip.trans g3,g4,g5,g6.1⟩
  | goto l=>exact ⟨_,f',e',σ',hq,hx,g1,g2,ip.trans g3,g4,g5,g6.1⟩
 have hZ':Z a.tmps:=⟨hZ,fun _ _=>rfl⟩
 have hR:Later e σ { w with drawn:=w.drawn+1 } e σ { w with drawn:=w.drawn+1 }:=Later.refl _ _ _;refine wpIn_mono (wpIn_region_any (Q:=ZM G e σ { w with drawn:=w.drawn+1 } ds N Z (ZjV C ops.toList f Q)) ay ?_) fin;split at h
 ·rename_i hh
  rw [hh] at i7;simp only at i7;split at h
  ·rename_i hch
   rw [hch] at i7;exact Znz hC'.calm hM hd' i7 hS' hF' hR hN (ba.later hst.toLater) hZ' h
  rename_i hch
  rw [hch] at i7;exact ZpG hC'.calm hM hd' i7 hS' hF' hR hN (ba.later hst.toLater) hZ' h
 rename_i hl hh
 rw [hh] at i7;exact ZnD hC'.calm hM hd' hh i7 hS' hF' hR hN (ba.later hst.toLater) hZ' h
theorem Zdi (ay:G.P.follows .mixedOrders=true):∀(c:Code) {C:Cx} {ro:Option Nat} {e0:Env} {σ0:St} {w0:World} {N:Nat} {ds:Nat×List Deferred×Bool} {n:Nat},CxOK G C ro e0 σ0 w0->CxMono C.calm->(ds.2.2=true->∀g args raw σ K,¬C.iter g args raw σ K)->ZG N c=true->∀(ks:List Nat) (t0:Array Value),Ye ks c=true->∀(Q:PQ) {e:Env} {σ:St} {w:World} {a:Act} {f:Frame},
  SRel G e σ w->FRel G e σ w f a.tmps->Later e0 σ0 w0 e σ w->a.tmps.size=N->Marks ds e σ w a.defers->Kept ks t0 a.tmps->W C c Q f σ->c.wpIn (fw ro) n G.P (ZM G e0 σ0 w0 ds N (Kept ks t0) Q) a w:=by
 intro c
 induction c with
 | skip=>intro C ro e0 σ0 w0 N ds n hC hM dz _ ks t0 _ Q e σ w a f hS hF hL hN ba hZ h;exact wpIn_skip ⟨.normal,f,e,σ,h,rfl,hS,hF,hL,hN,ba,hZ⟩
 | label l=>intro C ro e0 σ0 w0 N ds n hC hM dz _ ks t0 _ Q e σ w a f hS hF hL hN ba hZ h;exact wpIn_label ⟨.normal,f,e,σ,h,rfl,hS,hF,hL,hN,ba,hZ⟩
 | exit id=>intro C ro e0 σ0 w0 N ds n hC hM dz _ ks t0 _ Q e σ w a f hS hF hL hN ba hZ h;exact wpIn_exit ⟨.exit id,f,e,σ,h,rfl,hS,hF,hL,hN,ba,hZ⟩
 | goto l=>intro C ro e0 σ0 w0 N ds n hC hM dz _ ks t0 _ Q e σ w a f hS hF hL hN ba hZ h;exact wpIn_goto ⟨.goto l,f,e,σ,h,rfl,hS,hF,hL,hN,ba,hZ⟩
 | ret=>intro C ro e0 σ0 w0 N ds n hC hM dz _ ks t0 _ Q e σ w a f hS hF hL hN ba hZ h;exact wpIn_ret ⟨.ret,f,e,σ,h,rfl,hS,hF,hL,hN,ba,hZ⟩
 | region id ops draw =>
  intro C ro e0 σ0 w0 N ds n hC hM dz ak ks t0 cp Q0 e σ w a f hS hF hL hN ba hZ h
  have core:∀{Q:PQ} {e:Env} {σ:St},SRel G e σ w->FRel G e σ w f a.tmps->Later e0 σ0 w0 e σ w->Marks ds e σ w a.defers->WR C ops.toList draw Q f σ->(Code.region id ops draw).wpIn (fw ro) n G.P (ZM G e0 σ0 w0 ds N (Kept ks t0) Q) a w:=fun {Q e σ} hS hF hL ba h=>Zip ay hC hM ak cp hS hF hL hN ba hZ h
  simp only [W] at h;split at h
  ·grind
  obtain ⟨b,k,h⟩:=h;obtain ⟨e1,σ1,h,hst,fi⟩:=Zka hS h;rw [ZU] at h;refine wpIn_mono (core fi (hF.step hst) (hL.trans hst.toLater) (ba.later hst.toLater) h) fun x a' w' hp=>?_
  obtain ⟨pe,f',e',σ',hq,hx,g1,g2,g3,g4,g5,g6⟩:=hp
  cases pe with
  | normal =>
   obtain ⟨e2,σ2,hq,jy,i9⟩:=ZgC g1 (K:=fun σ=>Xl σ fun σ=>Q0 .normal f' σ) hq;rw [ZU] at hq;exact ⟨.normal,f',e2,σ2,hq,hx,i9,g2.step jy,g3.trans jy.toLater,g4,g5.later jy.toLater,g6⟩
  | _=>trivial
 | seq x y ihx ihy =>
  intro C ro e0 σ0 w0 N ds n hC hM dz ak ks t0 cp Q e σ w a f hS hF hL hN ba hZ h
  simp only [ZG,Tl] at ak;simp only [Ye,Tl] at cp;simp only [W] at h;split at h
  ·exact wpIn_seq (wpIn_mono (ihx hC hM dz ak.1 ks t0 cp.1 _ hS hF hL hN ba hZ h) (Ztk fun Q {e σ w a f}=>ihy hC hM dz ak.2 ks t0 cp.2 Q))
  rename_i live I gg
  obtain ⟨h1,h2⟩:=h;refine wpIn_seq (wpIn_mono (ihx hC hM dz ak.1 ks t0 cp.1 _ hS hF hL hN ba hZ h1) fun x' a' w' hp=>?_);obtain ⟨pe,f',e',σ',hq,hx,g1,g2,g3,g4,g5,g6⟩:=hp
  cases pe with
  | normal =>
   obtain rfl:x'=.normal:=hx;obtain ⟨vs0,σ1,e1,hI,fi,kz,hlen,bh⟩:=ZlJ g1 hq;have hF1:FRel G e1 σ1 w' (Zgo (fun _=>.undef) live vs0) a'.tmps:=Zab (fun i=>.undef _) fun k i x h1 h2=>bh k (f' i) x _ (by simp_all) h2 (g2 i)
   exact ihy hC hM dz ak.2 ks t0 cp.2 Q fi hF1 (g3.drop kz g3.len) g4 (g5.drop kz) g6 (h2 _ _ hI)
  | exit id=>obtain rfl:x'=.exit id:=hx;exact ⟨.exit id,f',e',σ',hq,rfl,g1,g2,g3,g4,g5,g6⟩
  | goto l=>obtain rfl:x'=.goto l:=hx;exact ⟨.goto l,f',e',σ',hq,rfl,g1,g2,g3,g4,g5,g6⟩
  | ret=>obtain rfl:x'=.ret:=hx;exact ⟨.ret,f',e',σ',hq,rfl,g1,g2,g3,g4,g5,g6⟩
  | panic p=>obtain ⟨v,rfl,hv⟩:=hx;exact ⟨.panic p,f',e',σ',hq,⟨v,rfl,hv⟩,g1,g2,g3,g4,g5,g6⟩
 | cond c x y ihx ihy =>
  intro C ro e0 σ0 w0 N ds n hC hM dz ak ks t0 cp Q e σ w a f hS hF hL hN ba hZ h
  simp only [ZG,Tl] at ak;simp only [Ye,Tl] at cp;simp only [W] at h;have hv:=ZbC hF c;split at h
  ·rename_i t hc
   rw [hc] at hv
   cases t with
   | true=>exact wpIn_cond_true hv.dbool (ihx hC hM dz ak.1 ks t0 cp.1 _ hS hF hL hN ba hZ h)
   | false=>exact wpIn_cond_false hv.dbool (ihy hC hM dz ak.2 ks t0 cp.2 _ hS hF hL hN ba hZ h)
  simp_all
 | block id b ih =>
  intro C ro e0 σ0 w0 N ds n hC hM dz ak ks t0 cp Q e σ w a f hS hF hL hN ba hZ h
  exact wpIn_block (wpIn_mono (ih hC hM dz ak ks t0 cp _ hS hF hL hN ba hZ h) ZnF)
 | scope b ih =>
  intro C ro e0 σ0 w0 N ds n hC hM dz ak ks t0 cp Q e σ w a f hS hF hL hN ba hZ h
  exact ZnE (wpIn_mono (ih hC hM dz ak ks t0 cp _ hS hF hL hN ba hZ h) ZnG)
 | loop b ih =>
  intro C ro e0 σ0 w0 N ds n hC hM dz ak ks t0 cp Q e σ w a f hS hF hL hN ba hZ h
  simp only [W] at h;generalize C.loop (keyOf b)=A at h;split at h
  ·rename_i m0 _
   generalize m0+1=m at h
   let J:Nat->Frame->St->Act->World->Prop:=fun k f1 σ1 a1 w1=>∃e1,Zff (fun Q f σ=>W C b Q f σ) Q k f1 σ1/\SRel G e1 σ1 w1/\FRel G e1 σ1 w1 f1 a1.tmps/\Later e σ w e1 σ1 w1/\a1.tmps.size=N/\Marks ds e1 σ1 w1 a1.defers/\Kept ks a.tmps a1.tmps
   let In:Act->World->Prop:=fun a1 w1=>∃k f1 σ1,J k f1 σ1 a1 w1
   let Mu:Act->World->Nat->Prop:=fun a1 w1 m=>∃f1 σ1,J m f1 σ1 a1 w1
   have least:∀a1 w1,In a1 w1->∃m,Mu a1 w1 m/\∀m',Mu a1 w1 m'->m<=m':=fun a1 w1 ⟨k,f1,σ1,hJ⟩=>by
    have:∀m,Mu a1 w1 m->∃m,Mu a1 w1 m/\∀m',Mu a1 w1 m'->m<=m':=by
     intro m
     induction m using Nat.strongRecOn with
     | _ m ihm =>
     intro hm
     by_cases ge:∃m',m'<m/\Mu a1 w1 m'
     ·obtain ⟨m',h1,h2⟩:=ge;grind
     grind
    exact this _ ⟨f1,σ1,hJ⟩
   classical
   let mu:Act->World->Nat:=fun a1 w1=>if hh:∃m,Mu a1 w1 m/\∀m',Mu a1 w1 m'->m<=m' then Classical.choose hh else 0
   have zk:∀a1 w1,In a1 w1->Mu a1 w1 (mu a1 w1)/\∀m',Mu a1 w1 m'->mu a1 w1<=m':=fun a1 w1 ut=>by
    have hh:=least a1 w1 ut
    grind
   refine wpIn_loop In mu ⟨m,f,σ,e,h,hS,hF,Later.refl e σ w,hN,ba,fun i _=>rfl⟩ ?_;intro a1 w1 ut
   obtain ⟨⟨f2,σ2,⟨e2,hU,i9,uj,lv,hN2,uv,hK2⟩⟩,_⟩:=zk a1 w1 ut;generalize l6:mu a1 w1=mm at hU
   cases mm with
   | zero=>trivial
   | succ mm =>
   simp only [Zff] at hU;have hb:=ih (n:=n) (hC.later hL) hM dz ak ks a.tmps cp _ i9 uj lv hN2 uv hK2 hU;refine wpIn_mono hb fun x a' w' hp=>?_
   obtain ⟨pe,f',e',σ',hq,hx,h1,h2,h3,h4,h5,h6⟩:=hp;have rf:Kept ks t0 a'.tmps:=fun i hi=>(h6 i hi).trans (hZ i hi)
   cases pe with
   | normal =>
    obtain rfl:x=.normal:=hx;have hJ:J mm f' σ' a' w':=⟨e',hq,h1,h2,h3,h4,h5,h6⟩
    have pg:In a' w':=⟨mm,f',σ',hJ⟩
    refine ⟨pg,?_⟩;have:=(zk a' w' pg).2 _ ⟨f',σ',hJ⟩;omega
   | exit id=>obtain rfl:x=.exit id:=hx;exact ⟨.exit id,f',e',σ',hq,rfl,h1,h2,hL.trans h3,h4,h5,rf⟩
   | goto l=>obtain rfl:x=.goto l:=hx;exact ⟨.goto l,f',e',σ',hq,rfl,h1,h2,hL.trans h3,h4,h5,rf⟩
   | ret=>obtain rfl:x=.ret:=hx;exact ⟨.ret,f',e',σ',hq,rfl,h1,h2,hL.trans h3,h4,h5,rf⟩
   | panic p=>obtain ⟨v,rfl,hv⟩:=hx;exact ⟨.panic p,f',e',σ',hq,⟨v,rfl,hv⟩,h1,h2,hL.trans h3,h4,h5,rf⟩
  have key:∀A:LoopAnn,Ye A.keep b=true->(U4 (C.ag (keyOf b)) σ.bx.length (A.live.map f) σ fun vs σ0=>A.I vs σ0 /\
    ∀vs σ1,A.I vs σ1->W C b (fun e f' σ'=>match e with
     | .normal=>U4 (C.ag (keyOf b)) σ1.bx.length (A.live.map f') σ' fun vs' σ''=>A.I vs' σ''/\A.μ vs' σ''<A.μ vs σ1
     | e=>Q e f' σ') (Zgo (ZjU f A.keep) A.live vs) σ1)->(Code.loop b).wpIn (fw ro) n G.P (ZM G e0 σ0 w0 ds N (Kept ks t0) Q) a w:=fun A kw h=>by
   obtain ⟨vs0,σ1,e1,⟨hI,ma⟩,fi,kz,hlen,bh⟩:=Zdb hS h;have la:∀{e':Env} {σ':St} {w':World} {tm:Array Value},Later e σ w e' σ' w'->Kept (ks++A.keep) a.tmps tm->∀i,i∈A.keep->VRel G e' σ' w' (clean (f i)) (tm.getD i Go.undef):=fun {e' σ' w' tm} hl hk i hi=>by
    rw [hk i (Tw.2 (.inr hi))];exact VRel.clean hl.len hl.beta hl.pres (hF i) (hF i).bnd
   have su:∀(f':Frame) (tm:Array Value) (vs':List PV) {e':Env} {σ':St} {w':World} {e'':Env} {σ'':St},FRel G e' σ' w' f' tm->(∀(i:Nat) (x y:PV) (u:Value),(A.live.map f')[i]?=some x->vs'[i]?=some y->VRel G e' σ' w' x u->VRel G e'' σ'' w' y u) ->
     ∀(k i:Nat) (x:PV),A.live[k]?=some i->vs'[k]?=some x->VRel G e'' σ'' w' x (tm.getD i Go.undef):=fun f' tm vs' {e' σ' w' e'' σ''} hf hv k i x h1 h2 =>
    hv k (f' i) x _ (by simp_all) h2 (hf i)
   let J:List PV->St->Act->World->Prop:=fun vs σ1 a1 w1=>∃e1,A.I vs σ1/\SRel G e1 σ1 w1/\FRel G e1 σ1 w1 (Zgo (ZjU f A.keep) A.live vs) a1.tmps/\Later e σ w e1 σ1 w1/\a1.tmps.size=N/\Marks ds e1 σ1 w1 a1.defers/\Kept (ks++A.keep) a.tmps a1.tmps
   let In:Act->World->Prop:=fun a1 w1=>∃vs σ1,J vs σ1 a1 w1
   let Mu:Act->World->Nat->Prop:=fun a1 w1 m=>∃vs σ1,J vs σ1 a1 w1/\A.μ vs σ1=m
   have least:∀a1 w1,In a1 w1->∃m,Mu a1 w1 m/\∀m',Mu a1 w1 m'->m<=m':=fun a1 w1 ⟨vs,σ1,hJ⟩=>by
    have:∀m,Mu a1 w1 m->∃m,Mu a1 w1 m/\∀m',Mu a1 w1 m'->m<=m':=by
     intro m
     induction m using Nat.strongRecOn with
     | _ m ihm =>
     intro hm
     by_cases ge:∃m',m'<m/\Mu a1 w1 m'
     ·obtain ⟨m',h1,h2⟩:=ge;grind
     grind
    exact this _ ⟨vs,σ1,hJ,rfl⟩
   classical
   let mu:Act->World->Nat:=fun a1 w1=>if hh:∃m,Mu a1 w1 m/\∀m',Mu a1 w1 m'->m<=m' then Classical.choose hh else 0
   have zk:∀a1 w1,In a1 w1->Mu a1 w1 (mu a1 w1)/\∀m',Mu a1 w1 m'->mu a1 w1<=m':=fun a1 w1 ut=>by
    have hh:=least a1 w1 ut
    grind
   have rh:Later e σ w e1 σ1 w:=(Later.refl e σ w).drop kz (Tt _);have ph:Kept (ks++A.keep) a.tmps a.tmps:=fun i _=>rfl
   refine wpIn_loop In mu ⟨vs0,σ1,e1,hI,fi,?_,rh,hN,ba.drop kz,ph⟩ ?_
   ·exact Zab (Zdh (la rh ph)) (su f a.tmps vs0 hF bh)
   intro a1 w1 ut
   obtain ⟨⟨vs,σ2,⟨e2,f8,i9,uj,lv,hN2,uv,hK2⟩,hm⟩,_⟩:=zk a1 w1 ut;have hb:=ih (n:=n) (hC.later hL) hM dz ak (ks++A.keep) a.tmps (ZeN cp kw) _ i9 uj lv hN2 uv hK2 (ma vs σ2 f8);refine wpIn_mono hb fun x a' w' hp=>?_
   obtain ⟨pe,f',e',σ',hq,hx,h1,h2,h3,h4,h5,h6⟩:=hp;have rf:Kept ks t0 a'.tmps:=fun i hi=>(h6 i (Tw.2 (.inl hi))).trans (hZ i hi)
   cases pe with
   | normal =>
    obtain rfl:x=.normal:=hx;obtain ⟨vs',σ3,e3,⟨hI3,aa⟩,gk,pi,jl,adf⟩:=Zdb h1 hq;have xv:Later e σ w e3 σ3 w':=h3.drop pi lv.len;have hJ:J vs' σ3 a' w':=⟨e3,hI3,gk,Zab (Zdh (la xv h6)) (su f' a'.tmps vs' h2 adf),xv,h4,h5.drop pi,h6⟩
    have pg:In a' w':=⟨vs',σ3,hJ⟩
    refine ⟨pg,?_⟩;have:=(zk a' w' pg).2 _ ⟨vs',σ3,hJ,rfl⟩;omega
   | exit id=>obtain rfl:x=.exit id:=hx;exact ⟨.exit id,f',e',σ',hq,rfl,h1,h2,hL.trans h3,h4,h5,rf⟩
   | goto l=>obtain rfl:x=.goto l:=hx;exact ⟨.goto l,f',e',σ',hq,rfl,h1,h2,hL.trans h3,h4,h5,rf⟩
   | ret=>obtain rfl:x=.ret:=hx;exact ⟨.ret,f',e',σ',hq,rfl,h1,h2,hL.trans h3,h4,h5,rf⟩
   | panic p=>obtain ⟨v,rfl,hv⟩:=hx;exact ⟨.panic p,f',e',σ',hq,⟨v,rfl,hv⟩,h1,h2,hL.trans h3,h4,h5,rf⟩
  split at h
  ·rename_i kw
   split at h
   ·grind
   exact key (A.tied f) kw h
  exact h.elim
 | rangeFunc g ps asg body iha ihb =>
  intro C ro e0 σ0 w0 N ds n hC hM dz ak ks t0 cp Q e σ w a f hS hF hL hN ba hZ h
  simp only [ZG,Tl] at ak;simp only [W] at h;split at h
  ·rename_i gid first caps hg
   have hv:=ZbC hF g;rw [hg] at hv;generalize hgv:a.eval g=gv at hv
   cases hv with
   | func _ _ _ va vc ha hc h1 h2 =>
   have ul:ro=none:=by
    rcases hC.out with h0 | h0
    ·exact h0
    simp_all
   subst ul;refine wpIn_rangeFunc fun fn _=>?_
   have hMi:CxMono C.inner.calm:=⟨hM.one,hM.call,hM.raw,hM.iter,rfl⟩
   have hdf:ds.2.2=false:=by
    cases cg:ds.2.2 with
    | false=>rfl
    | true=>simp_all
   let rec0:Loop:={ state:=.ready,pending:=none,fn,tmps:=a.tmps,params:=ps,assign:=asg,body,defers:=w.heap.size }
   let wA:=w.alloc (.deferred (some []))
   have hgA:Grows w wA:=Grows.alloc w _;have hSA:SRel G e σ wA:=hS.grow hgA;have uw:Stepped e σ w e σ wA:=hgA.stepped e σ;have adh:Marks ds e σ wA (J5 w.heap.size::a.defers):=ba.push hS hdf;have hsz:wA.heap.size=w.heap.size+1:=by simp [wA]
   obtain ⟨rj,fi,_⟩:=WM hSA (.loop .ready none rec0) (.loop rec0) (fun _ _ _ _ hh=>hh);have xq:(e.more σ.bx.length wA.heap.size).β σ.bx.length=w.heap.size+1:=by simp [Env.more,hsz]
   have kp:=h (w.heap.size+1) rec0;obtain ⟨ga,iq⟩:=hC.iter _ _ _ _ _ kp;have ux:ArgsRel G (e.more σ.bx.length wA.heap.size) (σ.new (.loop .ready none rec0)) (wA.alloc (.loop rec0)) (first++.raw (.func (.yield (w.heap.size+1)) #[] #[])::caps) (va++#[.func (.yield (w.heap.size+1)) #[] #[]]++vc):=by
    rw [List.append_cons];refine (ArgsRel.append (ArgsRel.append ⟨ha,fun i x u hx hu=>((h1 i x u hx hu).step uw).step rj⟩ ⟨rfl,fun i x u hx hu=>?_⟩) ⟨hc,fun i x u hx hu=>((h2 i x u hx hu).step uw).step rj⟩)
    match i with
    | 0=>cases hx;cases hu;exact .raw _
    | n+1=>cases hx
   have rh:Later e σ w (e.more σ.bx.length wA.heap.size) (σ.new (.loop .ready none rec0)) (wA.alloc (.loop rec0)):=uw.toLater.trans rj.toLater;have sv:σ.bx.length<(σ.new (.loop .ready none rec0)).bx.length:=by rw [ZGy];omega
   refine ⟨w.heap.size+1,[J5 w.heap.size],wA.alloc (.loop rec0),{ target:=.fn (.func gid) vc,args:=va++#[.func (.yield (w.heap.size+1)) #[] #[]] },wA.alloc (.loop rec0),gid,va++#[.func (.yield (w.heap.size+1)) #[] #[]]++vc,wA.alloc (.loop rec0),
    run_enterLoop_outer fn a.tmps ps asg body,?_,fun _ _=>trivial,?_,fun hh=>by simp [fw] at hh,?_⟩
   ·show (Deferred.ofValue (a.eval g) _).run _ _=_;rw [hgv];simp [Deferred.ofValue,rangeCall,Act.eval]
   ·simp only [invoke];exact ga _ _
   refine (iq (n - 1) _ _ _ fi (hL.trans rh) ux ?_).mono fun en w3 hA=>?_
   ·
    intro v args σ' K hr
    obtain ⟨rfl,d8,hal,hWA⟩:=hr;refine ⟨w.heap.size+1,rfl,fun ro n e' w' vs hS' ip xd=>?_⟩;have gu:σ.bx.length<σ'.bx.length:=(To.1 d8).1;have hβ':e'.β σ.bx.length=w.heap.size+1:=(ip.beta _ sv).trans xq;have gy:w'.heap[w.heap.size+1]?=some (.loop rec0):=by have:=hS'.box _ _ d8;rw [hβ'] at this;exact this
    have bh:vs.size=rec0.params.size:=by rw [xd.1,hal];rfl
    refine ⟨_,_,_,_,run_yield gy bh,?_⟩;have hF0:FRel G e' σ' w' (VB f) a.tmps:=hF.clean (rh.trans ip);have y7:∀p∈ps.toList,p<a.tmps.size:=fun p hp=>by
     have:=Tn.1 ak.1.1 p hp;rw [hN];exact Tb this
    have zl:(rec0.params.zip vs).foldl (fun tmps (x:Nat×Value)=>tmps.setIfInBounds x.1 x.2) rec0.tmps=(ps.toList.zip vs.toList).foldl (fun tmps (x:Nat×Value)=>tmps.setIfInBounds x.1 x.2) a.tmps:=by
     rw [<- Array.foldl_toList,Array.toList_zip]
    obtain ⟨hF1,lx⟩:=Zio (ps:=ps.toList) (args:=args) (vs:=vs.toList) hF0 (by grind) (fun i x u hx hu=>xd.2 i x u hx (by simp_all)) y7;refine roundIn_of_wpIn trivial ?_;have hCr:CxOK G C.inner (some (w.heap.size+1)) e' σ' w':=⟨hC.tab,hC.call,hC.raw.later (hL.trans (rh.trans ip)),fun _ _ _ _ _ hh=>hh.elim,.inr fun _ _ _ _ _ hh=>hh⟩
    have hwa:=iha (n:=n) (ds:=(0,[],false)) hCr hMi (fun h=>by cases h) ak.1.2 [] #[] (YY _) _ (a:={ tmps:=(rec0.params.zip vs).foldl (fun tmps (x:Nat×Value)=>tmps.setIfInBounds x.1 x.2) rec0.tmps,defers:=[] }) hS' (by simp_all) (Later.refl _ _ _) (by rw [zl];exact lx.trans hN) (Marks.nil _ _ (T6 _)) (fun i hi=>by cases hi) hWA;refine wpIn_mono hwa fun x1 a1 w1 hp=>?_
    obtain ⟨pe,f1,e1,σ1,hq,hx,k1,k2,k3,k4,k5,k6⟩:=hp
    cases pe with
    | normal =>
     obtain rfl:x1=.normal:=hx;obtain ⟨bq,hWB⟩:=hq;obtain ⟨jy,i9⟩:=ZgE (st':=.busy) (pd':=none) k1 bq;have uy:e1.β σ.bx.length=w.heap.size+1:=(k3.beta _ gu).trans hβ';have uz:w1.heap[w.heap.size+1]?=some (.loop rec0):=by have:=k1.box _ _ bq;rw [uy] at this;exact this
     refine ⟨_,run_beginRound uz rfl,?_⟩;rw [uy] at jy i9;have hwb:=ihb (n:=n) (ds:=(0,[],false)) (hCr.later (k3.trans jy.toLater)) hMi (fun h=>by cases h) ak.2 [] #[] (YY _) _ i9 (k2.step jy) (Later.refl _ _ _) k4 (k5.later jy.toLater) (fun i hi=>by cases hi) hWB;refine wpIn_mono hwb fun x2 a2 w2 mt=>?_
     obtain ⟨pe2,f2,e2,σ2,nh,bo,m1,m2,m3,m4,m5,m6⟩:=mt;have dg:σ.bx.length<(σ1.set σ.bx.length (.loop .busy none rec0)).bx.length:=by simp only [St.set,List.length_set];grind
     have hβ2:e2.β σ.bx.length=w.heap.size+1:=(m3.beta _ dg).trans uy;have lv:Later e' σ' w' e2 σ2 w2:=(k3.trans jy.toLater).trans m3;have fin:∀(jump:Option Code),endR σ.bx.length rec0 (if jump.isNone then .ready else .done) jump jump.isNone σ2 K->∃v w'',(Instr.endRound (w.heap.size+1) jump).run G.P w2=.ok v w''/\YO G e' σ' w' K (.returned v) w'':=fun jump hq=>by
      obtain ⟨zm,hK⟩:=hq;have u7:w2.heap[w.heap.size+1]?=some (.loop { rec0 with state:=.busy,pending:=none }):=by have:=m1.box _ _ zm;rw [hβ2] at this;exact this
      have vd:=ZgE (st':=if jump.isNone then .ready else .done) (pd':=jump) m1 zm;rw [hβ2] at vd;exact ⟨_,_,run_endRound jump u7,_,_,e2,hK,⟨_,rfl,.mkbool⟩,vd.2,lv.trans vd.1.toLater⟩
     cases pe2 with
     | normal=>obtain rfl:x2=.normal:=bo;exact fin none nh
     | ret=>obtain rfl:x2=.ret:=bo;exact fin (some .ret) nh
     | exit id=>obtain rfl:x2=.exit id:=bo;exact fin (some (.exit id)) nh
     | goto t=>obtain rfl:x2=.goto t:=bo;exact fin (some (.goto t)) nh
     | panic p=>grind
    | exit id=>grind
    | goto t=>grind
    | ret=>grind
    | panic p=>grind
   
   obtain ⟨pe,σ3,e3,hk,hE,gk,xv⟩:=hA;have hLs:=rh.trans xv;have zn:Marks ds e3 σ3 w3 (J5 w.heap.size::a.defers):=(adh.later rj.toLater).later xv;have hβ3:e3.β σ.bx.length=w.heap.size+1:=(xv.beta _ sv).trans xq
   cases pe with
   | panic p =>
    obtain ⟨u,rfl,hr⟩:=hE;exact ⟨.panic p,_,e3,σ3,hk,⟨u,rfl,hr⟩,gk,fun i=>.undef _,hL.trans hLs,hN,zn,hZ⟩
   | ret p =>
   obtain ⟨u,rfl,hr⟩:=hE;unfold ZlD at hk
   simp only at hk;split at hk
   ·rename_i st pd r d8
    have gy:w3.heap[w.heap.size+1]?=some (.loop { r with state:=st,pending:=pd }):=by have:=gk.box _ _ d8;rw [hβ3] at this;exact this
    have nq:=ZgE (st':=.exhausted) (pd':=pd) gk d8;rw [hβ3] at nq;obtain ⟨nq,hS4⟩:=nq;have gc:∀(pe:PExit) (x:Exit),Q pe (VB f) (σ3.set σ.bx.length (.loop .exhausted pd r))->ZAZ G e3 (σ3.set σ.bx.length (.loop .exhausted pd r)) (w3.putObj (w.heap.size+1) (.loop { r with state:=.exhausted,pending:=pd })) pe x ->
      ZM G e0 σ0 w0 ds N (Kept ks t0) Q x { a with defers:=[J5 w.heap.size]++a.defers } (w3.putObj (w.heap.size+1) (.loop { r with state:=.exhausted,pending:=pd })):=fun pe x hq hx =>
     ⟨pe,_,e3,_,hq,hx,hS4,hF.clean (hLs.trans nq.toLater),hL.trans (hLs.trans nq.toLater),hN,zn.later nq.toLater,hZ⟩
    have ek:∀(hb:st≠.busy),(Instr.endLoop (w.heap.size+1)).run G.P w3=.ok pd (w3.putObj (w.heap.size+1) (.loop { r with state:=.exhausted,pending:=pd })):=fun hb=>run_endLoop gy hb
    have go:st≠.busy->Zo5 σ.bx.length r (VB f) Q σ3 pd->rangePost (fw none) n G.P (w.heap.size+1) (ZM G e0 σ0 w0 ds N (Kept ks t0) Q) { a with defers:=[J5 w.heap.size]++a.defers } (.returned u) w3:=fun hb hq=>by
     refine ⟨pd,_,ek hb,?_⟩;unfold Zo5 at hq
     split at hq
     ·exact gc .normal .normal hq rfl
     ·exact wpIn_ret (gc .ret .ret hq rfl)
     ·rename_i id;exact wpIn_exit (gc (.exit id) (.exit id) hq rfl)
     ·rename_i t;exact wpIn_goto (gc (.goto t) (.goto t) hq rfl)
     grind
    grind
   grind
  exact h.elim
 | _=>intro C ro e0 σ0 w0 N ds n hC hM dz _ ks t0 _ Q e σ w a f hS hF hL hN ba hZ h;exact h.elim
end
end Go.PM
end
