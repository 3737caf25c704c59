/- A part of the proof: plain logic, contracts and laws over the given program. -/
import Derived.Scope
import Derived.RangeFuncRecord
import Derived.RangeFuncCalls
import Derived.RangeFuncLeaves
import Derived.Laws.Sem
import Derived.Test.YtkoicjdlpkaopaaGreatDoorU02
set_option linter.unusedVariables false
set_option linter.unusedSimpArgs false
set_option linter.all false
set_option maxRecDepth 100000
set_option maxHeartbeats 16000000
section
namespace Go.PM
section
variable {G:GE} {e e':Env} {σ σ':St} {w w':World}
inductive NV (n:Nat) (as:List (Option Nat)):PV->PV->Prop
 | sl (t e:Nat) (rows:List (List D)) (j:Nat) (h:as[j]?=some (some t)):NV n as (.sl t e rows) (.sl j e rows)
 | nils (e j:Nat) (h:as[j]?=some none):NV n as (.nils e) (.sl j e [])
 | cl (v:PV) (h:bnd n v=true):NV n as v (clean v)
 | un (v:PV):NV n as v .undef
 | clN (v:PV) (h:bnd n v=true):NV n as v (cleanN v)
structure NInv (S tk:List Nat) (as:List (Option Nat)):Prop where
 sub:∀t,t∈tk->t∈S
 mem:∀(i t:Nat),as[i]?=some (some t)->t∈S/\t∉tk
 inj:∀(i j t:Nat),as[i]?=some (some t)->as[j]?=some (some t)->i=j
theorem NV.ext {n:Nat} {as as':List (Option Nat)} {x y:PV} (h:NV n as x y) (hx:∃m,as'=as++m):NV n as' x y:=by
 obtain ⟨m,rfl⟩:=hx;have:∀(j:Nat) (q:Option Nat),as[j]?=some q->(as++m)[j]?=some q:=fun j q hq=>by
  rw [TM (Tj.1 hq).1];exact hq
 cases h with
 | sl t e rows j h=>exact .sl t e rows j (this _ _ h)
 | nils e j h=>exact .nils e j (this _ _ h)
 | cl _ h=>exact .cl _ h
 | un _=>exact .un _
 | clN _ h=>exact .clN _ h
theorem W9 {t x:Nat}:∀{l:List Nat},x∈Zaz t l->x∈l/\x≠t
 | [],h=>by simp [Zaz] at h
 | y::l,h=>by
  simp only [Zaz] at h;split at h
  ·exact ⟨Tx _ (W9 h).1,(W9 h).2⟩
  rename_i hb
  rcases Tv.1 h with rfl | h
  ·exact ⟨sM,fun e=>by subst e;simp at hb⟩
  exact ⟨Tx _ (W9 h).1,(W9 h).2⟩
theorem ZaK {as as' as'':List (Option Nat)} (h:∃m,as'=as++m) (h':∃m,as''=as'++m):∃m,as''=as++m:=by
 obtain ⟨m,rfl⟩:=h;obtain ⟨m',rfl⟩:=h';exact ⟨m++m',by rw [Th]⟩
theorem NInv.add {S tk:List Nat} {as:List (Option Nat)} (h:NInv S tk as) {t:Nat} (ht:t∈tk):NInv S (Zaz t tk) (as++[some t]):=by
 have key:∀(i s:Nat),(as++[some t])[i]?=some (some s)->(as[i]?=some (some s))\/(i=as.length/\s=t):=fun i s hi=>by
  by_cases ah:i<as.length
  ·rw [TM ah] at hi;exact .inl hi
  rw [TX oM] at hi;have:=(Tj.1 hi).1;simp only [TE] at this;have h0:i - as.length=0:=oM;rw [h0] at hi;simp at hi;exact .inr ⟨oM,hi.symm⟩
 refine ⟨fun x hx=>h.sub x (W9 hx).1,fun i s hi=>?_,fun i j s hi hj=>?_⟩
 ·rcases key i s hi with h1 | ⟨_,rfl⟩
  ·exact ⟨(h.mem i s h1).1,fun hm=>(h.mem i s h1).2 (W9 hm).1⟩
  exact ⟨h.sub _ ht,fun hm=>(W9 hm).2 rfl⟩
 rcases key i s hi with h1 | ⟨h1,rfl⟩ <;> rcases key j s hj with h2 | ⟨h2,h3⟩
 ·exact h.inj i j s h1 h2
 ·subst h3;exact absurd ht (h.mem i _ h1).2
 ·exact absurd ht (h.mem j _ h2).2
 omega
theorem NInv.nil {S tk:List Nat} {as:List (Option Nat)} (h:NInv S tk as):NInv S tk (as++[none]):=by
 have key:∀(i s:Nat),(as++[none])[i]?=some (some s)->(as[i]?=some (some s)):=fun i s hi=>by
  by_cases ah:i<as.length
  ·rw [TM ah] at hi;exact hi
  rw [TX oM] at hi;have:=(Tj.1 hi).1;simp only [TE] at this;have h0:i - as.length=0:=oM;rw [h0] at hi;simp at hi
 exact ⟨h.sub,fun i s hi=>h.mem i s (key i s hi),fun i j s hi hj=>h.inj i j s (key i s hi) (key j s hj)⟩
theorem ZtI {n:Nat} {S tk:List Nat} {as:List (Option Nat)} (hI:NInv S tk as) {v:PV} {K:PV->List Nat->Nat->Prop} (h:Zty n tk as.length v K) :
  ∃v' tk' as',K v' tk' as'.length/\(∃m,as'=as++m)/\NInv S tk' as'/\NV n as' v v':=by
 have gen:∀v,(match bnd n v with | true=>J1 (clean v) fun v=>K v tk as.length | false=>K .undef tk as.length:Prop)->∃v' tk' as',K v' tk' as'.length/\(∃m,as'=as++m)/\NInv S tk' as'/\NV n as' v v':=fun v h=>by
  split at h
  ·rename_i hb;rw [YC] at h;exact ⟨_,tk,as,h,⟨[],sM⟩,hI,.cl v hb⟩
  exact ⟨_,tk,as,h,⟨[],sM⟩,hI,.un v⟩
 cases v with
 | sl t el rows =>
  simp only [Zty] at h;exact m111
 | nils el=>exact ⟨_,tk,as++[none],by simpa [Zty] using h,⟨[none],rfl⟩,hI.nil,.nils el _ sM⟩
 | _=>exact gen _ h
theorem Zfy {n:Nat} {S:List Nat}:∀{vs:List PV} {tk:List Nat} {as:List (Option Nat)} (_:NInv S tk as) {K:List PV->List Nat->Nat->Prop},Ztz n vs tk as.length K ->
  ∃vs' tk' as',K vs' tk' as'.length/\(∃m,as'=as++m)/\NInv S tk' as'/\vs'.length=vs.length/\∀(i:Nat) (x y:PV),vs[i]?=some x->vs'[i]?=some y->NV n as' x y
 | [],tk,as,hI,K,h=>⟨[],tk,as,h,⟨[],sM⟩,hI,rfl,fun i x y hx=>by simp at hx⟩
 | v::vs,tk,as,hI,K,h=>by
  obtain ⟨v',tk1,as1,h1,fd,nz,hv⟩:=ZtI hI h;obtain ⟨vs',tk2,as2,h2,dt,jk,hl,fg⟩:=Zfy nz h1;exact m63
theorem Zjv {n:Nat} {S tk:List Nat} {as:List (Option Nat)} (hI:NInv S tk as) {v:PV} {K:PV->List Nat->Nat->Prop} (h:Zfr n tk as.length v K) :
  ∃v' tk' as',K v' tk' as'.length/\(∃m,as'=as++m)/\NInv S tk' as'/\NV n as' v v':=by
 have gen:∀v,(match bnd n v with | true=>J1 (cleanN v) fun v=>K v tk as.length | false=>K .undef tk as.length:Prop)->∃v' tk' as',K v' tk' as'.length/\(∃m,as'=as++m)/\NInv S tk' as'/\NV n as' v v':=fun v h=>by
  split at h
  ·rename_i hb;rw [YC] at h;exact ⟨_,tk,as,h,⟨[],sM⟩,hI,.clN v hb⟩
  exact ⟨_,tk,as,h,⟨[],sM⟩,hI,.un v⟩
 cases v with
 | sl t el rows =>
  simp only [Zfr] at h;exact m111
 | nils el=>exact ⟨_,tk,as++[none],by simpa [Zfr] using h,⟨[none],rfl⟩,hI.nil,.nils el _ sM⟩
 | _=>exact gen _ h
theorem Zfz {n:Nat} {S:List Nat}:∀{vs:List PV} {tk:List Nat} {as:List (Option Nat)} (_:NInv S tk as) {K:List PV->List Nat->Nat->Prop},Zk8 n vs tk as.length K ->
  ∃vs' tk' as',K vs' tk' as'.length/\(∃m,as'=as++m)/\NInv S tk' as'/\vs'.length=vs.length/\∀(i:Nat) (x y:PV),vs[i]?=some x->vs'[i]?=some y->NV n as' x y
 | [],tk,as,hI,K,h=>⟨[],tk,as,h,⟨[],sM⟩,hI,rfl,fun i x y hx=>by simp at hx⟩
 | v::vs,tk,as,hI,K,h=>by
  obtain ⟨v',tk1,as1,h1,fd,nz,hv⟩:=Zjv hI h;obtain ⟨vs',tk2,as2,h2,dt,jk,hl,fg⟩:=Zfz nz h1;exact m63
inductive NB (n:Nat) (as:List (Option Nat)):Box->Box->Prop
 | cells (t:TypeId) (cs cs':List PV) (hl:cs'.length=cs.length) (h:∀(i:Nat) (x y:PV),cs[i]?=some x->cs'[i]?=some y->NV n as x y):NB n as (.cells t cs) (.cells t cs')
 | iter (s:List UInt8) (p:Nat):NB n as (.iter s p) (.iter s p)
 | loop (st:LoopState) (pd:Option Code) (r:Loop):NB n as (.loop st pd r) (.loop st pd r)
theorem NB.ext {n:Nat} {as as':List (Option Nat)} {x y:Box} (h:NB n as x y) (hx:∃m,as'=as++m):NB n as' x y:=by
 cases h with
 | cells t cs cs' hl h=>exact .cells t cs cs' hl fun i x y h1 h2=>(h i x y h1 h2).ext hx
 | iter s p=>exact .iter s p
 | loop st pd r=>exact .loop st pd r
theorem Zaa {n:Nat} {S:List Nat}:∀{m:Nat} {bs:List Box} {tk:List Nat} {as:List (Option Nat)} (_:NInv S tk as) {K:List Box->List Nat->Nat->Prop},Zh9 n m bs tk as.length K ->
  ∃bs' tk' as',K bs' tk' as'.length/\(∃m,as'=as++m)/\NInv S tk' as'/\bs'.length=m/\m<=bs.length/\∀(i:Nat) (x y:Box),bs[i]?=some x->bs'[i]?=some y->NB n as' x y
 | 0,bs,tk,as,hI,K,h=>⟨[],tk,as,by simpa [Zh9] using h,⟨[],sM⟩,hI,rfl,T7 _,fun i x y _ hy=>by simp at hy⟩
 | m+1,[],tk,as,hI,K,h=>h.elim
 | m+1,.cells t cs::bs,tk,as,hI,K,h=>by
  obtain ⟨cs',tk1,as1,h1,fd,nz,dx,hv⟩:=Zfy hI h;obtain ⟨bs',tk2,as2,h2,dt,jk,hl,hm,fg⟩:=Zaa nz h1;refine ⟨.cells t cs'::bs',tk2,as2,h2,ZaK fd dt,jk,by simp [hl],sO,fun i x y hx hy=>?_⟩
  cases i with
  | zero=>simp at hx hy;subst hx;subst hy;exact .cells t cs cs' dx fun i x y h1 h2=>(hv i x y h1 h2).ext dt
  | succ i=>exact fg i x y (by simpa using hx) (by simpa using hy)
 | m+1,.iter s p::bs,tk,as,hI,K,h=>by
  obtain ⟨bs',tk2,as2,h2,dt,jk,hl,hm,fg⟩:=Zaa hI (K:=fun l tk k=>K (.iter s p::l) tk k) h;refine ⟨.iter s p::bs',tk2,as2,h2,dt,jk,by simp [hl],sO,fun i x y hx hy=>?_⟩
  cases i with
  | zero=>simp at hx hy;subst hx;subst hy;exact .iter s p
  | succ i=>exact fg i x y (by simpa using hx) (by simpa using hy)
 | m+1,.loop st pd r::bs,tk,as,hI,K,h=>by
  obtain ⟨bs',tk2,as2,h2,dt,jk,hl,hm,fg⟩:=Zaa hI (K:=fun l tk k=>K (.loop st pd r::l) tk k) h;refine ⟨.loop st pd r::bs',tk2,as2,h2,dt,jk,by simp [hl],sO,fun i x y hx hy=>?_⟩
  cases i with
  | zero=>simp at hx hy;subst hx;subst hy;exact .loop st pd r
  | succ i=>exact fg i x y (by simpa using hx) (by simpa using hy)
structure Drop (n:Nat) (e:Env) (σ:St) (e':Env) (σ':St):Prop where
 le:n<=σ.bx.length
 len:σ'.bx.length=n
 beta:e'.β=e.β
 X:e'.X=e.X
 okc:∀b off,okc e σ b off->okc e' σ' b off
 tok:∀t,t∈σ'.tk->∀p,e'.M t=some p->∃t0,t0∈σ.tk/\e.M t0=some p
theorem Later.drop {e1:Env} {σ1:St} {w1:World} {n:Nat} (h:Later e1 σ1 w1 e σ w) (hd:Drop n e σ e' σ') (hn:σ1.bx.length<=n):Later e1 σ1 w1 e' σ' w where
 len:=by rw [hd.len];exact hn
 beta:=by rw [hd.beta];exact h.beta
 X:=by rw [hd.X];exact h.X
 pres:=fun b off u hu ho=>let ⟨h1,h2⟩:=h.pres b off u hu ho;⟨hd.okc b off h1,h2⟩
 blocks:=h.blocks
 size:=h.size
 os:=h.os
 tape:=h.tape
 output:=h.output
 fresh:=fun i h1 h2=>by rw [hd.len] at h2;rw [hd.beta];exact h.fresh i h1 (TH h2 hd.le)
 ftok:=fun t ht p hp=>let ⟨t0,h0,h1⟩:=hd.tok t ht p hp;h.ftok t0 h0 p h1
theorem Marks.drop {lo:Nat×List Deferred×Bool} {n:Nat} {l:List Deferred} (h:Marks lo e σ w l) (hd:Drop n e σ e' σ'):Marks lo e' σ' w l:=by
 obtain ⟨h0,rs,h1,dv,h2,h3⟩:=h;refine ⟨h0,rs,h1,dv,h2,fun r hr=>?_⟩;obtain ⟨g1,g2,g3,g4⟩:=h3 r hr;refine ⟨g1,g2,fun i hi=>?_,fun t ht p hp=>?_⟩
 ·rw [hd.beta];rw [hd.len] at hi;exact g3 i (TH hi hd.le)
 obtain ⟨t0,h0,ol⟩:=hd.tok t ht p hp;exact g4 t0 h0 p ol
theorem mem_toks {t:Nat}:∀{k:Nat},t∈toks k↔t<k
 | 0=>by simp [toks]
 | k+1=>by simp only [toks,Tv,mem_toks];omega
def Env.re (e:Env) (as:List (Option Nat)):Env:={ e with M:=fun j=>(as[j]?.join).bind e.M }
theorem Zbv {as:List (Option Nat)} {j:Nat} {p:Nat×Nat} (h:(e.re as).M j=some p):∃t,as[j]?=some (some t)/\e.M t=some p:=by
 simp only [Env.re] at h
 cases hj:as[j]? with
 | none=>rw [hj] at h;simp at h
 | some q =>
 cases q with
 | none=>rw [hj] at h;simp at h
 | some t=>rw [hj] at h;exact ⟨t,rfl,by simpa using h⟩
theorem Zc7 {n:Nat} (hn:n<=σ.bx.length) {as:List (Option Nat)} {tk:List Nat} (hI:NInv σ.tk tk as) {bs:List Box} (hb:bs.length=n):Drop n e σ (e.re as) ⟨bs,toks as.length,as.length⟩ where
 le:=hn
 len:=hb
 beta:=rfl
 X:=rfl
 okc:=fun b off ho=>⟨ho.1,fun i hi=>ho.2.1 i (TH hi (by rw [show (St.mk bs (toks as.length) as.length).bx.length=n from hb];exact hn)),fun t ht p hp uv=>by
  obtain ⟨t0,h1,h2⟩:=Zbv hp;exact ho.2.2 t0 (hI.mem _ _ h1).1 p h2 uv⟩
 tok:=fun t ht p hp=>by
  obtain ⟨t0,h1,h2⟩:=Zbv hp;exact ⟨t0,(hI.mem _ _ h1).1,h2⟩
theorem NV.rel {n:Nat} (hn:n<=σ.bx.length) {as:List (Option Nat)} {tk:List Nat} (hI:NInv σ.tk tk as) {bs:List Box} (hb:bs.length=n) {x y:PV} {v:Value} (h:NV n as x y) (hv:VRel G e σ w x v) :
  VRel G (e.re as) ⟨bs,toks as.length,as.length⟩ w y v:=by
 have hd:=Zc7 (e:=e) hn hI hb;have ah:∀(j:Nat) (q:Option Nat),as[j]?=some q->j<as.length:=fun j q hq=>(Tj.1 hq).1
 cases h with
 | sl t el rows j h =>
  cases hv with
  | sl _ _ _ _ o7 bf ht =>
  refine .sl j el rows v (ah _ _ h) (bf.mono fun b off u hu ho=>⟨hd.okc b off ho,hu⟩) fun _=>?_
  have hM:(e.re as).M j=e.M t:=by simp [Env.re,h]
  rcases ht (hI.mem _ _ h).1 with ⟨h1,h2,h3⟩ | ⟨sz,h1,h2,h3,b,off,cap,cs,ty,fz,h4,h5,h6,h7,h8,h9,h10⟩
  ·exact .inl ⟨h1,h2,hM.trans h3⟩
  exact .inr ⟨sz,h1,h2,h3,b,off,cap,cs,ty,fz,h4,h5,h6,h7,h8,h9,hM.trans h10⟩
 | nils el j h =>
  cases hv with
  | nils =>
  refine .sl j el [] _ (ah _ _ h) .slnil fun _=>.inl ⟨rfl,rfl,?_⟩
  simp [Env.re,h]
 | cl _ h=>exact VRel.clean (e:=e) (e':=e.re as) (σ:=σ) (σ':=⟨bs,toks as.length,as.length⟩) (w:=w) (w':=w) (n:=n) (by show n<=bs.length;omega) (fun _ _=>rfl) (fun b off u hu ho=>⟨hd.okc b off ho,hu⟩) hv h
 | un _=>exact .undef v
 | clN _ h=>exact VRel.cleanN (e:=e) (e':=e.re as) (σ:=σ) (σ':=⟨bs,toks as.length,as.length⟩) (w:=w) (w':=w) (n:=n) (by show n<=bs.length;omega) (fun _ _=>rfl) (fun b off u hu ho=>⟨hd.okc b off ho,hu⟩) hv h
theorem ZfA {n:Nat} (hS:SRel G e σ w) (hn:n<=σ.bx.length) {as:List (Option Nat)} {tk:List Nat} (hI:NInv σ.tk tk as) {bs:List Box} (hb:bs.length=n)
  (l7:∀(i:Nat) (x y:Box),σ.bx[i]?=some x->bs[i]?=some y->NB n as x y):SRel G (e.re as) ⟨bs,toks as.length,as.length⟩ w where
 inj:=fun i j hi hj h=>hS.inj i j (by simp only at hi;omega) (by simp only at hj;omega) h
 box:=fun i y hy=>by
  have hi:=(Tj.1 hy).1;simp only at hi;have hx:σ.bx[i]?=some σ.bx[i]:=Ti oM;have hB:=hS.box i _ hx;have hN:=l7 i _ y hx hy;generalize σ.bx[i]=x at hB hN
  cases hN with
  | cells t cs cs' hl h =>
   obtain ⟨vs,h1,h2,h3⟩:=hB;refine ⟨vs,h1,by rw [hl];exact h2,fun k z u hz hu=>?_⟩;have hk:=(Tj.1 hz).1;have hx:cs[k]?=some cs[k]:=Ti oM;exact ⟨(h k _ z hx hz).rel hn hI hb (h3 k _ u hx hu).1,(h3 k _ u hx hu).2⟩
  | iter s p=>exact hB
  | loop st pd r=>exact hB
 low:=fun i hi=>hS.low i (by simp only at hi;omega)
 tkn:=fun t ht=>mem_toks.1 ht
 own:=fun t ht p hp=>by
  obtain ⟨t0,h1,h2⟩:=Zbv hp;obtain ⟨h3,h4,h5⟩:=hS.own t0 (hI.mem _ _ h1).1 p h2;exact ⟨h3,fun i hi=>h4 i (by simp only at hi;omega),h5⟩
 dis:=fun t t' ht ht' an p p' hp i7=>by
  obtain ⟨t0,h1,h2⟩:=Zbv hp;obtain ⟨t1,h3,h4⟩:=Zbv i7;exact hS.dis t0 t1 (hI.mem _ _ h1).1 (hI.mem _ _ h3).1 (fun h=>an (hI.inj _ _ _ h1 (by rw [h];exact h3))) p p' h2 h4
 xlt:=hS.xlt
 xown:=fun t ht p hp=>by
  obtain ⟨t0,h1,h2⟩:=Zbv hp;exact hS.xown t0 (hI.mem _ _ h1).1 p h2
 glob:=hS.glob
 big:=hS.big
theorem NInv.start (S:List Nat) (tk:List Nat) (h:∀t,t∈tk->t∈S):NInv S tk []:=⟨h,fun i t h=>by simp at h,fun i j t h=>by simp at h⟩
theorem Zjw (hS:SRel G e σ w) {n:Nat} {vs:List PV} {K:List PV->St->Prop} (h:Zmr n vs σ K) :
  ∃vs' σ' e',K vs' σ'/\SRel G e' σ' w/\Drop n e σ e' σ'/\vs'.length=vs.length/\∀(i:Nat) (x y:PV) (u:Value),vs[i]?=some x->vs'[i]?=some y->VRel G e σ w x u->VRel G e' σ' w y u:=by
 obtain ⟨vs',tk1,as1,h1,fd,nz,hl,hv⟩:=Zfy (as:=[]) (NInv.start σ.tk σ.tk fun _ h=>h) h;obtain ⟨bs,tk2,as2,h2,dt,jk,cu,hn,l7⟩:=Zaa nz h1;exact ⟨vs',⟨bs,toks as2.length,as2.length⟩,e.re as2,h2,ZfA hS hn jk cu l7,Zc7 hn jk cu,hl,fun i x y u hx hy hr=>((hv i x y hx hy).ext dt).rel hn jk cu hr⟩
inductive NVA (n:Nat) (as:List (Option Nat)):PV->PV->Prop
 | one (x y:PV) (h:NV n as x y):NVA n as x y
 | agg (cs cs':List PV) (hl:cs'.length=cs.length) (h:∀(i:Nat) (x y:PV),cs[i]?=some x->cs'[i]?=some y->NV n as x y):NVA n as (.agg cs) (.agg cs')
theorem NVA.ext {n:Nat} {as as':List (Option Nat)} {x y:PV} (h:NVA n as x y) (hx:∃m,as'=as++m):NVA n as' x y:=by
 cases h with
 | one _ _ h=>exact .one _ _ (h.ext hx)
 | agg cs cs' hl h=>exact .agg cs cs' hl fun i x y h1 h2=>(h i x y h1 h2).ext hx
theorem NVA.rel {n:Nat} (hn:n<=σ.bx.length) {as:List (Option Nat)} {tk:List Nat} (hI:NInv σ.tk tk as) {bs:List Box} (hb:bs.length=n) {x y:PV} {v:Value} (h:NVA n as x y) (hv:VRel G e σ w x v) :
  VRel G (e.re as) ⟨bs,toks as.length,as.length⟩ w y v:=by
 cases h with
 | one _ _ h=>exact h.rel hn hI hb hv
 | agg cs cs' hl h =>
 cases hv with
 | agg _ vs hs h2 h1 =>
 refine .agg cs' vs (by rw [hs,hl]) (fun i y u hy hu=>?_) h1;have hi:=(Tj.1 hy).1;rw [hl] at hi;have hx:=Ti hi;exact (h i _ y hx hy).rel hn hI hb (h2 i _ u hx hu)
theorem Zqv {n:Nat} {S tk:List Nat} {as:List (Option Nat)} (hI:NInv S tk as) {v:PV} {K:PV->List Nat->Nat->Prop} (h:Zk9 n tk as.length v K) :
  ∃v' tk' as',K v' tk' as'.length/\(∃m,as'=as++m)/\NInv S tk' as'/\NVA n as' v v':=by
 have gen:Zfr n tk as.length v K->∃v' tk' as',K v' tk' as'.length/\(∃m,as'=as++m)/\NInv S tk' as'/\NVA n as' v v':=fun h=>by
  obtain ⟨v',tk',as',h1,h2,h3,h4⟩:=Zjv hI h;exact ⟨v',tk',as',h1,h2,h3,.one _ _ h4⟩
 cases v with
 | agg cs =>
  simp only [Zk9] at h;obtain ⟨cs',tk',as',h1,h2,h3,h4,h5⟩:=Zfz hI h;exact ⟨_,tk',as',h1,h2,h3,.agg cs cs' h4 h5⟩
 | _=>exact gen h
theorem ZfB {n:Nat} {S:List Nat}:∀{vs:List PV} {tk:List Nat} {as:List (Option Nat)} (_:NInv S tk as) {K:List PV->List Nat->Nat->Prop},Zla n vs tk as.length K ->
  ∃vs' tk' as',K vs' tk' as'.length/\(∃m,as'=as++m)/\NInv S tk' as'/\vs'.length=vs.length/\∀(i:Nat) (x y:PV),vs[i]?=some x->vs'[i]?=some y->NVA n as' x y
 | [],tk,as,hI,K,h=>⟨[],tk,as,h,⟨[],sM⟩,hI,rfl,fun i x y hx=>by simp at hx⟩
 | v::vs,tk,as,hI,K,h=>by
  obtain ⟨v',tk1,as1,h1,fd,nz,hv⟩:=Zqv hI h;obtain ⟨vs',tk2,as2,h2,dt,jk,hl,fg⟩:=ZfB nz h1;exact m63
theorem Zqw {md n:Nat} {S:List Nat} {vs:List PV} {tk:List Nat} {as:List (Option Nat)} (hI:NInv S tk as) {K:List PV->List Nat->Nat->Prop} (h:Zqr md n vs tk as.length K) :
  ∃vs' tk' as',K vs' tk' as'.length/\(∃m,as'=as++m)/\NInv S tk' as'/\vs'.length=vs.length/\∀(i:Nat) (x y:PV),vs[i]?=some x->vs'[i]?=some y->NVA n as' x y:=by
 unfold Zqr at h
 split at h
 ·obtain ⟨a,b,c,h1,h2,h3,h4,h5⟩:=Zfy hI h;exact ⟨a,b,c,h1,h2,h3,h4,fun i x y h6 h7=>.one _ _ (h5 i x y h6 h7)⟩
 ·obtain ⟨a,b,c,h1,h2,h3,h4,h5⟩:=Zfz hI h;exact ⟨a,b,c,h1,h2,h3,h4,fun i x y h6 h7=>.one _ _ (h5 i x y h6 h7)⟩
 exact ZfB hI h
theorem Zc8 (hS:SRel G e σ w) {ag:Bool} {n:Nat} {vs:List PV} {K:List PV->St->Prop} (h:JK ag n vs σ K) :
  ∃vs' σ' e',K vs' σ'/\SRel G e' σ' w/\Drop n e σ e' σ'/\vs'.length=vs.length/\∀(i:Nat) (x y:PV) (u:Value),vs[i]?=some x->vs'[i]?=some y->VRel G e σ w x u->VRel G e' σ' w y u:=by
 cases ag with
 | false=>exact Zjw hS h
 | true =>
 obtain ⟨vs',tk1,as1,h1,fd,nz,hl,hv⟩:=ZfB (as:=[]) (NInv.start σ.tk σ.tk fun _ h=>h) h;obtain ⟨bs,tk2,as2,h2,dt,jk,cu,hn,l7⟩:=Zaa nz h1;exact ⟨vs',⟨bs,toks as2.length,as2.length⟩,e.re as2,h2,ZfA hS hn jk cu l7,Zc7 hn jk cu,hl,fun i x y u hx hy hr=>((hv i x y hx hy).ext dt).rel hn jk cu hr⟩
end
end Go.PM
end

section
namespace Go.PM
theorem Flat.front {ok:Nat->Nat->Prop} {w:World} {r1 r2:List (List D)} {sz:Nat} {xs:List Value} (h:Flat ok w (r1++r2) sz xs):Flat ok w r1 sz (xs.take (r1.length * sz)):=by
 have hl:=h.len;rw [Tb,Si] at hl;refine ⟨by rw [Sn];omega,fun r hr=>h.wid r (TZ.2 (.inl hr)),fun a b y u hb hy hu=>?_⟩;have ha:a<r1.length:=by
  apply Classical.byContradiction
  intro hn
  rw [Sk oM] at hy;cases hy
 refine h.rel a b y u hb (by rw [TM ha];exact hy) ?_;rw [List.getElem?_take] at hu;split at hu
 ·exact hu
 cases hu
section
variable {G:GE} {T:Tab} {e:Env} {σ:St} {w:World}
theorem Zin (hT:TabOK T G.P) (hS:SRel G e σ w) {t tx el ty:Nat} (nc:(T.get t).kind=.slice el) (ej:(T.get el).kind≠.other) (ay:0<(T.get el).size)
  {rows:List (List D)} {z:List D} {v vx:Value} {px:PV} (hD:DRel (okc e σ) w (.sl rows) v) (tk0:List Nat) (cm:∀x,x∈tk0->x∈σ.tk)
  (hO:(v=.slice none 0 0/\rows=[])\/∃tok,tok∈σ.tk/\tok∉tk0/\Owned G e w tok el rows v)
  (hm:Ul T tx el px=some [z]) (hx:VRel G e σ w px vx) (hw:z.length=(T.get el).size)
  (kp:(rows.length+1) * (T.get el).bytes<=2 ^ 47) (ab:rows.length+1<=2 ^ 47) :
  ∃w1 b off cap e1,(Builtin.append_ #[t,tx] ty #[v,vx]).run G.P w=.ok (.slice (some ⟨b,off,none⟩) (rows.length+1) cap) w1/\rows.length+1<=cap /\
   Stepped e σ w e1 { σ with tk:=σ.nx::tk0,nx:=σ.nx+1 } w1/\SRel G e1 { σ with tk:=σ.nx::tk0,nx:=σ.nx+1 } w1 /\
   VRel G e1 { σ with tk:=σ.nx::tk0,nx:=σ.nx+1 } w1 (.sl σ.nx el rows) (.slice (some ⟨b,off,none⟩) rows.length cap):=by
 obtain ⟨news,lh,fc⟩:=ZsD hT hm hx (fun r hr=>by simp at hr;rw [hr];exact hw) ay rfl;obtain ⟨yd,nt,gz⟩:=J7 hT hS ej tk0 hO;obtain ⟨v',w1,am,rf,li,jn,dz,ba,iz,kq⟩:=ZeL (ty:=ty) (more:=[z]) hT hS nc ej ay hD nt yd lh fc kp ab;rcases kq with ⟨_,h⟩ | ⟨b,off,cap,cs,tyb,fz,rfl,hb,hc,hh,dm,ky,ke,xs,hxs,hxc⟩
 ·simp at h
 obtain ⟨e1,h1,h2,h3⟩:=Ji (more:=[]) (v':=.slice (some ⟨b,off,none⟩) rows.length cap) hT hS ej ay hD tk0 cm nt (fun r h=>by cases h) gz rf li jn dz ba iz
  (.inr ⟨b,off,cap,cs,tyb,fz,sM,hb,by simp at hc |-;omega,hh,dm,ky,ke,xs.take (rows.length * (T.get el).size),by rw [TT];exact hxs.front,fun k u hk=>hxc k u (by
   rw [List.getElem?_take] at hk;split at hk
   ·exact hk
   cases hk)⟩)
 rw [TT] at h3;exact ⟨w1,b,off,cap,e1,by rw [am];simp,by simpa using hc,h1,h2,h3⟩
theorem ZmW (hT:TabOK T G.P) (hS:SRel G e σ w) {el tok b off cap:Nat} (ej:(T.get el).kind≠.other) (ay:0<(T.get el).size)
  {rows:List (List D)} {row:List D} {us:List Value} (hV:VRel G e σ w (.sl tok el rows) (.slice (some ⟨b,off,none⟩) rows.length cap)) (ao:tok∈σ.tk) (hcap:rows.length+1<=cap)
  (fc:Flat (okc e σ) w [row] (T.get el).size us) :
  (∀j,j<us.length->(w.cell? ⟨b,off+rows.length * (T.get el).size+j,none⟩).isSome=true)/\(∀j,j<us.length->w.frozen? ⟨b,off+rows.length * (T.get el).size+j,none⟩=false) /\
  (∀i,i<σ.bx.length->e.β i≠b) /\
  ∃e1,Stepped e σ w e1 { σ with tk:=σ.nx::Zaz tok σ.tk,nx:=σ.nx+1 } (w.setCells b (off+rows.length * (T.get el).size) us)/\SRel G e1 { σ with tk:=σ.nx::Zaz tok σ.tk,nx:=σ.nx+1 } (w.setCells b (off+rows.length * (T.get el).size) us) /\
   VRel G e1 { σ with tk:=σ.nx::Zaz tok σ.tk,nx:=σ.nx+1 } (w.setCells b (off+rows.length * (T.get el).size) us) (.sl σ.nx el (rows++[row])) (.slice (some ⟨b,off,none⟩) (rows.length+1) cap):=by
 cases hV with
 | sl _ _ _ _ hn hD nu =>
 have cm:∀x,x∈Zaz tok σ.tk->x∈σ.tk:=fun x hx=>((Vv _ _ _).1 hx).1
 have hnt:tok∉Zaz tok σ.tk:=fun h=>((Vv _ _ _).1 h).2 rfl
 obtain ⟨yd,nt,gz⟩:=J7 hT hS ej (Zaz tok σ.tk) (.inr ⟨tok,ao,hnt,nu ao⟩);rcases yd with ⟨h,_⟩ | ⟨b',off',cap',cs,tyb,fz,he,hb,hc,hh,dm,ky,og⟩
 ·cases h
 cases he
 obtain ⟨olds,af,ac,ai,av⟩:=ZBM nt ay hD;have uf:us.length=(T.get el).size:=by rw [fc.len];simp
 have yv:(rows.length+1) * (T.get el).size<=cap * (T.get el).size:=T4 _ hcap;rw [Si] at yv;have ba:∀k,k<cs.size->(w.cell? ⟨b,k,none⟩).isSome=true:=fun k hk=>by simp [World.cell?,hh,hk]
 obtain ⟨r1,r2,r3,r4⟩:=Xr b us (off+rows.length * (T.get el).size) w;obtain ⟨cs',q1,q2,q3⟩:=XH b us (off+rows.length * (T.get el).size) w cs tyb fz hh;refine ⟨fun j hj=>ba _ (by have:=dm.1;omega),fun j hj=>?_,og,?_⟩
 ·simp only [World.frozen?,hh];have h1:=ky.2 (off+rows.length * (T.get el).size+j) oM
  by_cases h2:fz.1<=off+rows.length * (T.get el).size+j
  ·have:=h1 h2;simp;intro _;omega
  simp;omega
 refine Ji (v:=.slice (some ⟨b,off,none⟩) rows.length cap) hT hS ej ay hD (Zaz tok σ.tk) cm nt (fun r h=>by simp at h;rw [h];exact fc.wid _ sM) gz r1 r2 r3 (by rw [Y2];exact Tr _)
  (fun b' o' u hu ho=>?_) (fun b' rc hn=>r4 b' (hn b off cap rfl)) (.inr ⟨b,off,cap,cs',tyb,fz,sM,hb,by simpa using hcap,q1,⟨by rw [q2];exact dm.1,dm.2.1,dm.2.2.1,dm.2.2.2⟩,ky,.inl ⟨cap,rfl⟩,olds++us,af.append fc,fun k u hk=>?_⟩)
 ·by_cases nd:b'=b
  ·subst nd
   by_cases hoo:off+rows.length * (T.get el).size<=o'
   ·exact .inr ⟨b',off,cap,rfl,rfl,hoo⟩
   left
   rw [World.cell?_setCells_out b' us _ w ⟨b',o',none⟩ (fun _ _=>.inl (by show o'<_;omega))];exact hu
  left;simpa [World.cell?,r4 b' nd] using hu
 by_cases ir:k<olds.length
 ·rw [TM ir] at hk;rw [World.cell?_setCells_out b us _ w ⟨b,off+k,none⟩ (fun _ _=>.inl (by show off+k<_;rw [<- af.len];omega))];exact ac k u hk
 rw [TX oM] at hk;have xa:=(Tj.1 hk).1;have:=World.cell?_setCells_in b us (off+rows.length * (T.get el).size) w (fun j hj=>ba _ (by have:=dm.1;omega)) (k - olds.length) xa;exact m166
end
structure Hole4 (ops:Array Oper) (m:Nat) (I S F H:Oper):Prop where
 size:ops.size=m+5
 oI:ops[m+1]?=some I
 oS:ops[m+2]?=some S
 oF:ops[m+3]?=some F
 oH:ops[m+4]?=some H
 gI:I.guard=none
 gS:S.guard=none
 gF:F.guard=none
 gH:H.guard=none
 nI:∀c,I.op≠.defer c
 nS:∀c,S.op≠.defer c
 nF:∀c,F.op≠.defer c
 nH:∀c,H.op≠.defer c
 eI:∀ed∈I.after,Region.binds .any ed=true->ed.on<=m
 eF:∀ed∈F.after,Region.binds .any ed=true->ed.on<=m
 eS:∀ed∈S.after,Region.binds .any ed=true->ed.on<=m+1
 eH:∀ed∈H.after,Region.binds .any ed=true->ed.on<=m\/ed.on=m+3
 eSI:∃ed∈S.after,Region.binds .any ed=true/\ed.on=m+1
 eHF:∃ed∈H.after,Region.binds .any ed=true/\ed.on=m+3
def cnt (i s f h:Bool):Nat:=(!i).toNat+(!s).toNat+(!f).toNat+(!h).toNat
theorem Zc9 {P:Program} {ro:Option Nat} {n:Nat} {ops:Array Oper} {Q:Exit->Act->World->Prop} {i:Nat} {o:Oper} {K:Act->World->Prop} {a:Act} {w w':World} {v:Value} (ho:ops[i]?=some o) (hg:o.guard=none) (ju:∀c,o.op≠.defer c)
  (am:(execOp a.eval o).run P w=.ok (.value v) w'\/((execOp a.eval o).run P w=.ok .skip w'/\v=Go.undef)) (hk:K (a.put o.dst v) w'):wpOpIn (fw ro) n P ops Q i K a w:=by
 unfold wpOpIn
 rw [ho];dsimp only;have hw:Region.wanted o (yielded ops a.tmps)=true:=by simp [Region.wanted,hg]
 rw [Tg hw];refine ⟨fun _ _=>trivial,?_⟩;rw [show (fw ro).round=ro from rfl,Oper.semAt_eq _ _ _ ju];rcases am with hr | ⟨hr,rfl⟩
 ·rw [hr];exact hk
 rw [hr];exact hk
theorem Zzb {P:Program} {ro:Option Nat} {n:Nat} {ops:Array Oper} {m:Nat} {I S F H:Oper} (h4:Hole4 ops m I S F H) {Q:Exit->Act->World->Prop} {A:Bool->Bool->Act} {W:Bool->Bool->World} {vI vF:Value}
  (rI:∀f h,(h=true->f=true)->(execOp (A false f).eval I).run P (W false h)=.ok (.value vI) (W false h)) (pI:∀f,(A false f).put I.dst vI=A true f)
  (rF:∀i s,(s=true->i=true)->(execOp (A i false).eval F).run P (W s false)=.ok (.value vF) (W s false)) (pF:∀i,(A i false).put F.dst vF=A i true)
  (rS:∀f h,(h=true->f=true)->(execOp (A true f).eval S).run P (W false h)=.ok .skip (W true h)) (pS:∀f,(A true f).put S.dst Go.undef=A true f)
  (rH:∀i s,(s=true->i=true)->(execOp (A i true).eval H).run P (W s false)=.ok .skip (W s true)) (pH:∀i,(A i true).put H.dst Go.undef=A i true)
  (hQ:Q .normal (A true true) (W true true)) :
  ∀(k:Nat) (i s f h:Bool),cnt i s f h=k->(s=true->i=true)->(h=true->f=true)->∀(listed:Array Bool),listed.size=ops.size ->
   (∀j,j<ops.size->(listed.getD j false=true↔(j=m+1->i=true)/\(j=m+2->s=true)/\(j=m+3->f=true)/\(j=m+4->h=true))) ->
   wpAnyIn (fw ro) n P .any ops Q k listed (A i f) (W s h):=by
 intro k
 induction k with
 | zero =>
  intro i s f h hc sk xb listed hsz eu
  obtain ⟨rfl,rfl,rfl,rfl⟩:i=true/\s=true/\f=true/\h=true:=by
   revert hc;cases i <;> cases s <;> cases f <;> cases h <;> simp [cnt]
  refine ⟨?_,hQ⟩;rw [List.eq_nil_iff_forall_not_mem];intro j hj
  obtain ⟨h1,o,ho,_⟩:=mem_ready.1 hj;have ah:=(Tq.1 ho).1;have:=(eu j ah).2 ⟨fun _=>rfl,fun _=>rfl,fun _=>rfl,fun _=>rfl⟩;have gq:j<listed.size:=by rw [hsz];exact ah
  simp [Array.getD,gq] at this h1;rw [this] at h1;cases h1
 | succ k ih =>
 intro i s f h hc sk xb listed hsz eu
 have lb:∀i b,i<ops.size->listed.getD i b=listed.getD i false:=fun i b hi=>by
  exact m105
 have ace:=h4.size;have ri:∀(j:Nat) (i' s' f' h':Bool),j<ops.size->(∀q,q<ops.size->((q=m+1->i'=true)/\(q=m+2->s'=true)/\(q=m+3->f'=true)/\(q=m+4->h'=true)↔q=j\/((q=m+1->i=true)/\(q=m+2->s=true)/\(q=m+3->f=true)/\(q=m+4->h=true)))) ->
   ∀q,q<ops.size->((listed.setIfInBounds j true).getD q false=true↔(q=m+1->i'=true)/\(q=m+2->s'=true)/\(q=m+3->f'=true)/\(q=m+4->h'=true)):=fun j i' s' f' h' hj hh q hq=>by
  rw [hh q hq]
  by_cases hqj:q=j
  ·subst hqj;have gq:q<listed.size:=by rw [hsz];exact hq
   simp [Array.getD,gq]
  have:(listed.setIfInBounds j true).getD q false=listed.getD q false:=getD_set_ne false (Ne.symm hqj);rw [this,eu q hq]
  constructor
  ·exact fun h=>.inr h
  rintro (h | h)
  ·exact absurd h hqj
  exact h
 refine ⟨fun hr=>?_,fun j hj=>?_⟩
 ·exfalso;have rdy:∀j o,ops[j]?=some o->listed.getD j false=false->(∀ed∈o.after,Region.binds .any ed=true->listed.getD ed.on false=true)->False:=fun j o ho hl he=>by
   have:j∈Region.ready .any ops listed:=mem_ready.2 ⟨by rw [lb _ _ (Tq.1 ho).1];exact hl,o,ho,he⟩;rw [hr] at this;cases this
  have fls:∀j,j<ops.size->¬((j=m+1->i=true)/\(j=m+2->s=true)/\(j=m+3->f=true)/\(j=m+4->h=true))->listed.getD j false=false:=fun j hj hn=>by
   cases hv:listed.getD j false with
   | false=>rfl
   | true=>exact absurd ((eu j hj).1 hv) hn
  cases i with
  | false=>exact rdy (m+1) I h4.oI (fls _ oM (fun hh=>by have:=hh.1 rfl;cases this)) fun ed he hb=>(eu _ (by have:=h4.eI ed he hb;omega)).2 (by have:=h4.eI ed he hb;exact ⟨oM,oM,oM,oM⟩)
  | true =>
  cases s with
  | false=>exact rdy (m+2) S h4.oS (fls _ oM (fun hh=>by have:=hh.2.1 rfl;cases this)) fun ed he hb=>(eu _ (by have:=h4.eS ed he hb;omega)).2 (by have:=h4.eS ed he hb;exact ⟨fun _=>rfl,oM,oM,oM⟩)
  | true =>
  cases f with
  | false=>exact rdy (m+3) F h4.oF (fls _ oM (fun hh=>by have:=hh.2.2.1 rfl;cases this)) fun ed he hb=>(eu _ (by have:=h4.eF ed he hb;omega)).2 (by have:=h4.eF ed he hb;exact ⟨fun _=>rfl,fun _=>rfl,oM,oM⟩)
  | true =>
  cases h with
  | false=>exact rdy (m+4) H h4.oH (fls _ oM (fun hh=>by have:=hh.2.2.2 rfl;cases this)) fun ed he hb=>(eu _ (by have:=h4.eH ed he hb;omega)).2 (by have:=h4.eH ed he hb;exact ⟨fun _=>rfl,fun _=>rfl,fun _=>rfl,oM⟩)
  | true=>simp [cnt] at hc
 obtain ⟨h1,o,ho,cd⟩:=mem_ready.1 hj;have ah:=(Tq.1 ho).1;rw [lb _ _ ah] at h1;have hn:¬((j=m+1->i=true)/\(j=m+2->s=true)/\(j=m+3->f=true)/\(j=m+4->h=true)):=fun hh=>by
  rw [(eu j ah).2 hh] at h1;cases h1
 have mg:(listed.setIfInBounds j true).size=ops.size:=by simpa using hsz
 by_cases j1:j=m+1
 ·subst j1;have hi:i=false:=by cases i with | false=>rfl | true=>exact absurd ⟨fun _=>rfl,oM,oM,oM⟩ hn
  subst hi;have hs:s=false:=by cases s with | false=>rfl | true=>cases sk rfl
  subst hs;rw [h4.oI] at ho;cases ho;refine Zc9 h4.oI h4.gI h4.nI (.inl (rI f h xb)) ?_;rw [pI];exact ih true false f h (by simp [cnt] at hc |-;omega) (fun h=>by cases h) xb _ mg (ri _ _ _ _ _ ah fun q hq=>by
   by_cases jg:q=m+1
   ·subst jg;simp
   simp [jg])
 by_cases j2:j=m+2
 ·subst j2;have hs:s=false:=by cases s with | false=>rfl | true=>exact absurd ⟨oM,fun _=>rfl,oM,oM⟩ hn
  subst hs;rw [h4.oS] at ho;cases ho;obtain ⟨ed,he,hb,rj⟩:=h4.eSI;have hi:i=true:=by
   have:=cd ed he hb;rw [rj] at this;exact ((eu _ oM).1 this).1 rfl
  subst hi;refine Zc9 h4.oS h4.gS h4.nS (.inr ⟨rS f h xb,rfl⟩) ?_;rw [pS];exact ih true true f h (by simp [cnt] at hc |-;omega) (fun _=>rfl) xb _ mg (ri _ _ _ _ _ ah fun q hq=>by
   by_cases jg:q=m+2
   ·subst jg;simp
   simp [jg])
 by_cases j3:j=m+3
 ·subst j3;have hf:f=false:=by cases f with | false=>rfl | true=>exact absurd ⟨oM,oM,fun _=>rfl,oM⟩ hn
  subst hf;have hh:h=false:=by cases h with | false=>rfl | true=>cases xb rfl
  subst hh;rw [h4.oF] at ho;cases ho;refine Zc9 h4.oF h4.gF h4.nF (.inl (rF i s sk)) ?_;rw [pF];exact ih i s true false (by simp [cnt] at hc |-;omega) sk (fun h=>by cases h) _ mg (ri _ _ _ _ _ ah fun q hq=>by
   by_cases jg:q=m+3
   ·subst jg;simp
   simp [jg])
 by_cases j4:j=m+4
 ·subst j4;have hh:h=false:=by cases h with | false=>rfl | true=>exact absurd ⟨oM,oM,oM,fun _=>rfl⟩ hn
  subst hh;rw [h4.oH] at ho;cases ho;obtain ⟨ed,he,hb,rj⟩:=h4.eHF;have hf:f=true:=by
   have:=cd ed he hb;rw [rj] at this;exact ((eu _ oM).1 this).2.2.1 rfl
  subst hf;refine Zc9 h4.oH h4.gH h4.nH (.inr ⟨rH i s sk,rfl⟩) ?_;rw [pH];exact ih i s true true (by simp [cnt] at hc |-;omega) sk (fun _=>rfl) _ mg (ri _ _ _ _ _ ah fun q hq=>by
   by_cases jg:q=m+4
   ·subst jg;simp
   simp [jg])
 exact absurd ⟨fun e=>absurd e j1,fun e=>absurd e j2,fun e=>absurd e j3,fun e=>absurd e j4⟩ hn
theorem ZBN {F:Fence} {n:Nat} {P:Program} {o:Oper} {a:Act} {w:World} {K:Act->World->Prop} {Q Q':Exit->Act->World->Prop} (hQ:∀x a w,x≠.normal->Q x a w->Q' x a w) (h:o.wpIn F n P a w K Q):o.wpIn F n P a w K Q':=by
 unfold Oper.wpIn at *
 refine ⟨h.1,?_⟩;have h:=h.2;generalize (o.semAt F.round a.eval).run P w=r at *
 cases r with
 | ok x w' =>
  cases x <;> simp only [Oper.uponIn] at h |- <;> first
   | exact h
   | exact h.elim
   | (refine ⟨h.1, h.2.mono fun en w'' he => ?_⟩
      cases en <;> simp only at he |- <;> first
       | exact he
       | exact hQ _ _ _ sM he
       | (obtain ⟨a0,w0,hq⟩:=he;exact ⟨a0,w0,hQ _ _ _ sM hq⟩))
 | halt hh w' =>
 cases hh <;> simp only [Oper.uponIn] at h |- <;> first
  | exact h.elim
  | exact hQ _ _ _ sM h
section
variable {G:GE} {C:Cx} {e0 e:Env} {σ0 σ:St} {w0 w:World} {a:Act} {f:Frame} {Q:PQ} {ro:Option Nat} {n:Nat} {ds:Nat×List Deferred×Bool} {N:Nat} {Z:Array Value->Prop}
theorem ZeR {m t:Nat} {QQ:Exit->Act->World->Prop} (hC:CxOK G C ro e0 σ0 w0) (hM:CxMono C) {ops:Array Oper} (hd:∀o,o∈ops->∀d,o.dst=some d->d<N/\∀t v,Z t->Z (t.setIfInBounds d v)) {ms:List Nat} (yq:∀i o,i<m->ops[i]?=some o->ms.getD i 0=JJ ms o.after.toList 0)
  (hm:ops.size=m+t) (ic:∀j o,m<=j->ops[j]?=some o->(∀p,p<m->∃ed∈o.after,Region.binds .any ed=true/\ed.on=p)\/(∃ed∈o.after,Region.binds .any ed=true/\m<=ed.on/\ed.on<ops.size))
  (yw:∀x a w,x≠.normal->Yf G e0 σ0 w0 ds N Z Q x a w->QQ x a w)
  (ct:∀(listed:Array Bool) a w,listed.size=ops.size->(∀k,k<ops.size->(listed.getD k false=true↔k<m))->Yf G e0 σ0 w0 ds N Z Q .normal a w->wpAnyIn (fw ro) n G.P .any ops QQ t listed a w) :
  ∀(k:Nat) (l:List (Nat×Oper)),l.length=k->(∀p∈l,p.1<m)->(∀p∈l,ops[p.1]?=some p.2)->l.Pairwise (Zqu ops.toList ms)->(∀p∈l,∀e∈p.2.after.toList,Region.binds .any e=true->e.on<m/\e.on≠p.1) ->
  ∀{listed:Array Bool},listed.size=ops.size->(∀k,k<ops.size->(listed.getD k false=true↔k<m/\∀p∈l,p.1≠k))->(∀j,j<m->(∀p∈l,p.1≠j)->∀p∈l,anc ms p.1 j=false) ->
  ∀{ctx:List Ld} {e:Env} {σ:St} {w:World} {a:Act} {f:Frame},SRel G e σ w->FRel G e σ w f a.tmps->Later e0 σ0 w0 e σ w->a.tmps.size=N->Marks ds e σ w a.defers->Z a.tmps->Vp C ops.toList ms Q l ctx f σ ->
  wpAnyIn (fw ro) n G.P .any ops QQ (k+t) listed a w
 | 0,l,hl,hlm,dh,hp,hed,listed,hsz,eu,hdown,ctx,e,σ,w,a,f,hS,hF,hL,hN,bn,hZ,h=>by
  have ov:l=[]:=SA.1 hl;subst ov;rw [Sf];exact ct listed a w hsz (fun k hk=>by rw [eu k hk];simp) ⟨.normal,f,e,σ,h,rfl,hS,hF,hL,hN,bn,hZ⟩
 | k+1,l,hl,hlm,dh,hp,hed,listed,hsz,eu,hdown,ctx,e,σ,w,a,f,hS,hF,hL,hN,bn,hZ,h=>by
  have lb:∀i b,i<ops.size->listed.getD i b=listed.getD i false:=fun i b hi=>by
   exact m105
  rw [show k+1+t=(k+t)+1 by omega];refine ⟨fun hr=>?_,fun i hi=>?_⟩
  ·cases l with
   | nil=>simp at hl
   | cons x l =>
   exfalso;have hx:=dh x sM;have ah:=(Tq.1 hx).1;have:x.1∈Region.ready .any ops listed:=by
    refine mem_ready.2 ⟨?_,x.2,hx,fun ed jp hb=>?_⟩
    ·rw [lb _ _ ah]
     cases hv:listed.getD x.1 false with
     | false=>rfl
     | true=>exact absurd rfl (((eu x.1 ah).1 hv).2 x sM)
    have h1:=hed x sM ed (TP.1 jp) hb;refine (eu ed.on oM).2 ⟨h1.1,fun p i7=>?_⟩;exact m158
   rw [hr] at this;cases this
  obtain ⟨h1,o,ho,cd⟩:=mem_ready.1 hi;have ah:=(Tq.1 ho).1;rw [lb _ _ ah] at h1;have him:i<m:=by
   apply Classical.byContradiction
   intro ko
   rcases ic i o oM ho with h2 | ⟨ed,he,hb,ko,ach⟩
   ·cases l with
    | nil=>simp at hl
    | cons x l =>
    obtain ⟨ed,he,hb,rj⟩:=h2 x.1 (hlm x sM);have h3:=cd ed he hb;rw [rj] at h3;exact ((eu x.1 (by have:=hlm x sM;omega)).1 h3).2 x sM rfl
   have:=((eu ed.on ach).1 (cd ed he hb)).1;omega
  have dq:∃p∈l,p.1=i:=by
   apply Classical.byContradiction
   intro i6
   have:=(eu i ah).2 ⟨him,fun p hp e=>i6 ⟨p,hp,e⟩⟩;rw [h1] at this;cases this
  obtain ⟨p,jx,rfl⟩:=dq;have uy:p.2=o:=by have:=dh p jx;rw [ho] at this;exact (Option.some.inj this).symm
  obtain ⟨pre,post,rfl⟩:=List.append_of_mem jx;obtain ⟨i,o'⟩:=p;dsimp only at uy ho ah h1 hi;subst uy;have qk:=List.pairwise_append.1 hp;have ia:=(List.pairwise_cons.1 qk.2.1)
  have ib:∀x∈pre++(i,o')::post,anc ms x.1 i=false:=fun x hx=>by
   cases uz:anc ms x.1 i with
   | false=>rfl
   | true =>
   exfalso;unfold anc at uz
   rw [yq i o' him ho] at uz;rcases VZ uz with h2 | ⟨ed,jp,hb,h2⟩
   ·simp at h2
   have u7:=cd ed (TP.2 jp) hb;have an:=((eu ed.on (by have:=(hed _ jx ed jp hb).1;omega)).1 u7).2;rcases h2 with h2 | h2
   ·exact an x hx h2.symm
   rw [hdown ed.on (hed _ jx ed jp hb).1 an x hx] at h2;cases h2
  have jq:=Zim hM pre (fun x hx=>by
   have hA:=qk.2.2 x hx (i,o') sM;have yu:=ib x (by simp [hx]);rcases hA.2.2 with h2 | h2
   ·rw [yu] at h2;cases h2
   exact ⟨h2.1,h2.2,yu⟩) ctx f σ h
  have az:=Uq (ro:=ro) (n:=n) hC hS hF hL hN bn hZ (ops:=ops) (hd o' (Sc ho)) jq;have vb:∀x∈pre++post,x.1≠i:=fun x hx=>by
   exact m189
  have cm:∀x,x∈pre++post->x∈pre++(i,o')::post:=fun x hx=>by
   rcases TZ.1 hx with hx | hx <;> simp [hx]
  have next:∀a' w',KRel G e0 σ0 w0 ds N Z (fun f' σ'=>∃c,Vp C ops.toList ms Q (pre++post) c f' σ') a' w'->wpAnyIn (fw ro) n G.P .any ops QQ (k+t) (listed.setIfInBounds i true) a' w':=fun a' w' ⟨f',e',σ',⟨c,ir⟩,h2,h3,h4,h5,h6,h7⟩=>by
   refine ZeR hC hM hd yq hm ic yw ct k (pre++post) (by simp at hl |-;omega) (fun x hx=>hlm x (cm x hx)) (fun x hx=>dh x (cm x hx)) (List.pairwise_append.2 ⟨qk.1,ia.2,fun x hx y hy=>qk.2.2 x hx y (Tx _ hy)⟩)
    (fun x hx=>hed x (cm x hx)) (by simpa using hsz) (fun k hk=>?_) (fun j yx hj x hx=>?_) h2 h3 h4 h5 h6 h7 ir
   ·by_cases nw:k=i
    ·subst nw;have gq:k<listed.size:=by rw [hsz];exact ah
     have:(listed.setIfInBounds k true).getD k false=true:=by simp [Array.getD,gq]
     simp only [this,true_iff];exact ⟨him,vb⟩
    have:(listed.setIfInBounds i true).getD k false=listed.getD k false:=getD_set_ne false (Ne.symm nw);rw [this,eu k hk]
    constructor
    ·exact fun hh=>⟨hh.1,fun x hx=>hh.2 x (cm x hx)⟩
    intro hh
    refine ⟨hh.1,fun x hx=>?_⟩;rcases TZ.1 hx with hx | hx
    ·exact hh.2 x (by simp [hx])
    rcases Tv.1 hx with rfl | hx
    ·exact fun e=>nw e.symm
    exact hh.2 x (by simp [hx])
   by_cases hji:j=i
   ·subst hji;exact ib x (cm x hx)
   refine hdown j yx (fun y hy=>?_) x (cm x hx);exact m149
  have hK:∀a' w',KRel G e0 σ0 w0 ds N Z (fun f' σ'=>match XJ o'.op with | true=>Zqq ms i σ.bx σ'.bx ctx (Vp C ops.toList ms Q (pre++post) ctx f' σ') | false=>Vp C ops.toList ms Q (pre++post) (Um C.T o' i f ctx) f' σ') a' w' ->
    KRel G e0 σ0 w0 ds N Z (fun f' σ'=>∃c,Vp C ops.toList ms Q (pre++post) c f' σ') a' w':=fun a' w' ⟨f',e',σ',hk,ax⟩=>by
   refine ⟨f',e',σ',?_,ax⟩
   cases hE:XJ o'.op with
   | true=>rw [hE] at hk;exact ⟨_,(chkL_iff.1 hk).2⟩
   | false=>rw [hE] at hk;exact ⟨_,hk⟩
  unfold wpOpIn
  rw [ho];dsimp only;split at az
  ·rename_i hw
   rw [Tg hw];exact ZBN yw (Oper.wpIn_mono (fun a w h=>next a w (hK a w h)) az)
  rename_i hw
  rw [Tc hw];exact ⟨fun _ _=>trivial,next _ _ (hK _ _ az)⟩
end
def Zab (o:Oper):Bool:=match o.guard with | none=>true | _=>false
def Zda (x:Operand) (ds:List Nat):Bool:=match x with | .tmp t=>!(Zh0 t ds) | _=>true
def Zln (x:Operand) (d:Nat):Bool:=match x with | .tmp t=>Nat.beq t d | _=>false
def UW (m:Nat) (l:List Edge):Bool:=l.all fun ed=>!(Region.binds .any ed) || Nat.ble ed.on m
def Zac (m:Nat) (l:List Edge):Bool:=l.any fun ed=>Region.binds .any ed && Nat.beq ed.on m
def Zjx:Nat->List Edge->Bool
 | 0,_=>true
 | n+1,l=>Zac n l && Zjx n l
structure HoleD where
 s:Operand
 z:Operand
 t:Nat
 tx:Nat
 ti:Nat
 ix:Operand
 ts:Nat
 x:Operand
 sf:Nat
 xf:Operand
 kf:Nat
 th:Nat
 da:Nat
 di:Nat
 df:Nat
def Zlo (h:Hole):Option HoleD:=match h.A.op,h.I.op,h.S.op,h.F.op,h.H.op with
 | .call { callee:=.builtin .append,args,argTypes },.indexAddr ti xi ix,.store ts xs x,.fieldAddr sf xf kf,.store th xh yh=>match argTypes.toList,args.toList,h.A.dst,h.I.dst,h.F.dst,h.S.dst,h.H.dst with
  | [t,tx],[s,z],some da,some di,some df,none,none =>
   match Zln xi da && Nat.beq ti t && Zln xs di && Zln xh df && Zln yh da && Zda ix [da,di,df] && Zda x [da,di,df] && Zda xf [da,di,df] && !(Nat.beq da di) && !(Nat.beq da df) && !(Nat.beq di df) with
   | true=>some ⟨s,z,t,tx,ti,ix,ts,x,sf,xf,kf,th,da,di,df⟩
   | false=>none
  | _,_,_,_,_,_,_=>none
 | _,_,_,_,_=>none
def ZmX (ops:List Oper) (h:Hole):Bool :=
 let m:=h.pre.length
 let ms:=VJ ops []
 let cs:=UH m (ZQ 0 h.pre)
 (match Zlo h with | some _=>true | none=>false) && Zab h.A && Zab h.I && Zab h.S && Zab h.F && Zab h.H &&
 UW m h.I.after.toList && UW m h.F.after.toList && UW (m+1) h.S.after.toList && (h.H.after.toList.all fun ed=>!(Region.binds .any ed) || (Nat.ble ed.on m || Nat.beq ed.on (m+3))) &&
 Zac (m+1) h.S.after.toList && Zac (m+3) h.H.after.toList && Zac m h.I.after.toList && Zac m h.F.after.toList && Zjx m h.A.after.toList && (match m with | 0=>true | k+1=>UW k h.A.after.toList) && Nat.ble 1 m &&
 Nat.beq cs.length m && ZgQ ops ms m cs && ZgR cs m && Zbu ms cs
theorem Zio {ops:Array Oper} {h:Hole} (hh:ZeE ops.toList=some h):ops.toList=h.pre++[h.A,h.I,h.S,h.F,h.H]:=by
 unfold ZeE at hh
 split at hh
 ·rename_i H F S I A pre hr
  split at hh
  ·cases hh
   have:ops.toList=(H::F::S::I::A::pre).reverse:=by rw [<- hr,List.reverse_reverse]
   rw [this];simp
  cases hh
 cases hh
theorem Zbw {h:Hole} {d:HoleD} (hd:Zlo h=some d):∃(args:Array Operand) (at':Array Nat),args.toList=[d.s,d.z]/\at'.toList=[d.t,d.tx]/\h.A.op=.call { callee:=.builtin .append,args:=args,argTypes:=at' } /\
  h.I.op=.indexAddr d.t (.tmp d.da) d.ix/\h.S.op=.store d.ts (.tmp d.di) d.x/\h.F.op=.fieldAddr d.sf d.xf d.kf/\h.H.op=.store d.th (.tmp d.df) (.tmp d.da) /\
  h.A.dst=some d.da/\h.I.dst=some d.di/\h.F.dst=some d.df/\h.S.dst=none/\h.H.dst=none/\Zda d.ix [d.da,d.di,d.df]=true/\Zda d.x [d.da,d.di,d.df]=true/\Zda d.xf [d.da,d.di,d.df]=true/\d.da≠d.di/\d.da≠d.df/\d.di≠d.df:=by
 have tmp:∀{x:Operand} {d:Nat},Zln x d=true->x=.tmp d:=fun {x d} h=>by
  unfold Zln at h
  split at h
  ·rw [Tn h]
  cases h
 have ne:∀{a b:Nat},(!(Nat.beq a b))=true->a≠b:=fun {a b} h e=>by subst e;simp at h
 unfold Zlo at hd
 split at hd
 ·rename_i args at' ti xi ix ts xs x sf xf kf th xh yh h1 h2 h3 h4 h5
  split at hd
  ·rename_i t tx s z da di df g1 g2 g3 g4 g5 g6 g7
   split at hd
   ·rename_i hb
    cases hd
    simp only [Tk] at hb;obtain ⟨⟨⟨⟨⟨⟨⟨⟨⟨⟨b1,b2⟩,b3⟩,b4⟩,b5⟩,b6⟩,b7⟩,b8⟩,b9⟩,b10⟩,b11⟩:=hb;have:=tmp b1;subst this;have:=Tn b2;subst this;have:=tmp b3;subst this;have:=tmp b4;subst this;have:=tmp b5;subst this;exact ⟨args,at',g2,g1,h1,h2,h3,h4,h5,g3,g4,g5,g6,g7,b6,b7,b8,ne b9,ne b10,ne b11⟩
   cases hd
  cases hd
 cases hd
theorem ZgU (w:World) {b1 b2:Nat} (h:b1≠b2) (o1 o2:Nat) (v1 v2:Value):(w.setCell ⟨b1,o1,none⟩ v1).setCell ⟨b2,o2,none⟩ v2=(w.setCell ⟨b2,o2,none⟩ v2).setCell ⟨b1,o1,none⟩ v1:=by
 unfold World.setCell
 simp only [World.mk.injEq,and_self,and_true,true_and]
 apply Array.ext_getElem?
 intro i
 simp only [Array.getElem?_modify]
 by_cases h1:b1=i
 ·subst h1;simp [Ne.symm h]
 by_cases h2:b2=i
 ·subst h2;simp [h]
 simp [h1,h2]
theorem Wr {b1 b2:Nat} (h:b1≠b2) (o1:Nat) (v1:Value):∀(l:List Value) (o2:Nat) (w:World),(w.setCell ⟨b1,o1,none⟩ v1).setCells b2 o2 l=(w.setCells b2 o2 l).setCell ⟨b1,o1,none⟩ v1
 | [],_,_=>rfl
 | v::l,o2,w=>by
  rw [World.setCells,World.setCells,ZgU w h,Wr h o1 v1 l]
theorem ZaL {b1 b2:Nat} (h:b1≠b2):∀(l1:List Value) (o1:Nat) (l2:List Value) (o2:Nat) (w:World),(w.setCells b1 o1 l1).setCells b2 o2 l2=(w.setCells b2 o2 l2).setCells b1 o1 l1
 | [],_,_,_,_=>rfl
 | v::l1,o1,l2,o2,w=>by
  rw [World.setCells,World.setCells,ZaL h l1,Wr h]
section
variable {G:GE} {T:Tab} {e:Env} {σ:St} {w:World}
theorem Us (hT:TabOK T G.P) {t:Nat} (hk:(T.get t).kind≠.other) {v:Value} {b off:Nat} (ab:v.cells.size=(T.get t).size) (hc:∀j,j<v.cells.toList.length->(w.cell? ⟨b,off+j,none⟩).isSome=true)
  (hf:∀j,j<v.cells.toList.length->w.frozen? ⟨b,off+j,none⟩=false) (lg:∀u∈v.cells.toList,u.oneCell'=true) {ρ':Operand->Value} {o:Oper} {p x:Operand} (ho:o.op=.store t p x) (hp:ρ' p=.pointer (some ⟨b,off,none⟩)) (hx:ρ' x=v) :
  (execOp ρ' o).run G.P w=.ok .skip (w.setCells b off v.cells.toList):=by
 obtain ⟨i,d,z,hi,hd,hs,ff,bh,hz,ei,_⟩:=(hT.get hk).ex;have am:=run_storeCells_cells (P:=G.P) b off v.cells.toList 0 w (by simpa using hc) (by simpa using hf) lg;simp only [Se] at am;have:(Instr.storeAt t (.pointer (some ⟨b,off,none⟩)) v).run G.P w=.ok () (w.setCells b off v.cells.toList):=by
  have ji:v.cells.size=i.size:=by rw [ab,hs]
  exact m90
 unfold execOp
 simp only [ho,hp,hx,Sem.run_bind,this,Result.andThen,Sem.run_pure]
theorem Zip (hT:TabOK T G.P) {s i off t:Nat} {fs:List (Nat×Nat)} (hk:(T.get s).kind=.struct fs) (ue:fs[i]?=some (off,t)) {ρ':Operand->Value} {o:Oper} {x:Operand} (ho:o.op=.fieldAddr s x i) {b oo:Nat} (hv:ρ' x=.pointer (some ⟨b,oo,none⟩)) (w:World) :
  (execOp ρ' o).run G.P w=.ok (.value (.pointer (some ⟨b,oo+off,none⟩))) w:=by
 obtain ⟨ti,d,z,hi,hd,hs,ff,bh,hz,ei,_⟩:=(hT.get (t:=s) (by rw [hk];simp)).ex;rw [hk] at bh;obtain ⟨gs,rfl,hf⟩:=bh;obtain ⟨f,j,hg,dw,ht,hj,ui⟩:=hf.get ue;have qy:gs[i]?=some f:=by simpa using hg
 have hfp:(fieldPlace ⟨b,oo,none⟩ f).run G.P w=.ok ⟨b,oo+off,none⟩ w:=by
  exact m167
 unfold execOp
 simp [ho,hv,Instr.fieldAt,Zc hd,qy,Instr.sureAddr,hfp]
theorem Ziq (hT:TabOK T G.P) {t el:Nat} (hk:(T.get t).kind=.slice el) (cj:(T.get el).kind≠.other) {ρ':Operand->Value} {o:Oper} {x i:Operand} (ho:o.op=.indexAddr t x i) {b off n cap:Nat} {k:IntKind} {m:Int} (hv:ρ' x=.slice (some ⟨b,off,none⟩) n cap)
  (hi:ρ' i=.int k m) (h0:0<=m) (hn:m<n) (w:World):(execOp ρ' o).run G.P w=.ok (.value (.pointer (some ⟨b,off+m.toNat * (T.get el).size,none⟩))) w:=by
 obtain ⟨ti,d,z,ox,hd,hs,ff,bh,hz,ei,_⟩:=(hT.get (t:=t) (by rw [hk];simp)).ex;rw [hk] at bh;cases bh;obtain ⟨i2,d2,z2,aa,bf,gd,_,bq,_,_,_⟩:=(hT.get cj).ex;unfold execOp
 simp [ho,hv,hi,Instr.indexAt,Wp,Zc hd,h0,hn,ZF aa,Ym,gd]
theorem Zqx {x:PV} {v:Value} {row:List D} (hx:VRel G e σ w x v) (hr:Zh8 x=some row):Flat (okc e σ) w [row] row.length v.cells.toList/\∀u∈v.cells.toList,u.oneCell'=true:=by
 unfold Zh8 at hr
 split at hr
 ·rename_i l hl
  obtain ⟨dl,fu⟩:=VW hx hl;obtain ⟨dg,bf⟩:=ZaD (ok:=okc e σ) hr;refine ⟨⟨by simp [dl,dg],fun r hr=>by simp at hr;rw [hr],fun a b y u hb hy hu=>?_⟩,fun u hu=>?_⟩
  ·cases a with
   | zero =>
    simp only [List.getElem?_cons_zero,Option.bind_some] at hy;simp only [Nat.zero_mul,Sf,TA] at hu;have h1:b<l.length:=oM;exact Up (bf b l[b] y (Ti h1) hy) (fu b l[b] u (Ti h1) hu).1
   | succ a=>simp at hy
  obtain ⟨j,hj,rfl⟩:=Sd hu;have h1:j<l.length:=by simp [dl] at hj;exact hj
  exact (fu j l[j] _ (Ti h1) (by rw [<- TA,Ti hj])).2
 cases hr
end
theorem ZgV {t:Nat}:∀{l:List Nat},t∉l->Zaz t l=l
 | [],_=>rfl
 | x::l,h=>by
  have h1:x≠t:=fun e=>h (by simp [e])
  have h2:=ZgV (t:=t) (l:=l) (fun hm=>h (by simp [hm]));unfold Zaz
  split
  ·rename_i hb;exact absurd (Tn hb) h1
  rw [h2]
theorem Zlp {T:Tab} {h:Hole} {d:HoleD} {f:Frame} {σ:St} {K:Frame->St->Prop} (hd:Zlo h=some d) (hA:Zlb T h f σ K) :
  ∃el rows zr row k tk0,(T.get d.t).kind=.slice el/\(T.get el).kind≠.other/\1<=(T.get el).size/\d.ts=el/\Ul T d.tx el (ev f d.z)=some [zr]/\Zh8 (ev f d.x)=some row/\ev f d.ix=.d (.int k (rows.length:Nat)) /\
   zr.length=(T.get el).size/\row.length=(T.get el).size/\(rows.length+1) * (T.get el).bytes<=2 ^ 47/\rows.length+1<=2 ^ 47 /\
   ((∃e2,ev f d.s=.nils e2/\rows=[]/\tk0=σ.tk)\/∃tok,ev f d.s=.sl tok el rows/\tok∈σ.tk/\tk0=Zaz tok σ.tk) /\
   K (YK (YK f (some d.da) (.sl (σ.nx+1) el (rows++[row]))) (some d.di) .undef) ⟨σ.bx,(σ.nx+1)::tk0,σ.nx+2⟩:=by
 obtain ⟨args,at',a1,a2,a3,a4,a5,a6,a7,a8,a9,_⟩:=Zbw hd;unfold Zlb at hA
 simp only [a3,a4,a5,a1,a2,a8,a9,Y3,Yr] at hA;split at hA
 ·rename_i el hk
  split at hA
  ·exact hA.elim
  rename_i cj
  split at hA
  ·rename_i zr row k n h1 h2 h3 h4 h5
   split at hA
   ·rename_i h6 h7
    have e1:=Ta h1;have e2:=Tn h2;have e6:=Tn h6;have e7:=Tn h7;split at hA
    ·rename_i e0 hs
     obtain ⟨rfl,hb,hK⟩:=hA;exact ⟨el,[],zr,row,k,σ.tk,hk,fun h0=>cj h0,e1,e2,h3,h4,h5,e6,e7,hb,sM,.inl ⟨e0,hs,rfl,rfl⟩,hK⟩
    ·rename_i tok e0 rows hs
     split at hA
     ·rename_i g1 g2
      have:=Tn g2;subst this;obtain ⟨rfl,hb,bp,hK⟩:=hA;exact ⟨e0,rows,zr,row,k,Zaz tok σ.tk,hk,fun h0=>cj h0,e1,e2,h3,h4,h5,e6,e7,hb,bp,.inr ⟨tok,hs,(Y7 _ _).1 g1,rfl⟩,hK⟩
     exact hA.elim
    exact hA.elim
   exact hA.elim
  exact hA.elim
 exact hA.elim
section
theorem V0 {x:Operand} {ds:List Nat} (h:Zda x ds=true) {a:Act} {d:Nat} (hd:d∈ds) (v:Value):(a.put (some d) v).eval x=a.eval x:=by
 cases x with
 | tmp t =>
  have:d≠t:=fun e=>by
   subst e;simp only [Zda,TV] at h;rw [(Y7 _ _).2 hd] at h;cases h
  simp [Act.put,Act.eval,Array.getD_eq_getD_getElem?,T5,this]
 | _=>rfl
theorem Zjy {x:Operand} {ds:List Nat} (h:Zda x ds=true) {f:Frame} {d:Nat} (hd:d∈ds) (v:PV):ev (YK f (some d) v) x=ev f x:=by
 cases x with
 | tmp t =>
  have:d≠t:=fun e=>by
   subst e;simp only [Zda,TV] at h;rw [(Y7 _ _).2 hd] at h;cases h
  exact X1 f v this
 | _=>rfl
theorem Zcd {a:Act} {d:Nat} (h:d<a.tmps.size) (v:Value):(a.put (some d) v).eval (.tmp d)=v:=by
 simp [Act.put,Act.eval,T5,h]
theorem Zdb {a:Act} {d k:Nat} (h:d≠k) (v:Value):(a.put (some d) v).eval (.tmp k)=a.eval (.tmp k):=by
 simp [Act.put,Act.eval,Array.getD_eq_getD_getElem?,T5,h]
theorem Zqy {a:Act} {d k:Nat} (h:d≠k) (v u:Value):(a.put (some d) v).put (some k) u=(a.put (some k) u).put (some d) v:=by
 simp only [Act.put,Act.mk.injEq,and_true]
 apply Array.ext_getElem?
 intro i
 simp only [T5,Array.size_setIfInBounds]
 by_cases h1:d=i
 ·subst h1;simp [Ne.symm h]
 by_cases h2:k=i
 ·subst h2;simp [h]
 simp [h1,h2]
def Zzc (a:Act) (di df:Nat) (vI vF:Value) (i f:Bool):Act :=
 let b:=match i with | true=>a.put (some di) vI | false=>a
 match f with | true=>b.put (some df) vF | false=>b
variable {G:GE} {C:Cx} {e0:Env} {σ0:St} {w0:World} {Q:PQ} {ro:Option Nat} {n:Nat} {ds:Nat×List Deferred×Bool} {N:Nat} {Z:Array Value->Prop}
theorem Zqz (hC:CxOK G C ro e0 σ0 w0) {ops:Array Oper} (hd:∀o,o∈ops->∀d,o.dst=some d->d<N/\∀t v,Z t->Z (t.setIfInBounds d v)) {h:Hole} {D:HoleD} (hD:Zlo h=some D) {m:Nat} (h4:Hole4 ops m h.I h.S h.F h.H) (oA:ops[m]?=some h.A) (gA:h.A.guard=none)
  (eA:∀ed∈h.A.after,Region.binds .any ed=true->ed.on<m) (eIA:∃ed∈h.I.after,Region.binds .any ed=true/\ed.on=m) (eFA:∃ed∈h.F.after,Region.binds .any ed=true/\ed.on=m)
  {listed:Array Bool} {a:Act} {w:World} (hsz:listed.size=ops.size) (eu:∀k,k<ops.size->(listed.getD k false=true↔k<m)) (hp:Yf G e0 σ0 w0 ds N Z (Zmu C ops.toList h Q) .normal a w) :
  wpAnyIn (fw ro) n G.P .any ops (Yf G e0 σ0 w0 ds N Z Q) 5 listed a w:=by
 have hT:=hC.tab;have ace:=h4.size;obtain ⟨pe,f,e,σ,hq,hx,hS,hF,hL,hN,bn,hZ⟩:=hp
 cases pe with
 | exit i=>cases hx
 | goto i=>cases hx
 | ret=>cases hx
 | panic p=>obtain ⟨_,hx,_⟩:=hx;cases hx
 | normal =>
 obtain ⟨args,at',a1,a2,a3,a4,a5,a6,a7,a8,a9,a10,a11,a12,b1,b2,b3,n1,n2,n3⟩:=Zbw hD;obtain ⟨el,rows,zr,row,kk,tk0,c1,c2,c3,c4,c5,c6,c7,c8,c9,c10,c11,c12,hK⟩:=Zlp hD hq;have kg:∀(j:Nat) (o:Oper) (d:Nat),ops[j]?=some o->o.dst=some d->d<N:=fun j o d ho ml=>(hd o (Sc ho) d ml).1
 have hdz:∀(j:Nat) (o:Oper) (d:Nat),ops[j]?=some o->o.dst=some d->∀t v,Z t->Z (t.setIfInBounds d v):=fun j o d ho ml=>(hd o (Sc ho) d ml).2
 have dA:=kg m _ _ oA a8;have dI:=kg _ _ _ h4.oI a9;have dF:=kg _ _ _ h4.oF a10;have hρ:∀x,VRel G e σ w (ev f x) (a.eval x):=fun x=>Zb8 hF x
 obtain ⟨hDR,hO,cm,agj⟩:DRel (okc e σ) w (.sl rows) (a.eval D.s)/\((a.eval D.s=.slice none 0 0/\rows=[])\/∃tok,tok∈σ.tk/\tok∉tk0/\Owned G e w tok el rows (a.eval D.s))/\(∀x,x∈tk0->x∈σ.tk)/\True:=by
  have hs:=hρ D.s;rcases c12 with ⟨e2,h1,rfl,rfl⟩ | ⟨tok,h1,h2,rfl⟩
  ·rw [h1] at hs;generalize a.eval D.s=v at hs
   cases hs with
   | nils _=>exact ⟨.slnil,.inl ⟨rfl,rfl⟩,fun _ h=>h,trivial⟩
  rw [h1] at hs;generalize a.eval D.s=v at hs
  cases hs with
  | sl _ _ _ _ hn hd ht=>exact ⟨hd,.inr ⟨tok,h2,fun hm=>((Vv _ _ _).1 hm).2 rfl,ht h2⟩,fun x hx=>((Vv _ _ _).1 hx).1,trivial⟩
 obtain ⟨w1,bb,off,cap,e1,yy,hcap,st1,S1,V1⟩:=Zin (ty:=h.A.type) hT hS c1 c2 c3 hDR tk0 cm hO c5 (hρ D.z) c8 c10 c11;have acj:VRel G e1 _ w1 (ev f D.x) (a.eval D.x):=(hρ D.x).step st1;obtain ⟨dv,lg⟩:=Zqx acj c6;rw [c9] at dv;obtain ⟨q1,q2,q3,e2,st2,S2,V2⟩:=ZmW hT S1 c2 c3 V1 sM hcap dv;have gr:=hK;rw [XG] at gr;simp only [XT,h4.gF] at gr;unfold W4 at gr
 simp only [a6,XJ,ZgE,Zk6,qop,Yr] at gr;rw [Zjy b3 sM,Zjy b3 sM] at gr;split at gr;rotate_left
 ·exact gr.elim
 rename_i fs jj
 split at gr;rotate_left
 ·exact gr.elim
 rename_i fo ft hfs
 split at gr;rotate_left
 ·rename_i r oo cz
  rw [XG] at gr;simp only [XT,h4.gH] at gr;unfold W4 at gr
  simp only [a7,XJ,eop,a10] at gr;have:ev (YK (YK (YK f (some D.da) (.sl (σ.nx+1) el (rows++[row]))) (some D.di) .undef) (some D.df) (.elem r (oo+fo))) (.tmp D.df)=.elem r (oo+fo):=YY _ _ _;rw [this] at gr;exact gr.elim
 ·exact gr.elim
 rename_i b oo ack
 rw [XG] at gr;simp only [XT,h4.gH] at gr;unfold W4 at gr
 simp only [a7,XJ,eop,a10,Y3,Yr] at gr;generalize hf4:YK (YK (YK f (some D.da) (.sl (σ.nx+1) el (rows++[row]))) (some D.di) .undef) (some D.df) (.ptr b (oo+fo))=f4 at gr;have k1:ev f4 (.tmp D.df)=.ptr b (oo+fo):=by rw [<- hf4];exact YY _ _ _
 have k2:ev f4 (.tmp D.da)=.sl (σ.nx+1) el (rows++[row]):=by
  rw [<- hf4];show JH (JH (JH f D.da _) D.di _) D.df _ D.da=_;rw [X1 _ _ (Ne.symm n2),X1 _ _ (Ne.symm n1),YY]
 rw [k1,k2] at gr;simp only [PV.cells] at gr;split at gr;rotate_left
 ·exact gr.elim
 rename_i ty cs nr
 split at gr
 ·exact gr.elim
 rotate_left
 ·exact gr.elim
 rename_i l1 l2 l3
 rw [a12] at gr;have hth:(C.T.get D.th).size=1:=(Tn l1).symm;have mh:oo+fo+1<=cs.length:=Ta l2;have hxf:=hρ D.xf;rw [ack] at hxf;generalize hvx:a.eval D.xf=vx at hxf
 cases hxf with
 | ptr _ _ cu =>
 have xc:e1.β b=e.β b:=st1.beta b cu;have nd:e.β b≠bb:=by rw [<- xc];exact q3 b cu
 obtain ⟨vs,kz,oq,_⟩:=S1.box b _ nr;rw [xc] at kz
 let v':Value:=.slice (some ⟨bb,off,none⟩) (rows.length+1) cap
 let oS:=off+rows.length * (C.T.get el).size
 let us:=(a.eval D.x).cells.toList
 let vI:Value:=.pointer (some ⟨bb,oS,none⟩)
 let vF:Value:=.pointer (some ⟨e.β b,oo+fo,none⟩)
 let WW:Bool->Bool->World:=fun s g =>
  let u:=match s with | true=>w1.setCells bb oS us | false=>w1
  match g with | true=>u.setCells (e.β b) (oo+fo) [v'] | false=>u
 have yz:D.da<a.tmps.size:=by rw [hN];exact dA
 have hNI:∀v:Value,D.di<(a.put (some D.da) v).tmps.size:=fun v=>by rw [Y8,hN];exact dI
 let A0:=a.put (some D.da) v'
 let AA:=Zzc A0 D.di D.df vI vF
 have evA:∀i g,(AA i g).eval (.tmp D.da)=v':=fun i g=>by
  cases i <;> cases g
  ·exact Zcd yz v'
  ·exact (Zdb (Ne.symm n2) vF).trans (Zcd yz v')
  ·exact (Zdb (Ne.symm n1) vI).trans (Zcd yz v')
  exact (Zdb (Ne.symm n2) vF).trans ((Zdb (Ne.symm n1) vI).trans (Zcd yz v'))
 have evX:∀x,Zda x [D.da,D.di,D.df]=true->∀i g,(AA i g).eval x=a.eval x:=fun x hx i g=>by
  have h1:=V0 hx (a:=a) (d:=D.da) sM v'
  cases i <;> cases g
  ·exact h1
  ·exact (V0 hx (d:=D.df) sM vF).trans h1
  ·exact (V0 hx (d:=D.di) sM vI).trans h1
  exact (V0 hx (d:=D.df) sM vF).trans ((V0 hx (d:=D.di) sM vI).trans h1)
 have evI:∀g,(AA true g).eval (.tmp D.di)=vI:=fun g=>by
  cases g
  ·exact Zcd (hNI v') vI
  exact (Zdb (Ne.symm n3) vF).trans (Zcd (hNI v') vI)
 have evF:∀i,(AA i true).eval (.tmp D.df)=vF:=fun i=>by
  cases i
  ·exact Zcd (by rw [Y8,hN];exact dF) vF
  exact Zcd (by rw [Y8,Y8,hN];exact dF) vF
 have acp:a.eval D.ix=.int kk (rows.length:Nat):=by
  have:=hρ D.ix;rw [c7] at this;exact this.dint
 have huw:∀(u:World),(∀k,k≠e.β b->u.heap[k]?=w1.heap[k]?)->(∀j,j<us.length->(u.cell? ⟨bb,oS+j,none⟩).isSome=true)/\(∀j,j<us.length->u.frozen? ⟨bb,oS+j,none⟩=false):=fun u hu=>by
  have h1:=hu bb (Ne.symm nd);exact ⟨fun j hj=>by have:=q1 j hj;simpa [World.cell?,h1] using this,fun j hj=>by have:=q2 j hj;simpa [World.frozen?,h1] using this⟩
 have hfw:∀(u:World),(∀k,k≠bb->u.heap[k]?=w1.heap[k]?)->(∀j,j<v'.cells.toList.length->(u.cell? ⟨e.β b,oo+fo+j,none⟩).isSome=true)/\(∀j,j<v'.cells.toList.length->u.frozen? ⟨e.β b,oo+fo+j,none⟩=false):=fun u hu=>by
  have h1:=(hu (e.β b) nd).trans kz;refine ⟨fun j hj=>?_,fun j hj=>by simp [World.frozen?,h1]⟩;have:j<1:=hj;have:oo+fo+j<vs.size:=oM;simp [World.cell?,h1,this]
 have ae:=(Xr bb us oS w1).2.2.2;have bi:=(Xr (e.β b) [v'] (oo+fo) w1).2.2.2;have rS:∀f' h',(h'=true->f'=true)->(execOp (AA true f').eval h.S).run G.P (WW false h')=.ok .skip (WW true h'):=fun f' h' _=>by
  have hx:(AA true f').eval D.x=a.eval D.x:=evX _ b2 _ _
  cases h' with
  | false =>
   obtain ⟨g1,g2⟩:=huw w1 (fun _ _=>rfl);exact Us hT (by rw [c4];exact c2) (by rw [c4];simpa using dv.len) g1 g2 lg a5 (evI f') hx
  | true =>
  obtain ⟨g1,g2⟩:=huw (WW false true) bi;have:=Us (w:=WW false true) hT (by rw [c4];exact c2) (by rw [c4];simpa using dv.len) g1 g2 lg a5 (evI f') hx;rw [this];show Result.ok Next.skip ((w1.setCells (e.β b) (oo+fo) [v']).setCells bb oS us)=.ok .skip ((w1.setCells bb oS us).setCells (e.β b) (oo+fo) [v']);rw [ZaL nd]
 have rH:∀i s,(s=true->i=true)->(execOp (AA i true).eval h.H).run G.P (WW s false)=.ok .skip (WW s true):=fun i s _=>by
  cases s with
  | false =>
   obtain ⟨g1,g2⟩:=hfw w1 (fun _ _=>rfl);exact Us hT (fun h0=>l3 h0) (by rw [hth];rfl) g1 g2 (fun u hu=>by simp [v',Value.cells] at hu;subst hu;rfl) a7 (evF i) (evA i true)
  | true =>
  obtain ⟨g1,g2⟩:=hfw (WW true false) ae;exact Us (w:=WW true false) hT (fun h0=>l3 h0) (by rw [hth];rfl) g1 g2 (fun u hu=>by simp [v',Value.cells] at hu;subst hu;rfl) a7 (evF i) (evA i true)
 have rI:∀f' h',(h'=true->f'=true)->(execOp (AA false f').eval h.I).run G.P (WW false h')=.ok (.value vI) (WW false h'):=fun f' h' _=>by
  have:=Ziq hT c1 c2 a4 (evA false f') ((evX _ b1 false f').trans acp) oM oM (WW false h');rw [this];simp [vI,oS]
 have rF:∀i s,(s=true->i=true)->(execOp (AA i false).eval h.F).run G.P (WW s false)=.ok (.value vF) (WW s false):=fun i s _ =>
  Zip hT jj hfs a6 ((evX _ b3 i false).trans hvx) (WW s false)
 have pI:∀f',(AA false f').put h.I.dst vI=AA true f':=fun f'=>by
  rw [a9]
  cases f'
  ·rfl
  exact Zqy (Ne.symm n3) vF vI
 have pF:∀i,(AA i false).put h.F.dst vF=AA i true:=fun i=>by rw [a10];rfl
 have pS:∀f',(AA true f').put h.S.dst Go.undef=AA true f':=fun f'=>by rw [a11];rfl
 have pH:∀i,(AA i true).put h.H.dst Go.undef=AA i true:=fun i=>by rw [a12];rfl
 have bu:Yf G e0 σ0 w0 ds N Z Q .normal (AA true true) (WW true true):=by
  have y6:e2.β b=e.β b:=(st2.beta b (by exact cu)).trans xc;have F1:=(hF.step st1).step st2;have F2:=FRel.put (a:=a) (d:=some D.da) F1 V2 (fun i hi=>by cases hi;exact yz);have F3:=FRel.put (a:=a.put (some D.da) v') (d:=some D.di) F2 (.undef vI) (fun i hi=>by cases hi;exact hNI v');have F4:=FRel.put (a:=(a.put (some D.da) v').put (some D.di) vI) (d:=some D.df) (x:=.ptr b (oo+fo)) (v:=vF) F3 (by
   have:=VRel.ptr (G:=G) (e:=e2) (σ:=⟨σ.bx,(σ.nx+1)::Zaz σ.nx (σ.nx::tk0),σ.nx+1+1⟩) (w:=w1.setCells bb oS us) b (oo+fo) cu;rw [y6] at this;exact this) (fun i hi=>by cases hi;rw [Y8,Y8,hN];exact dF)
  have ao:Zaz σ.nx (σ.nx::tk0)=tk0:=by
   have acq:σ.nx∉tk0:=fun hm=>by have:=hS.tkn _ (cm _ hm);omega
   unfold Zaz
   split
   ·exact ZgV acq
   rename_i hb;simp at hb
  have hsq:(⟨σ.bx,(σ.nx+1)::Zaz σ.nx (σ.nx::tk0),σ.nx+1+1⟩:St)=⟨σ.bx,(σ.nx+1)::tk0,σ.nx+2⟩:=by rw [ao]
  obtain ⟨w4,sm,st4,S4⟩:=J6 (x:=.sl (σ.nx+1) el (rows++[row])) (v:=v') (t:=D.th) hT S2 nr V2 rfl (by rw [hth];rfl) mh (fun h0=>l3 h0);have ql:w4=WW true true:=by
   have h1:=rH true true (fun _=>rfl);unfold execOp at h1
   rw [y6] at sm;have h2:(AA true true).eval (.tmp D.df)=.pointer (some ⟨e.β b,oo+fo,none⟩):=evF true;have h3:(AA true true).eval (.tmp D.da)=v':=evA true true;have vd:(Instr.storeAt D.th (.pointer (some ⟨e.β b,oo+fo,none⟩)) v').run G.P (WW true false)=.ok () w4:=sm;simp only [a7,h2,h3,Sem.run_bind,vd,Result.andThen,Sem.run_pure] at h1
   cases h1;rfl
  subst ql;refine ⟨.normal,_,e2,_,gr,rfl,by rw [<- hsq];exact S4,?_,(((hL.trans st1.toLater).trans st2.toLater).trans (by rw [<- hsq];exact st4.toLater)),?_,?_,?_⟩
  ·have F5:=F4.step st4;rw [hsq] at F5;rw [<- hf4];exact F5
  ·show (((a.put (some D.da) v').put (some D.di) vI).put (some D.df) vF).tmps.size=N;rw [Y8,Y8,Y8,hN]
  ·show Marks ds _ _ _ (((a.put (some D.da) v').put (some D.di) vI).put (some D.df) vF).defers;rw [Wb,Wb,Wb,<- hsq];exact ((bn.later st1.toLater).later st2.toLater).later st4.toLater
  exact hdz _ _ _ h4.oF a10 _ _ (hdz _ _ _ h4.oI a9 _ _ (hdz _ _ _ oA a8 _ _ hZ))
 have lb:∀i b,i<ops.size->listed.getD i b=listed.getD i false:=fun i b hi=>by
  exact m105
 have ve:∀k,k<ops.size->m<=k->listed.getD k false=false:=fun k hk hm=>by
  cases hv:listed.getD k false with
  | false=>rfl
  | true=>have:=(eu k hk).1 hv;omega
 refine ⟨fun hr=>?_,fun j hj=>?_⟩
 ·exfalso;have:m∈Region.ready .any ops listed:=mem_ready.2 ⟨by rw [lb _ _ oM];exact ve m oM (Tr _),h.A,oA,fun ed he hb=>(eu _ (by have:=eA ed he hb;omega)).2 (eA ed he hb)⟩;rw [hr] at this;cases this
 obtain ⟨h1,o,ho,cd⟩:=mem_ready.1 hj;have ah:=(Tq.1 ho).1;rw [lb _ _ ah] at h1;have yx:j=m:=by
  have ko:m<=j:=by
   apply Classical.byContradiction
   intro hn
   rw [(eu j ah).2 oM] at h1;cases h1
  have no:∀(o':Oper) (q:Nat),o=o'->(∃ed∈o'.after,Region.binds .any ed=true/\ed.on=q)->m<=q->q<ops.size->False:=fun o' q dw gj jg l6=>by
   subst dw;obtain ⟨ed,he,hb,rj⟩:=gj;have:=cd ed he hb;rw [rj,ve q l6 jg] at this;cases this
  apply Classical.byContradiction
  intro an
  have:j=m+1\/j=m+2\/j=m+3\/j=m+4:=oM;rcases this with rfl | rfl | rfl | rfl
  ·rw [h4.oI] at ho;exact no h.I m (Option.some.inj ho).symm eIA (Tr _) oM
  ·rw [h4.oS] at ho;exact no h.S (m+1) (Option.some.inj ho).symm h4.eSI oM oM
  ·rw [h4.oF] at ho;exact no h.F m (Option.some.inj ho).symm eFA (Tr _) oM
  rw [h4.oH] at ho;exact no h.H (m+3) (Option.some.inj ho).symm h4.eHF oM oM
 subst yx;have acr:∀c,h.A.op≠.defer c:=fun c hc=>by rw [a3] at hc;cases hc
 have acs:(execOp a.eval h.A).run G.P w=.ok (.value v') w1:=by
  have aq:args=#[D.s,D.z]:=by rw [<- Array.toArray_toList (xs:=args),a1]
  have act:at'=#[D.t,D.tx]:=by rw [<- Array.toArray_toList (xs:=at'),a2]
  subst aq;subst act;unfold execOp
  simp only [a3,resolve,invoke,builtin,Sem.run_bind,Sem.run_pure,Result.andThen];rw [show Array.map a.eval #[D.s,D.z]=#[a.eval D.s,a.eval D.z] from sM,yy]
 refine Zc9 oA gA acr (.inl acs) ?_;rw [a8];refine Zzb h4 (A:=AA) (W:=WW) rI pI rF pF rS pS rH pH bu 4 false false false false rfl (fun h=>by cases h) (fun h=>by cases h) _ (by simpa using hsz) fun q hq=>?_
 by_cases hqm:q=j
 ·subst hqm;have gq:q<listed.size:=by rw [hsz];exact hq
  simp [Array.getD,gq]
 have:(listed.setIfInBounds j true).getD q false=listed.getD q false:=getD_set_ne false (Ne.symm hqm);rw [this,eu q hq]
 constructor
 ·intro h;exact ⟨oM,oM,oM,oM⟩
 rintro ⟨x1,x2,x3,x4⟩
 have g1:q≠j+1:=fun e=>by cases x1 e
 have g2:q≠j+2:=fun e=>by cases x2 e
 have g3:q≠j+3:=fun e=>by cases x3 e
 have g4:q≠j+4:=fun e=>by cases x4 e
 omega
theorem Ws {m:Nat} {l:List Edge} (h:Zac m l=true):∃ed∈l,Region.binds .any ed=true/\ed.on=m:=by
 simp only [Zac,List.any_eq_true,Tk] at h;obtain ⟨ed,h1,h2,h3⟩:=h;exact ⟨ed,h1,h2,Tn h3⟩
theorem Zdc {l:List Edge}:∀{n:Nat},Zjx n l=true->∀p,p<n->∃ed∈l,Region.binds .any ed=true/\ed.on=p
 | 0,_,p,hp=>oM
 | n+1,h,p,hp=>by
  simp only [Zjx,Tk] at h
  by_cases hpn:p=n
  ·subst hpn;exact Ws h.1
  exact Zdc h.2 p oM
theorem Wj {m:Nat} {l:List Edge} (h:UW m l=true):∀ed∈l,Region.binds .any ed=true->ed.on<=m:=fun ed he hb=>by
 have:=Tm.1 h ed he;rw [hb] at this;exact Ta (by simpa using this)
theorem Wt {o:Oper} (h:Zab o=true):o.guard=none:=by
 unfold Zab at h
 split at h
 ·assumption
 cases h
theorem Zlq (hC:CxOK G C ro e0 σ0 w0) (hM:CxMono C) {ops:Array Oper} (hd:∀o,o∈ops->∀d,o.dst=some d->d<N/\∀t v,Z t->Z (t.setIfInBounds d v)) {h:Hole} (hh:ZeE ops.toList=some h) (aw:ZmX ops.toList h=true)
  {e:Env} {σ:St} {w:World} {a:Act} {f:Frame} (hS:SRel G e σ w) (hF:FRel G e σ w f a.tmps) (hL:Later e0 σ0 w0 e σ w) (hN:a.tmps.size=N) (bn:Marks ds e σ w a.defers) (hZ:Z a.tmps)
  (hW:Vp C ops.toList (VJ ops.toList []) (Zmu C ops.toList h Q) (UH h.pre.length (ZQ 0 h.pre)) [] f σ) :
  wpAnyIn (fw ro) n G.P .any ops (Yf G e0 σ0 w0 ds N Z Q) ops.size (Array.replicate ops.size false) a w:=by
 have kt:=Zio hh;simp only [ZmX,Tk] at aw;obtain ⟨⟨⟨⟨⟨⟨⟨⟨⟨⟨⟨⟨⟨⟨⟨⟨⟨⟨⟨⟨k1,k2⟩,k3⟩,k4⟩,k5⟩,k6⟩,k7⟩,k8⟩,k9⟩,k10⟩,k11⟩,k12⟩,k13⟩,k14⟩,k15⟩,k16⟩,k17⟩,k18⟩,k19⟩,k20⟩,k21⟩:=aw
 cases hD:Zlo h with
 | none=>rw [hD] at k1;cases k1
 | some D =>
 obtain ⟨args,at',a1,a2,a3,a4,a5,a6,a7,a8,a9,a10,a11,a12,b1,b2,b3,n1,n2,n3⟩:=Zbw hD;generalize hm:h.pre.length=m at *;have dz:ops.size=m+5:=by rw [<- Sp,kt];simp [hm]
 have at5:∀k,k<5->ops[m+k]?=[h.A,h.I,h.S,h.F,h.H][k]?:=fun k hk=>by
  rw [<- TA,kt,TX oM,hm];simp
 have oA:ops[m]?=some h.A:=at5 0 oM;have h4:Hole4 ops m h.I h.S h.F h.H:={
  size:=dz
  oI:=at5 1 oM
  oS:=at5 2 oM
  oF:=at5 3 oM
  oH:=at5 4 oM
  gI:=Wt k3
  gS:=Wt k4
  gF:=Wt k5
  gH:=Wt k6
  nI:=fun c hc=>by rw [a4] at hc;cases hc
  nS:=fun c hc=>by rw [a5] at hc;cases hc
  nF:=fun c hc=>by rw [a6] at hc;cases hc
  nH:=fun c hc=>by rw [a7] at hc;cases hc
  eI:=fun ed he hb=>Wj k7 ed (TP.1 he) hb
  eF:=fun ed he hb=>Wj k8 ed (TP.1 he) hb
  eS:=fun ed he hb=>Wj k9 ed (TP.1 he) hb
  eH:=fun ed he hb=>by
   have:=Tm.1 k10 ed (TP.1 he);rw [hb] at this;simp only [Bool.not_true,SE,Sb] at this;rcases this with h | h
   ·exact .inl (Ta h)
   exact .inr (Tn h)
  eSI:=let ⟨ed,h1,h2⟩:=Ws k11;⟨ed,TP.2 h1,h2⟩
  eHF:=let ⟨ed,h1,h2⟩:=Ws k12;⟨ed,TP.2 h1,h2⟩ }
 have eIA:∃ed∈h.I.after,Region.binds .any ed=true/\ed.on=m:=let ⟨ed,h1,h2⟩:=Ws k13;⟨ed,TP.2 h1,h2⟩;have eFA:∃ed∈h.F.after,Region.binds .any ed=true/\ed.on=m:=let ⟨ed,h1,h2⟩:=Ws k14;⟨ed,TP.2 h1,h2⟩;have qi:1<=m:=Ta k17;have eA:∀ed∈h.A.after,Region.binds .any ed=true->ed.on<m:=fun ed he hb=>by
  cases m with
  | zero=>omega
  | succ k=>have:=Wj k16 ed (TP.1 he) hb;omega
 have dq:∀p∈UH m (ZQ 0 h.pre),p.1<m/\ops[p.1]?=some p.2:=fun p hp=>by
  have h1:=(Wq (Jk hp)).2;simp only [Nat.sub_zero] at h1;have h2:=(Tj.1 h1).1;rw [hm] at h2;exact ⟨h2,by rw [<- TA,kt,TM oM];exact h1⟩
 have kr:∀k,k<m->∃p∈UH m (ZQ 0 h.pre),p.1=k:=fun k hk=>J9 k20 k hk
 have ab:(UH m (ZQ 0 h.pre)).length=m:=Tn k18;have:=ZeR (n:=n) hC hM hd (m:=m) (t:=5) (QQ:=Yf G e0 σ0 w0 ds N Z Q) (ms:=VJ ops.toList []) (fun i o hi ho=>by
   obtain ⟨p,hp,rfl⟩:=kr i hi;have:=(dq p hp).2;rw [ho] at this
   cases this
   exact Vw k21 p hp) dz (fun j o hj ho=>by
   have ah:=(Tq.1 ho).1;have:j=m\/j=m+1\/j=m+2\/j=m+3\/j=m+4:=oM;rcases this with rfl | rfl | rfl | rfl | rfl
   ·rw [oA] at ho;cases ho;exact .inl fun p hp=>let ⟨ed,h1,h2⟩:=Zdc k15 p hp;⟨ed,TP.2 h1,h2⟩
   ·rw [h4.oI] at ho;cases ho;obtain ⟨ed,h1,h2,h3⟩:=eIA;exact .inr ⟨ed,h1,h2,oM,oM⟩
   ·rw [h4.oS] at ho;cases ho;obtain ⟨ed,h1,h2,h3⟩:=h4.eSI;exact .inr ⟨ed,h1,h2,oM,oM⟩
   ·rw [h4.oF] at ho;cases ho;obtain ⟨ed,h1,h2,h3⟩:=eFA;exact .inr ⟨ed,h1,h2,oM,oM⟩
   rw [h4.oH] at ho;cases ho;obtain ⟨ed,h1,h2,h3⟩:=h4.eHF;exact .inr ⟨ed,h1,h2,oM,oM⟩)
  (fun x a w hx hp=>by
   cases x with
   | normal=>exact absurd rfl hx
   | _ =>
   obtain ⟨pe,f',e',σ',hq,jb,ax⟩:=hp;refine ⟨pe,f',e',σ',?_,jb,ax⟩
   cases pe <;> first | exact hq | (cases jb;done) | (obtain ⟨_,jb,_⟩:=jb;cases jb))
  (fun listed a w hsz eu hp=>Zqz hC hd hD h4 oA (Wt k2) eA eIA eFA hsz eu hp)
  m (UH m (ZQ 0 h.pre)) ab (fun p hp=>(dq p hp).1) (fun p hp=>(dq p hp).2) (W8 k19).1 (fun p hp e he hb=>(W8 k19).2 p hp e he hb)
  (listed:=Array.replicate ops.size false) sM (fun k hk=>by
   have:(Array.replicate ops.size false).getD k false=false:=by simp [Array.getD]
   rw [this];simp only [To,false_iff]
   rintro ⟨hkm,hh⟩
   obtain ⟨p,hp,he⟩:=kr k hkm;exact hh p hp he) (fun j yx hj p hp=>by
   obtain ⟨q,hq,he⟩:=kr j yx;exact absurd he (hj q hq)) hS hF hL hN bn hZ hW
 rw [dz] at this |-;exact this
end
end Go.PM
end

section
namespace Go.PM
theorem waits_iff {o:Oper}:∀{left:List (Nat×Oper)},VK o left=true↔∃p∈left,∃ed∈o.after,Region.binds .any ed=true/\ed.on=p.1
 | []=>by simp [VK]
 | (i,p)::l=>by
  unfold VK
  rw [Sb,waits_iff (left:=l)]
  constructor
  ·rintro (h | ⟨q,hq,h⟩)
   ·simp only [List.any_eq_true,Tk] at h;obtain ⟨ed,h1,h2,h3⟩:=h;exact ⟨(i,p),sM,ed,TP.2 h1,h2,Tn h3⟩
   exact ⟨q,by simp [hq],h⟩
  rintro ⟨q,hq,ed,h1,h2,h3⟩
  rcases Tv.1 hq with rfl | hq
  ·left
   simp only [List.any_eq_true,Tk];exact ⟨ed,TP.1 h1,h2,by simp at h3;subst h3;simp⟩
  exact .inr ⟨q,hq,ed,h1,h2,h3⟩
theorem V3 {left:List (Nat×Oper)}:∀{l:List (Nat×Oper)} {p:Nat×Oper},Zfq left l=some p->p∈l/\XJ p.2.op=false/\VK p.2 left=false
 | [],p,h=>by cases h
 | (i,o)::l,p,h=>by
  unfold Zfq at h
  split at h
  ·rename_i h1 h2;cases h;exact ⟨sM,h1,h2⟩
  obtain ⟨h1,h2⟩:=V3 h;exact ⟨Tx _ h1,h2⟩
theorem Zbx {left:List (Nat×Oper)}:∀{l:List (Nat×Oper)},Zfq left l=none->∀p∈l,XJ p.2.op=false->VK p.2 left=true
 | [],h,p,hp,_=>by cases hp
 | (i,o)::l,h,p,hp,he=>by
  unfold Zfq at h
  split at h
  ·cases h
  rename_i i6
  rcases Tv.1 hp with rfl | hp
  ·cases hw:VK o left with
   | true=>rfl
   | false=>exact (i6 he hw).elim
  exact Zbx h p hp he
theorem conjE_iff {left:List (Nat×Oper)} {X:Nat->Oper->Prop}:∀{l:List (Nat×Oper)},Zk7 left l X↔∀p∈l,VK p.2 left=false->X p.1 p.2
 | []=>by simp [Zk7]
 | (i,o)::l=>by
  unfold Zk7
  cases hw:VK o left with
  | true => simp only [conjE_iff (l := l)]; constructor
            ·intro h p hp qm
             rcases Tv.1 hp with rfl | hp
             ·simp only at qm;rw [hw] at qm;cases qm
             exact h p hp qm
            exact fun h p hp=>h p (Tx _ hp)
  | false => simp only [conjE_iff (l := l)]; constructor
             ·rintro ⟨h1,h2⟩ p hp qm
              rcases Tv.1 hp with rfl | hp
              ·exact h1
              exact h2 p hp qm
             exact fun h=>⟨h (i,o) sM hw,fun p hp=>h p (Tx _ hp)⟩
theorem Wu {i:Nat}:∀{l:List (Nat×Oper)},l.Pairwise (fun a b=>a.1≠b.1)->∀p,p∈YR i l↔p∈l/\p.1≠i
 | [],_,p=>by simp [YR]
 | (j,o)::l,hp,p=>by
  have h1:=List.pairwise_cons.1 hp;unfold YR
  split
  ·rename_i hb
   have:=Tn hb;subst this
   constructor
   ·exact fun h=>⟨Tx _ h,fun e=>h1.1 p h e.symm⟩
   rintro ⟨h,an⟩
   rcases Tv.1 h with rfl | h
   ·exact absurd rfl an
   exact h
  rename_i hb
  have an:i≠j:=fun e=>by subst e;simp at hb
  rw [Tv,Tv,Wu h1.2]
  constructor
  ·rintro (rfl | h)
   ·exact ⟨.inl rfl,fun e=>an e.symm⟩
   exact ⟨.inr h.1,h.2⟩
  rintro ⟨rfl | h,h2⟩
  ·exact .inl rfl
  exact .inr ⟨h,h2⟩
theorem Zjz {i:Nat}:∀{l:List (Nat×Oper)},l.Pairwise (fun a b=>a.1≠b.1)->(YR i l).Pairwise (fun a b=>a.1≠b.1)
 | [],h=>h
 | (j,o)::l,h=>by
  have h1:=List.pairwise_cons.1 h;unfold YR
  split
  ·exact h1.2
  exact List.Pairwise.cons (fun p hp=>h1.1 p (YZ hp)) (Zjz h1.2)
theorem V4 {i:Nat} {o:Oper}:∀{l:List (Nat×Oper)},(i,o)∈l->(YR i l).length+1=l.length
 | [],h=>by cases h
 | (j,p)::l,h=>by
  unfold YR
  split
  ·rfl
  rename_i hb
  rcases Tv.1 h with h | h
  ·cases h;simp at hb
  rw [Td,V4 h];rfl
theorem Zby {i j:Nat}:∀{l:List (Nat×Oper)},YR i (YR j l)=YR j (YR i l)
 | []=>rfl
 | (k,o)::l=>by
  by_cases h1:j=k
  ·subst h1
   by_cases h2:i=j
   ·subst h2;rfl
   have hb:Nat.beq i j=false:=by cases h:Nat.beq i j with | false=>rfl | true=>exact absurd (Tn h) h2
   simp [YR,hb]
  have hb:Nat.beq j k=false:=by cases h:Nat.beq j k with | false=>rfl | true=>exact absurd (Tn h) h1
  by_cases h2:i=k
  ·subst h2;simp [YR,hb]
  have hc:Nat.beq i k=false:=by cases h:Nat.beq i k with | false=>rfl | true=>exact absurd (Tn h) h2
  simp [YR,hb,hc,Zby (l:=l)]
section
variable {C:Cx} {all:List Oper} {ms:List Nat} {Q:PQ} {f:Frame} {σ:St}
theorem Jl (hM:CxMono C) {i:Nat} {o:Oper} {ctx:List Ld} {K K':List Ld->Frame->St->Prop} (hK:∀c f σ,K c f σ->K' c f σ) (h:W5 C all ms Q i o ctx f σ K):W5 C all ms Q i o ctx f σ K':=by
 unfold W5 at h |-
 refine Zbr hM (fun f' σ' hk=>?_) h;exact m139
theorem ZaM (hM:CxMono C):∀(n:Nat) (l:List (Nat×Oper)) (c c':List Ld) (f:Frame) (σ:St),(∀d,d∈c'->d∈c)->W6 C all ms Q n l c f σ->W6 C all ms Q n l c' f σ
 | 0,[],_,_,_,_,_,h=>h
 | _+1,[],_,_,_,_,_,h=>h
 | 0,_::_,_,_,_,_,_,h=>h.elim
 | n+1,x::l,c,c',f,σ,hs,h=>by
  unfold W6 at h |-
  split at h
  ·exact Zc5 hM hs (fun c c' f σ=>ZaM hM n _ c c' f σ) h
  rw [conjE_iff] at h |-;exact fun p hp hw=>Zc5 hM hs (fun c c' f σ=>ZaM hM n _ c c' f σ) (h p hp hw)
structure Rem (all:List Oper) (ms:List Nat) (L:List (Nat×Oper)):Prop where
 pw:L.Pairwise (fun a b=>a.1≠b.1)
 msk:∀p∈L,ms.getD p.1 0=JJ ms p.2.after.toList 0
 apart:∀p∈L,∀q∈L,p.1≠q.1->XJ p.2.op=false->anc ms p.1 q.1=false->anc ms q.1 p.1=false->Zcb all p.2 q.2=true
 down:∀j,(∀p∈L,p.1≠j)->∀q∈L,anc ms q.1 j=false
theorem Rem.noanc {L:List (Nat×Oper)} (h:Rem all ms L) {p:Nat×Oper} (hp:p∈L) (hw:VK p.2 L=false):∀q∈L,anc ms q.1 p.1=false:=fun q hq=>by
 cases ha:anc ms q.1 p.1 with
 | false=>rfl
 | true =>
 exfalso;unfold anc at ha
 rw [h.msk p hp] at ha;rcases VZ ha with h2 | ⟨ed,he,hb,h2⟩
 ·simp at h2
 have i6:∀x∈L,x.1≠ed.on:=fun x hx e=>by
  have:VK p.2 L=true:=waits_iff.2 ⟨x,hx,ed,TP.2 he,hb,e.symm⟩;rw [hw] at this;cases this
 rcases h2 with h2 | h2
 ·exact i6 q hq h2.symm
 rw [h.down ed.on i6 q hq] at h2;cases h2
theorem Rem.drop {L:List (Nat×Oper)} (h:Rem all ms L) {p:Nat×Oper} (hp:p∈L) (hw:VK p.2 L=false):Rem all ms (YR p.1 L) where
 pw:=Zjz h.pw
 msk:=fun q hq=>h.msk q (YZ hq)
 apart:=fun a ha b hb=>h.apart a (YZ ha) b (YZ hb)
 down:=fun j hj q hq=>by
  by_cases hjp:j=p.1
  ·subst hjp;exact h.noanc hp hw q (YZ hq)
  refine h.down j (fun x hx e=>?_) q (YZ hq);exact hj x ((Wu h.pw x).2 ⟨hx,fun e2=>hjp (e.symm.trans e2)⟩) e
theorem Jm {o:Oper} {i:Nat} {L:List (Nat×Oper)} (h:VK o L=false):VK o (YR i L)=false:=by
 cases hw:VK o (YR i L) with
 | false=>rfl
 | true =>
 obtain ⟨p,hp,hr⟩:=waits_iff.1 hw;rw [waits_iff.2 ⟨p,YZ hp,hr⟩] at h;cases h
theorem ZmY {L:List (Nat×Oper)} (h:L.Pairwise (fun a b=>a.1≠b.1)) {p q:Nat×Oper} (hp:p∈L) (hq:q∈L) (he:p.1=q.1):p=q:=by
 induction L with
 | nil=>cases hp
 | cons x l ih =>
 have h1:=List.pairwise_cons.1 h;rcases Tv.1 hp with qu | qu <;> rcases Tv.1 hq with jg | jg
 ·rw [qu,jg]
 ·exact absurd (qu ▸ he) (h1.1 q jg)
 ·exact absurd (jg ▸ he.symm) (h1.1 p qu)
 exact ih h1.2 qu jg
theorem ZmZ (hM:CxMono C):∀(k:Nat),(∀(L:List (Nat×Oper)),L.length=k+1->Rem all ms L->∀p∈L,VK p.2 L=false->∀ctx f σ,W6 C all ms Q (k+1) L ctx f σ->W5 C all ms Q p.1 p.2 ctx f σ (W6 C all ms Q k (YR p.1 L))) /\
  (∀(L:List (Nat×Oper)),L.length=k+1->Rem all ms L->∀p∈L,XJ p.2.op=false->VK p.2 L=false->∀ctx f σ,W5 C all ms Q p.1 p.2 ctx f σ (W6 C all ms Q k (YR p.1 L))->W6 C all ms Q (k+1) L ctx f σ):=by
 intro k
 induction k with
 | zero =>
  have one:∀(L:List (Nat×Oper)),L.length=0+1->∀p∈L,L=[p]:=fun L hl p hp=>by
   cases L with
   | nil=>cases hp
   | cons x l =>
   cases l with
   | nil=>rw [List.mem_singleton.1 hp]
   | cons y l=>simp at hl
  refine ⟨fun L hl hR p hp hw ctx f σ h=>?_,fun L hl hR p hp he hw ctx f σ h=>?_⟩
  ·obtain rfl:=one L hl p hp;unfold W6 at h
   split at h
   ·rename_i i o jf
    have:=(V3 jf).1;simp at this;subst this;exact h
   exact (conjE_iff.1 h) p hp hw
  obtain rfl:=one L hl p hp;unfold W6
  split
  ·rename_i i o jf
   have:=(V3 jf).1;simp at this;subst this;exact h
  rename_i jf
  have:=Zbx jf p hp he;rw [hw] at this;cases this
 | succ k ih =>
 obtain ⟨ihA,ihB⟩:=ih;refine ⟨fun L hl hR p hp hw ctx f σ h=>?_,fun L hl hR p hp he hw ctx f σ h=>?_⟩
 ·cases L with
  | nil=>cases hp
  | cons x l =>
  unfold W6 at h
  split at h
  ·rename_i j q jf
   obtain ⟨g1,g2,g3⟩:=V3 jf
   by_cases hj:j=p.1
   ·have:=ZmY hR.pw g1 hp hj;subst this;exact h
   have hpd:p∈YR j (x::l):=(Wu hR.pw p).2 ⟨hp,fun e=>hj e.symm⟩;have hjd:(j,q)∈YR p.1 (x::l):=(Wu hR.pw (j,q)).2 ⟨g1,hj⟩;have ab:(YR j (x::l)).length=k+1:=by have:=V4 g1;omega
   have ig:(YR p.1 (x::l)).length=k+1:=by have:=V4 (o:=p.2) hp;omega
   have h2:=Jl hM (fun c f σ hk=>ihA _ ab (hR.drop g1 g3) p hpd (Jm hw) c f σ hk) h;have h3:=Zza hM (fun c c' f σ=>ZaM hM k _ c c' f σ) g2 (hR.apart _ g1 _ hp hj g2 (hR.noanc hp hw _ g1) (hR.noanc g1 g3 _ hp)) (hR.noanc hp hw _ g1) h2;rw [Zby] at h3;exact Jl hM (fun c f σ hk=>ihB _ ig (hR.drop hp hw) (j,q) hjd g2 (Jm g3) c f σ hk) h3
  exact (conjE_iff.1 h) p hp hw
 cases L with
 | nil=>cases hp
 | cons x l =>
 unfold W6
 split
 ·rename_i j q jf
  obtain ⟨g1,g2,g3⟩:=V3 jf
  by_cases hj:j=p.1
  ·have:=ZmY hR.pw g1 hp hj;subst this;exact h
  have hpd:p∈YR j (x::l):=(Wu hR.pw p).2 ⟨hp,fun e=>hj e.symm⟩;have hjd:(j,q)∈YR p.1 (x::l):=(Wu hR.pw (j,q)).2 ⟨g1,hj⟩;have ab:(YR j (x::l)).length=k+1:=by have:=V4 g1;omega
  have ig:(YR p.1 (x::l)).length=k+1:=by have:=V4 (o:=p.2) hp;omega
  have h2:=Jl hM (fun c f σ hk=>ihA _ ig (hR.drop hp hw) (j,q) hjd (Jm g3) c f σ hk) h;have h3:=Zza hM (fun c c' f σ=>ZaM hM k _ c c' f σ) he (hR.apart _ hp _ g1 (fun e=>hj e.symm) he (hR.noanc g1 g3 _ hp) (hR.noanc hp hw _ g1)) (hR.noanc g1 g3 _ hp) h2;rw [Zby] at h3;exact Jl hM (fun c f σ hk=>ihB _ ab (hR.drop g1 g3) p hpd he (Jm hw) c f σ hk) h3
 rename_i jf
 have:=Zbx jf p hp he;rw [hw] at this;cases this
end
def ZtJ (i:Nat) (l:List Edge):Bool:=l.all fun ed=>!(Region.binds .any ed) || Nat.ble (ed.on+1) i
def ZqA (all:List Oper) (ms:List Nat) (L:List (Nat×Oper)):Bool :=
 L.all fun p=>L.all fun q=>Nat.beq p.1 q.1 || XJ p.2.op || anc ms p.1 q.1 || anc ms q.1 p.1 || Zcb all p.2 q.2
def ZtK (ops:List Oper):Bool :=
 let ms:=VJ ops []
 let L:=ZQ 0 ops
 Zbu ms L && (L.all fun p=>ZtJ p.1 p.2.after.toList) && ZqA ops ms L
theorem Zdd:∀{l:List Oper} {i:Nat},(ZQ i l).Pairwise (fun a b=>a.1≠b.1)
 | [],_=>List.Pairwise.nil
 | o::l,i=>List.Pairwise.cons (fun p hp=>by have:=(Wq hp).1;simp only;omega) Zdd
theorem Zce:∀{l:List Oper} {i:Nat},(ZQ i l).length=l.length
 | [],_=>rfl
 | o::l,i=>by simp [ZQ,Zce (l:=l)]
theorem Zcf:∀{l:List Oper} {i k:Nat} {o:Oper},l[k]?=some o->(i+k,o)∈ZQ i l
 | [],_,_,_,h=>by simp at h
 | x::l,i,k,o,h=>by
  unfold ZQ
  cases k with
  | zero=>simp at h;subst h;simp
  | succ k =>
  have:=Zcf (l:=l) (i:=i+1) (k:=k) (o:=o) (by simpa using h);rw [show i+(k+1)=i+1+k by omega];exact Tx _ this
section
variable {G:GE} {C:Cx} {e0 e:Env} {σ0 σ:St} {w0 w:World} {a:Act} {f:Frame} {Q:PQ} {ro:Option Nat} {n:Nat} {ds:Nat×List Deferred×Bool} {N:Nat} {Z:Array Value->Prop}
theorem Zm0 (hC:CxOK G C ro e0 σ0 w0) (hM:CxMono C) {ops:Array Oper} (hd:∀o,o∈ops->∀d,o.dst=some d->d<N/\∀t v,Z t->Z (t.setIfInBounds d v)) {ms:List Nat} :
  ∀(k:Nat) (L:List (Nat×Oper)),L.length=k->Rem ops.toList ms L->(∀p∈L,ops[p.1]?=some p.2)->(∀p∈L,∀ed∈p.2.after,Region.binds .any ed=true->ed.on<p.1) ->
  ∀{listed:Array Bool},listed.size=ops.size->(∀k,k<ops.size->(listed.getD k false=true↔∀p∈L,p.1≠k)) ->
  ∀{ctx:List Ld} {e:Env} {σ:St} {w:World} {a:Act} {f:Frame},SRel G e σ w->FRel G e σ w f a.tmps->Later e0 σ0 w0 e σ w->a.tmps.size=N->Marks ds e σ w a.defers->Z a.tmps->W6 C ops.toList ms Q k L ctx f σ ->
  wpAnyIn (fw ro) n G.P .any ops (Yf G e0 σ0 w0 ds N Z Q) k listed a w
 | 0,L,hl,hR,dh,hed,listed,hsz,eu,ctx,e,σ,w,a,f,hS,hF,hL,hN,bn,hZ,h=>by
  have ov:L=[]:=SA.1 hl;exact m74
 | k+1,L,hl,hR,dh,hed,listed,hsz,eu,ctx,e,σ,w,a,f,hS,hF,hL,hN,bn,hZ,h=>by
  have lb:∀i b,i<ops.size->listed.getD i b=listed.getD i false:=fun i b hi=>by
   exact m105
  have ve:∀p∈L,listed.getD p.1 true=false:=fun p hp=>by
   have ah:=(Tq.1 (dh p hp)).1;rw [lb _ _ ah]
   cases hv:listed.getD p.1 false with
   | false=>rfl
   | true=>exact absurd rfl ((eu p.1 ah).1 hv p hp)
  refine ⟨fun hr=>?_,fun i hi=>?_⟩
  ·exfalso;have:∀(m:Nat),∀p∈L,p.1<=m->False:=by
    intro m
    induction m with
    | zero =>
     intro p hp hm
     have ah:=(Tq.1 (dh p hp)).1;have:p.1∈Region.ready .any ops listed:=mem_ready.2 ⟨ve p hp,p.2,dh p hp,fun ed he hb=>by have:=hed p hp ed he hb;omega⟩;rw [hr] at this;cases this
    | succ m ih =>
    intro p hp hm
    have ah:=(Tq.1 (dh p hp)).1;have:p.1∈Region.ready .any ops listed:=mem_ready.2 ⟨ve p hp,p.2,dh p hp,fun ed he hb=>(eu ed.on (by have:=hed p hp ed he hb;omega)).2 fun q hq e=>by
     have:=hed p hp ed he hb;exact ih q hq oM⟩
    rw [hr] at this;cases this
   cases L with
   | nil=>simp at hl
   | cons x l=>exact this x.1 x sM (Tr _)
  obtain ⟨h1,o,ho,cd⟩:=mem_ready.1 hi;have ah:=(Tq.1 ho).1;rw [lb _ _ ah] at h1;have dq:∃p∈L,p.1=i:=by
   exact m170
  obtain ⟨p,jx,rfl⟩:=dq;have uy:p.2=o:=by have:=dh p jx;rw [ho] at this;exact (Option.some.inj this).symm
  subst uy;have hw:VK p.2 L=false:=by
   cases hv:VK p.2 L with
   | false=>rfl
   | true =>
   obtain ⟨q,hq,ed,he,hb,rj⟩:=waits_iff.1 hv;have l6:=(Tq.1 (dh q hq)).1;have:=(eu q.1 l6).1 (by rw [<- rj];exact cd ed he hb);exact absurd rfl (this q hq)
  have jq:=(ZmZ hM k).1 L hl hR p jx hw ctx f σ h;have az:=Uq (ro:=ro) (n:=n) hC hS hF hL hN bn hZ (ops:=ops) (hd p.2 (Sc ho)) jq;have ab:(YR p.1 L).length=k:=by have:=V4 (o:=p.2) jx;omega
  have next:∀a' w',KRel G e0 σ0 w0 ds N Z (fun f' σ'=>∃c,W6 C ops.toList ms Q k (YR p.1 L) c f' σ') a' w'->wpAnyIn (fw ro) n G.P .any ops (Yf G e0 σ0 w0 ds N Z Q) k (listed.setIfInBounds p.1 true) a' w':=fun a' w' ⟨f',e',σ',⟨c,ir⟩,h2,h3,h4,h5,h6,h7⟩=>by
   refine Zm0 hC hM hd k (YR p.1 L) ab (hR.drop jx hw) (fun x hx=>dh x (YZ hx)) (fun x hx=>hed x (YZ hx)) (by simpa using hsz) (fun k hk=>?_) h2 h3 h4 h5 h6 h7 ir
   by_cases nw:k=p.1
   ·subst nw;have gq:p.1<listed.size:=by rw [hsz];exact ah
    have:(listed.setIfInBounds p.1 true).getD p.1 false=true:=by simp [Array.getD,gq]
    simp only [this,true_iff];exact fun x hx=>((Wu hR.pw x).1 hx).2
   have:(listed.setIfInBounds p.1 true).getD k false=listed.getD k false:=getD_set_ne false (Ne.symm nw);rw [this,eu k hk]
   constructor
   ·exact fun hh x hx=>hh x (YZ hx)
   intro hh x hx hxk
   exact hh x ((Wu hR.pw x).2 ⟨hx,fun e2=>nw (hxk.symm.trans e2)⟩) hxk
  have hK:∀a' w',KRel G e0 σ0 w0 ds N Z (fun f' σ'=>match XJ p.2.op with | true=>Zqq ms p.1 σ.bx σ'.bx ctx (W6 C ops.toList ms Q k (YR p.1 L) ctx f' σ') | false=>W6 C ops.toList ms Q k (YR p.1 L) (Um C.T p.2 p.1 f ctx) f' σ') a' w' ->
    KRel G e0 σ0 w0 ds N Z (fun f' σ'=>∃c,W6 C ops.toList ms Q k (YR p.1 L) c f' σ') a' w':=fun a' w' ⟨f',e',σ',hk,ax⟩=>by
   refine ⟨f',e',σ',?_,ax⟩
   cases hE:XJ p.2.op with
   | true=>rw [hE] at hk;exact ⟨_,(chkL_iff.1 hk).2⟩
   | false=>rw [hE] at hk;exact ⟨_,hk⟩
  exact m106
theorem Zm1 (hC:CxOK G C ro e0 σ0 w0) (hM:CxMono C) {ops:Array Oper} (hd:∀o,o∈ops->∀d,o.dst=some d->d<N/\∀t v,Z t->Z (t.setIfInBounds d v)) (aw:ZtK ops.toList=true)
  (hS:SRel G e σ w) (hF:FRel G e σ w f a.tmps) (hL:Later e0 σ0 w0 e σ w) (hN:a.tmps.size=N) (bn:Marks ds e σ w a.defers) (hZ:Z a.tmps) (h:W6 C ops.toList (VJ ops.toList []) Q ops.toList.length (ZQ 0 ops.toList) [] f σ) :
  wpAnyIn (fw ro) n G.P .any ops (Yf G e0 σ0 w0 ds N Z Q) ops.size (Array.replicate ops.size false) a w:=by
 simp only [ZtK,Tk] at aw;obtain ⟨⟨k1,k2⟩,k3⟩:=aw;have dh:∀p∈ZQ 0 ops.toList,ops[p.1]?=some p.2:=fun p hp=>by
  have:=(Wq hp).2;rw [<- TA];simpa using this
 have kr:∀k,k<ops.size->∃p∈ZQ 0 ops.toList,p.1=k:=fun k hk=>⟨_,Zcf (i:=0) (k:=k) (o:=ops[k]) (by rw [TA,TF hk]),sM⟩
 have ab:ops.toList.length=ops.size:=Sp;rw [ab] at h;refine Zm0 hC hM hd ops.size (ZQ 0 ops.toList) (by rw [Zce,ab]) ⟨Zdd,Vw k1,fun p hp q hq an he h1 h2=>?_,fun j hj q hq=>?_⟩ dh (fun p hp ed he hb=>?_) sM (fun k hk=>?_) hS hF hL hN bn hZ h
 ·have:=Tm.1 (Tm.1 k3 p hp) q hq;simp only [Sb] at this;rcases this with (((h | h) | h) | h) | h
  ·exact absurd (Tn h) an
  ·rw [he] at h;cases h
  ·rw [h1] at h;cases h
  ·rw [h2] at h;cases h
  exact h
 ·by_cases ny:j<ops.size
  ·obtain ⟨p,hp,he⟩:=kr j ny;exact absurd he (hj p hp)
  exact m85
 ·have:=Tm.1 (Tm.1 k2 p hp) ed (TP.1 he);rw [hb] at this;exact Ta (by simpa using this)
 exact m130
end
end Go.PM
end

section
namespace Go.PM
theorem Wc {P:Program} {b:Go.Frame} {a:Act} {k:List Item} {cs:List Go.Frame} {w:World} {c:Code} :
  step P (lone (b.atR a (.code (.scope c)::k)) cs w)=.next (lone (b.atR a (.code c::.inScope c::k)) cs w) :=
 step_lone_go (by simp [stepG,stepG.exec,Go.Frame.atR])
theorem ZfC {P:Program} {b:Go.Frame} {a:Act} {k:List Item} {cs:List Go.Frame} {w:World} {c:Code} :
  step P (lone (b.atR a (.inScope c::k)) cs w)=.next (lone (b.atR a k) cs w) :=
 step_lone_go (by simp [stepG,stepG.exec,Go.Frame.atR])
theorem Zlr {F:Fence} {n:Nat} {P:Program} {Q:Exit->Act->World->Prop} {a:Act} {w:World} {c:Code} (h:c.wpIn F n P (Exit.noGoto Q) a w):(Code.scope c).wpIn F n P Q a w:=by
 intro b k cs y7 hb hr
 have h0:(lone (b.atR a (.code (.scope c)::k)) cs w).fenced P F:=fenced_calm hb hr rfl;obtain ⟨e,a₁,w₁,hq,n4⟩:=h b (.inScope c::k) cs y7 hb hr
 cases e with
 | normal=>exact ⟨.normal,a₁,w₁,hq,.head h0 Wc (StepsIn.trans n4 (.one (fenced_calm hb hr rfl) ZfC))⟩
 | exit id =>
  have hx:exitTo id (.inScope c::k)=exitTo id k:=by simp [exitTo]
  exact ⟨.exit id,a₁,w₁,hq,fun k' hk=>.head h0 Wc (n4.1 k' (by rw [hx];exact hk)),
   fun qg hk=>let ⟨k₁,h1,h2⟩:=n4.2 qg (by rw [hx];exact hk);⟨k₁,h1,.head h0 Wc h2⟩⟩
 | goto l=>exact hq.elim
 | ret=>exact ⟨_,a₁,w₁,hq,.of_steps (.one h0 Wc) n4⟩
 | panic ch=>exact ⟨_,a₁,w₁,hq,.of_steps (.one h0 Wc) n4⟩
 | outgrown=>exact ⟨_,a₁,w₁,hq,.of_steps (.one h0 Wc) n4⟩
def Zm2 (N:Nat):List Oper->Bool
 | []=>true
 | o::l=>(match o.dst with | some d=>Nat.ble (d+1) N | none=>true) && Zm2 N l
def ZR (N:Nat):Code->Bool
 | .region _ ops draw=>Zm2 N ops.toList && (!draw || (match ZeE ops.toList with | none=>(match ZgH (VJ ops.toList []) none (ZQ 0 ops.toList) with | true=>ZmU ops.toList | false=>ZtK ops.toList) | some h=>ZmX ops.toList h))
 | .seq a b=>ZR N a && ZR N b
 | .cond _ a b=>ZR N a && ZR N b
 | .block _ b=>ZR N b
 | .loop b=>ZR N b
 | .scope b=>ZR N b
 | .rangeFunc _ ps a b=>ps.toList.all (fun p=>Nat.ble (p+1) N) && ZR N a && ZR N b
 | _=>true
theorem Zbz {N:Nat}:∀{l:List Oper},Zm2 N l=true->∀o∈l,∀d,o.dst=some d->d<N
 | [],_,o,ho=>by cases ho
 | x::l,h,o,ho=>by
  simp only [Zm2,Tk] at h;rcases Tv.1 ho with rfl | ho
  ·intro d hd
   have:=h.1;rw [hd] at this;exact Ta this
  exact Zbz h.2 o ho
theorem JQ {ks:List Nat}:∀{l:List Oper},XC l ks=true->∀o∈l,∀d,o.dst=some d->d∉ks
 | [],_,o,ho=>by cases ho
 | x::l,h,o,ho=>by
  simp only [XC,Tk] at h;rcases Tv.1 ho with rfl | ho
  ·intro d hd hm
   have:=h.1;rw [hd] at this;simp only [TV] at this;rw [(Y7 _ _).2 hm] at this;cases this
  exact JQ h.2 o ho
def Kept (ks:List Nat) (t0 t:Array Value):Prop:=∀i,i∈ks->t.getD i Go.undef=t0.getD i Go.undef
theorem Kept.set {ks:List Nat} {t0 t:Array Value} (h:Kept ks t0 t) {d:Nat} (hd:d∉ks) (v:Value):Kept ks t0 (t.setIfInBounds d v):=fun i hi=>by
 have an:d≠i:=fun e=>hd (e ▸ hi)
 rw [<- h i hi];simp [T5,an]
theorem UI {ks ls:List Nat}:∀{l:List Oper},XC l ks=true->XC l ls=true->XC l (ks++ls)=true
 | [],_,_=>rfl
 | o::l,h1,h2=>by
  simp only [XC,Tk] at h1 h2 |-;refine ⟨?_,UI h1.2 h2.2⟩;have h1:=h1.1;have h2:=h2.1
  cases hd:o.dst with
  | none=>rfl
  | some d =>
  rw [hd] at h1 h2;simp only [TV] at h1 h2 |-
  cases h3:Zh0 d (ks++ls) with
  | false=>rfl
  | true =>
  rcases TZ.1 ((Y7 _ _).1 h3) with h4 | h4
  ·rw [(Y7 _ _).2 h4] at h1;cases h1
  rw [(Y7 _ _).2 h4] at h2;cases h2
theorem Zef {ks ls:List Nat}:∀{c:Code},YJ ks c=true->YJ ls c=true->YJ (ks++ls) c=true:=by
 intro c
 induction c with
 | region id ops draw=>exact fun h1 h2=>UI h1 h2
 | seq a b iha ihb=>intro h1 h2;simp only [YJ,Tk] at h1 h2 |-;exact ⟨iha h1.1 h2.1,ihb h1.2 h2.2⟩
 | cond c a b iha ihb=>intro h1 h2;simp only [YJ,Tk] at h1 h2 |-;exact ⟨iha h1.1 h2.1,ihb h1.2 h2.2⟩
 | block id b ih=>intro h1 h2;exact ih h1 h2
 | loop b ih=>intro h1 h2;exact ih h1 h2
 | scope b ih=>intro h1 h2;exact ih h1 h2
 | _=>intro _ _;rfl
theorem XN:∀c:Code,YJ [] c=true:=by
 intro c
 induction c with
 | region id ops draw =>
  have:∀l:List Oper,XC l []=true:=by
   intro l
   induction l with
   | nil=>rfl
   | cons o l ih=>simp only [XC,ih,Bool.and_true];cases o.dst <;> rfl
  exact this _
 | seq a b iha ihb=>simp [YJ,iha,ihb]
 | cond c a b iha ihb=>simp [YJ,iha,ihb]
 | block id b ih=>exact ih
 | loop b ih=>exact ih
 | scope b ih=>exact ih
 | _=>rfl
section
variable {G:GE} {C:Cx} {e0 e:Env} {σ0 σ:St} {w0 w:World} {a:Act} {f:Frame} {Q:PQ} {ro:Option Nat} {n:Nat} {ds:Nat×List Deferred×Bool} {N:Nat}
theorem ZaN {base:Frame} {tm:Array Value} (hb:FRel G e σ w base tm):∀{live:List Nat} {vs:List PV},(∀(k i:Nat) (x:PV),live[k]?=some i->vs[k]?=some x->VRel G e σ w x (tm.getD i Go.undef))->FRel G e σ w (Zfs base live vs) tm
 | [],vs,_=>by cases vs <;> exact hb
 | i::is,[],_=>hb
 | i::is,v::vs,h=>by
  intro j
  have ih:=ZaN hb (live:=is) (vs:=vs) fun k i x h1 h2=>h (k+1) i x (by simpa using h1) (by simpa using h2)
  simp only [Zfs]
  by_cases km:i=j
  ·subst km;rw [YY];exact h 0 i v sM sM
  rw [X1 _ _ km];exact ih j
theorem Zde {f0:Frame} {tm:Array Value}:∀{keep:List Nat},(∀i,i∈keep->VRel G e σ w (clean (f0 i)) (tm.getD i Go.undef))->FRel G e σ w (Zia f0 keep) tm
 | [],_=>fun i=>.undef _
 | i::is,h=>by
  intro j
  simp only [Zia]
  by_cases km:i=j
  ·subst km;rw [YY];exact h i sM
  rw [X1 _ _ km];exact Zde (fun k hk=>h k (Tx _ hk)) j
theorem ZqB {ks:List Nat} {t0:Array Value} {b:Code} (ihb:∀(Q:PQ) {e:Env} {σ:St} {w:World} {a:Act} {f:Frame},SRel G e σ w->FRel G e σ w f a.tmps->Later e0 σ0 w0 e σ w->a.tmps.size=N->Marks ds e σ w a.defers->Kept ks t0 a.tmps->W C b Q f σ->b.wpIn (fw ro) n G.P (Yf G e0 σ0 w0 ds N (Kept ks t0) Q) a w)
  (x:Exit) (a:Act) (w:World) (h:Yf G e0 σ0 w0 ds N (Kept ks t0) (fun e f σ=>match e with | .normal=>W C b Q f σ | e=>Q e f σ) x a w):Exit.then (b.wpIn (fw ro) n G.P (Yf G e0 σ0 w0 ds N (Kept ks t0) Q)) (Yf G e0 σ0 w0 ds N (Kept ks t0) Q) x a w:=by
 obtain ⟨pe,f,e,σ,hq,hx,h1,h2,h3,h4,h5,h6⟩:=h
 cases pe with
 | normal=>obtain rfl:x=.normal:=hx;exact ihb Q h1 h2 h3 h4 h5 h6 hq
 | exit id=>obtain rfl:x=.exit id:=hx;exact ⟨.exit id,f,e,σ,hq,rfl,h1,h2,h3,h4,h5,h6⟩
 | goto l=>obtain rfl:x=.goto l:=hx;exact ⟨.goto l,f,e,σ,hq,rfl,h1,h2,h3,h4,h5,h6⟩
 | ret=>obtain rfl:x=.ret:=hx;exact ⟨.ret,f,e,σ,hq,rfl,h1,h2,h3,h4,h5,h6⟩
 | panic p=>obtain ⟨v,rfl,hv⟩:=hx;exact ⟨.panic p,f,e,σ,hq,⟨v,rfl,hv⟩,h1,h2,h3,h4,h5,h6⟩
theorem Zls {Z:Array Value->Prop} {id:Nat} (x:Exit) (a:Act) (w:World) (h:Yf G e0 σ0 w0 ds N Z (fun e f σ=>match e with | .exit i=>(match Nat.beq i id with | true=>Q .normal f σ | false=>Q (.exit i) f σ) | e=>Q e f σ) x a w) :
  Exit.inBlock id (Yf G e0 σ0 w0 ds N Z Q) x a w:=by
 obtain ⟨pe,f,e,σ,hq,hx,ax⟩:=h
 cases pe with
 | normal=>obtain rfl:x=.normal:=hx;exact ⟨.normal,f,e,σ,hq,rfl,ax⟩
 | exit i =>
  obtain rfl:x=.exit i:=hx;simp only [Exit.inBlock]
  by_cases hi:i=id
  ·subst hi;rw [Tg rfl];simp only [show Nat.beq i i=true from sM] at hq;exact ⟨.normal,f,e,σ,hq,rfl,ax⟩
  rw [Tc hi];have:Nat.beq i id=false:=by
   cases hb:Nat.beq i id with
   | false=>rfl
   | true=>exact absurd (Tn hb) hi
  simp only [this] at hq;exact ⟨.exit i,f,e,σ,hq,rfl,ax⟩
 | goto l=>obtain rfl:x=.goto l:=hx;exact ⟨.goto l,f,e,σ,hq,rfl,ax⟩
 | ret=>obtain rfl:x=.ret:=hx;exact ⟨.ret,f,e,σ,hq,rfl,ax⟩
 | panic p=>obtain ⟨v,rfl,hv⟩:=hx;exact ⟨.panic p,f,e,σ,hq,⟨v,rfl,hv⟩,ax⟩
theorem Zlt {Z:Array Value->Prop} (x:Exit) (a:Act) (w:World) (h:Yf G e0 σ0 w0 ds N Z (fun e f σ=>match e with | .goto _=>False | e=>Q e f σ) x a w) :
  Exit.noGoto (Yf G e0 σ0 w0 ds N Z Q) x a w:=by
 obtain ⟨pe,f,e,σ,hq,hx,ax⟩:=h
 cases pe with
 | normal=>obtain rfl:x=.normal:=hx;exact ⟨.normal,f,e,σ,hq,rfl,ax⟩
 | exit i=>obtain rfl:x=.exit i:=hx;exact ⟨.exit i,f,e,σ,hq,rfl,ax⟩
 | goto l=>exact hq.elim
 | ret=>obtain rfl:x=.ret:=hx;exact ⟨.ret,f,e,σ,hq,rfl,ax⟩
 | panic p=>obtain ⟨v,rfl,hv⟩:=hx;exact ⟨.panic p,f,e,σ,hq,⟨v,rfl,hv⟩,ax⟩
theorem ZfD (hS:SRel G e σ w) {b:Nat} {st st':LoopState} {pd pd':Option Code} {r:Loop} (hb:σ.bx[b]?=some (.loop st pd r)) :
  Stepped e σ w e (σ.set b (.loop st' pd' r)) (w.putObj (e.β b) (.loop { r with state:=st',pending:=pd' }))/\SRel G e (σ.set b (.loop st' pd' r)) (w.putObj (e.β b) (.loop { r with state:=st',pending:=pd' })):=by
 have cu:b<σ.bx.length:=(Tj.1 hb).1;have ns:w.heap[e.β b]?=some (.loop { r with state:=st,pending:=pd }):=hS.box b _ hb;have gk:(σ.set b (.loop st' pd' r)).bx.length=σ.bx.length:=by simp [St.set]
 have f7:∀k,k≠e.β b->(w.putObj (e.β b) (.loop { r with state:=st',pending:=pd' })).heap[k]?=w.heap[k]?:=fun k hk=>World.putObj_heap_other hk
 have hst:Stepped e σ w e (σ.set b (.loop st' pd' r)) (w.putObj (e.β b) (.loop { r with state:=st',pending:=pd' })):={
  len:=by rw [gk];exact Tr _
  beta:=fun _ _=>rfl
  X:=rfl
  pres:=fun k o u hk ho=>⟨⟨ho.1,fun j hj=>ho.2.1 j (by rw [gk] at hj;exact hj),ho.2.2⟩,by simpa [World.cell?,f7 k (fun h=>ho.2.1 b cu h.symm)] using hk⟩
  blocks:=fun k hk og _=>f7 k (fun h=>og b cu h.symm)
  size:=by rw [World.putObj_size];exact Tr _
  os:=rfl
  tape:=rfl
  output:=rfl
  fresh:=fun i h1 h2=>by rw [gk] at h2;omega
  ftok:=fun t ht p hp=>.inr ⟨t,ht,p,hp,rfl⟩
  nx:=Tr _
  toks:=fun _ _ ht=>⟨ht,rfl⟩
  own:=fun t' hn ht p hp ah=>f7 _ (fun h=>(hS.own t' ht p hp).2.1 b cu h.symm) }
 refine ⟨hst,?_⟩;exact {
  inj:=fun i j hi hj=>hS.inj i j (by rw [gk] at hi;exact hi) (by rw [gk] at hj;exact hj)
  box:=fun k y hy=>by
   by_cases qz:k=b
   ·subst qz;have:y=.loop st' pd' r:=by
     exact m145
    subst this;exact World.putObj_heap_same (Tq.1 ns).1
   exact m109
  low:=fun i hi=>hS.low i (by rw [gk] at hi;exact hi)
  tkn:=hS.tkn
  own:=fun t' ht p hp=>by
   exact m138
  dis:=hS.dis
  xown:=hS.xown
  xlt:=fun k o hx=>by rw [World.putObj_size];exact hS.xlt k o hx
  glob:=fun k hk=>(f7 k (fun h=>by have:=hS.low b cu;omega)).trans (hS.glob k hk)
  big:=by rw [World.putObj_size];exact hS.big }
theorem ZgW:∀{ps:List Nat} {f:Frame} {args:List PV} {tm:Array Value} {vs:List Value},FRel G e σ w f tm->vs.length=args.length->(∀(i:Nat) (x:PV) (u:Value),args[i]?=some x->vs[i]?=some u->VRel G e σ w x u)->(∀p∈ps,p<tm.size) ->
  FRel G e σ w (Zms f ps args) ((ps.zip vs).foldl (fun tmps (x:Nat×Value)=>tmps.setIfInBounds x.1 x.2) tm)/\((ps.zip vs).foldl (fun tmps (x:Nat×Value)=>tmps.setIfInBounds x.1 x.2) tm).size=tm.size
 | [],f,args,tm,vs,hF,hl,hr,hp=>by simp only [Zms,List.zip_nil_left,List.foldl_nil,and_true];exact hF
 | p::ps,f,[],tm,[],hF,hl,hr,hp=>⟨hF,rfl⟩
 | p::ps,f,x::args,tm,u::vs,hF,hl,hr,hp=>by
   simp only [List.zip_cons_cons,List.foldl_cons,Zms];have h1:FRel G e σ w (JH f p x) (tm.setIfInBounds p u):=by
    have:=FRel.put (a:={ tmps:=tm,defers:=[] }) (d:=some p) hF (hr 0 x u rfl rfl) (fun i hi=>by cases hi;exact hp p sM);exact this
   obtain ⟨g1,g2⟩:=ZgW (ps:=ps) h1 (by simpa using hl) (fun i y v hy hv=>hr (i+1) y v (by simpa using hy) (by simpa using hv)) (fun q hq=>by simpa using hp q (by simp [hq]));exact ⟨g1,by rw [g2];simp⟩
theorem Marks.push {lo:Nat×List Deferred×Bool} {l:List Deferred} (hS:SRel G e σ w) (hf:lo.2.2=false) (h:Marks lo e σ w l):Marks lo e σ (w.alloc (.deferred (some []))) (ZaE w.heap.size::l):=by
 obtain ⟨h0,rs,h1,_,h2,h3⟩:=h;have hg:=Grows.alloc w (.deferred (some []));have rb:∀r∈rs,r<w.heap.size:=fun r hr=>(Tq.1 (h3 r hr).2.1).1
 refine ⟨TW h0 hg.size,w.heap.size::rs,by rw [h1];rfl,fun h=>by (rw [hf] at h;cases h),List.nodup_cons.2 ⟨fun hm=>by have:=rb _ hm;omega,h2⟩,fun r hr=>?_⟩;rcases Tv.1 hr with rfl | hr
 ·refine ⟨h0,heap_alloc_new w _,fun i hi=>by have:=hS.lt hi;omega,fun t ht p hp=>?_⟩;obtain ⟨_,_,cs,ty,fz,hh⟩:=hS.own t ht p hp;have:=(Tq.1 hh).1;omega
 obtain ⟨g1,g2,g3,g4⟩:=h3 r hr;exact ⟨g1,(hg.old r (rb r hr)).trans g2,g3,g4⟩
theorem Zdf (ca:G.P.follows .mixedOrders=true):∀(c:Code) {C:Cx} {ro:Option Nat} {e0:Env} {σ0:St} {w0:World} {N:Nat} {ds:Nat×List Deferred×Bool} {n:Nat},CxOK G C ro e0 σ0 w0->CxMono C.calm->(ds.2.2=true->∀g args raw σ K,¬C.iter g args raw σ K)->ZR N c=true->∀(ks:List Nat) (t0:Array Value),YJ ks c=true->∀(Q:PQ) {e:Env} {σ:St} {w:World} {a:Act} {f:Frame},
  SRel G e σ w->FRel G e σ w f a.tmps->Later e0 σ0 w0 e σ w->a.tmps.size=N->Marks ds e σ w a.defers->Kept ks t0 a.tmps->W C c Q f σ->c.wpIn (fw ro) n G.P (Yf G e0 σ0 w0 ds N (Kept ks t0) Q) a w:=by
 intro c
 induction c with
 | skip=>intro C ro e0 σ0 w0 N ds n hC hM dv _ ks t0 _ Q e σ w a f hS hF hL hN bn hZ h;exact wpIn_skip ⟨.normal,f,e,σ,h,rfl,hS,hF,hL,hN,bn,hZ⟩
 | label l=>intro C ro e0 σ0 w0 N ds n hC hM dv _ ks t0 _ Q e σ w a f hS hF hL hN bn hZ h;exact wpIn_label ⟨.normal,f,e,σ,h,rfl,hS,hF,hL,hN,bn,hZ⟩
 | exit id=>intro C ro e0 σ0 w0 N ds n hC hM dv _ ks t0 _ Q e σ w a f hS hF hL hN bn hZ h;exact wpIn_exit ⟨.exit id,f,e,σ,h,rfl,hS,hF,hL,hN,bn,hZ⟩
 | goto l=>intro C ro e0 σ0 w0 N ds n hC hM dv _ ks t0 _ Q e σ w a f hS hF hL hN bn hZ h;exact wpIn_goto ⟨.goto l,f,e,σ,h,rfl,hS,hF,hL,hN,bn,hZ⟩
 | ret=>intro C ro e0 σ0 w0 N ds n hC hM dv _ ks t0 _ Q e σ w a f hS hF hL hN bn hZ h;exact wpIn_ret ⟨.ret,f,e,σ,h,rfl,hS,hF,hL,hN,bn,hZ⟩
 | region id ops draw =>
  intro C ro e0 σ0 w0 N ds n hC hM dv aw ks t0 jj Q e σ w a f hS hF hL hN bn hZ h
  simp only [ZR,Tk] at aw;have hd:∀o,o∈ops->∀d,o.dst=some d->d<N/\∀t v,Kept ks t0 t->Kept ks t0 (t.setIfInBounds d v):=fun o ho d hod =>
   ⟨Zbz aw.1 o (TP.1 ho) d hod,fun t v hk=>hk.set (JQ jj o (TP.1 ho) d hod) v⟩
  cases draw with
  | false =>
   refine wpIn_region ?_;have:=ZeO (ro:=ro) (n:=n) hC hd ops.toList 0 (fun j=>sM) hS hF hL hN bn hZ h;rw [List.range_eq_range'];simpa using this
  | true =>
  refine wpIn_region_any ca ?_;have kh:=aw.2;simp only [Bool.not_true,SE] at kh;simp only [W] at h;have la:Later e0 σ0 w0 e σ { w with drawn:=w.drawn+1 }:=hL.trans { Later.refl e σ w with };have hst:Stepped e σ w e σ { w with drawn:=w.drawn+1 }:={ Stepped.refl e σ w with }
  have ey:SRel G e σ { w with drawn:=w.drawn+1 }:={ hS with box:=fun i x hx=>(hS.box i x hx).step hst rfl }
  split at h
  ·rename_i hh
   rw [hh] at kh;simp only at kh;split at h
   ·rename_i hch
    rw [hch] at kh;exact Zlm hC.calm hM hd kh ey (hF.step hst) la hN (bn.later hst.toLater) hZ h
   rename_i hch
   rw [hch] at kh;exact Zm1 hC.calm hM hd kh ey (hF.step hst) la hN (bn.later hst.toLater) hZ h
  rename_i hl hh
  rw [hh] at kh;exact Zlq hC.calm hM hd hh kh ey (hF.step hst) la hN (bn.later hst.toLater) hZ h
 | seq x y ihx ihy =>
  intro C ro e0 σ0 w0 N ds n hC hM dv aw ks t0 jj Q e σ w a f hS hF hL hN bn hZ h
  simp only [ZR,Tk] at aw;simp only [YJ,Tk] at jj;simp only [W] at h;split at h
  ·exact wpIn_seq (wpIn_mono (ihx hC hM dv aw.1 ks t0 jj.1 _ hS hF hL hN bn hZ h) (ZqB fun Q {e σ w a f}=>ihy hC hM dv aw.2 ks t0 jj.2 Q))
  rename_i live I ij
  obtain ⟨h1,h2⟩:=h;refine wpIn_seq (wpIn_mono (ihx hC hM dv aw.1 ks t0 jj.1 _ hS hF hL hN bn hZ h1) fun x' a' w' hp=>?_);obtain ⟨pe,f',e',σ',hq,hx,g1,g2,g3,g4,g5,g6⟩:=hp
  cases pe with
  | normal =>
   obtain rfl:x'=.normal:=hx;obtain ⟨vs0,σ1,e1,hI,cx,lp,ab,fg⟩:=Zjw g1 hq;have y8:FRel G e1 σ1 w' (Zfs (fun _=>.undef) live vs0) a'.tmps:=ZaN (fun i=>.undef _) fun k i x h1 h2=>fg k (f' i) x _ (by rw [TL,h1];rfl) h2 (g2 i)
   exact ihy hC hM dv aw.2 ks t0 jj.2 Q cx y8 (g3.drop lp g3.len) g4 (g5.drop lp) g6 (h2 _ _ hI)
  | exit id=>obtain rfl:x'=.exit id:=hx;exact ⟨.exit id,f',e',σ',hq,rfl,g1,g2,g3,g4,g5,g6⟩
  | goto l=>obtain rfl:x'=.goto l:=hx;exact ⟨.goto l,f',e',σ',hq,rfl,g1,g2,g3,g4,g5,g6⟩
  | ret=>obtain rfl:x'=.ret:=hx;exact ⟨.ret,f',e',σ',hq,rfl,g1,g2,g3,g4,g5,g6⟩
  | panic p=>obtain ⟨v,rfl,hv⟩:=hx;exact ⟨.panic p,f',e',σ',hq,⟨v,rfl,hv⟩,g1,g2,g3,g4,g5,g6⟩
 | cond c x y ihx ihy =>
  intro C ro e0 σ0 w0 N ds n hC hM dv aw ks t0 jj Q e σ w a f hS hF hL hN bn hZ h
  simp only [ZR,Tk] at aw;simp only [YJ,Tk] at jj;simp only [W] at h;have hv:=Zb8 hF c;split at h
  ·rename_i t hc
   rw [hc] at hv
   cases t with
   | true=>exact wpIn_cond_true hv.dbool (ihx hC hM dv aw.1 ks t0 jj.1 _ hS hF hL hN bn hZ h)
   | false=>exact wpIn_cond_false hv.dbool (ihy hC hM dv aw.2 ks t0 jj.2 _ hS hF hL hN bn hZ h)
  exact h.elim
 | block id b ih =>
  intro C ro e0 σ0 w0 N ds n hC hM dv aw ks t0 jj Q e σ w a f hS hF hL hN bn hZ h
  exact wpIn_block (wpIn_mono (ih hC hM dv aw ks t0 jj _ hS hF hL hN bn hZ h) Zls)
 | scope b ih =>
  intro C ro e0 σ0 w0 N ds n hC hM dv aw ks t0 jj Q e σ w a f hS hF hL hN bn hZ h
  exact Zlr (wpIn_mono (ih hC hM dv aw ks t0 jj _ hS hF hL hN bn hZ h) Zlt)
 | loop b ih =>
  intro C ro e0 σ0 w0 N ds n hC hM dv aw ks t0 jj Q e σ w a f hS hF hL hN bn hZ h
  simp only [W] at h;generalize C.loop (Xf b)=A at h;split at h
  ·rename_i m0 _
   generalize m0+1=m at h
   let J:Nat->Frame->St->Act->World->Prop:=fun k f1 σ1 a1 w1=>∃e1,ZeF (fun Q f σ=>W C b Q f σ) Q k f1 σ1/\SRel G e1 σ1 w1/\FRel G e1 σ1 w1 f1 a1.tmps/\Later e σ w e1 σ1 w1/\a1.tmps.size=N/\Marks ds e1 σ1 w1 a1.defers/\Kept ks a.tmps a1.tmps
   let In:Act->World->Prop:=fun a1 w1=>∃k f1 σ1,J k f1 σ1 a1 w1
   let Mu:Act->World->Nat->Prop:=fun a1 w1 m=>∃f1 σ1,J m f1 σ1 a1 w1
   have least:∀a1 w1,In a1 w1->∃m,Mu a1 w1 m/\∀m',Mu a1 w1 m'->m<=m':=fun a1 w1 ⟨k,f1,σ1,hJ⟩=>by
    have:∀m,Mu a1 w1 m->∃m,Mu a1 w1 m/\∀m',Mu a1 w1 m'->m<=m':=by
     intro m
     induction m using Nat.strongRecOn with
     | _ m ihm =>
     intro hm
     exact m140
    exact this _ ⟨f1,σ1,hJ⟩
   classical
   let mu:Act->World->Nat:=fun a1 w1=>if hh:∃m,Mu a1 w1 m/\∀m',Mu a1 w1 m'->m<=m' then Classical.choose hh else 0
   have vf:∀a1 w1,In a1 w1->Mu a1 w1 (mu a1 w1)/\∀m',Mu a1 w1 m'->mu a1 w1<=m':=fun a1 w1 vg=>by
    have hh:=least a1 w1 vg;simp only [mu,dif_pos hh];exact Classical.choose_spec hh
   refine wpIn_loop In mu ⟨m,f,σ,e,h,hS,hF,Later.refl e σ w,hN,bn,fun i _=>rfl⟩ ?_;intro a1 w1 vg
   obtain ⟨⟨f2,σ2,⟨e2,hU,ce,ur,ni,hN2,vh,hK2⟩⟩,_⟩:=vf a1 w1 vg;generalize kc:mu a1 w1=mm at hU
   cases mm with
   | zero=>exact hU.elim
   | succ mm =>
   simp only [ZeF] at hU;have hb:=ih (n:=n) (hC.later hL) hM dv aw ks a.tmps jj _ ce ur ni hN2 vh hK2 hU;refine wpIn_mono hb fun x a' w' hp=>?_
   obtain ⟨pe,f',e',σ',hq,hx,h1,h2,h3,h4,h5,h6⟩:=hp;have oi:Kept ks t0 a'.tmps:=fun i hi=>(h6 i hi).trans (hZ i hi)
   cases pe with
   | normal =>
    obtain rfl:x=.normal:=hx;have hJ:J mm f' σ' a' w':=⟨e',hq,h1,h2,h3,h4,h5,h6⟩
    have o8:In a' w':=⟨mm,f',σ',hJ⟩
    refine ⟨o8,?_⟩;have:=(vf a' w' o8).2 _ ⟨f',σ',hJ⟩;exact Nat.lt_succ_of_le this
   | exit id=>obtain rfl:x=.exit id:=hx;exact ⟨.exit id,f',e',σ',hq,rfl,h1,h2,hL.trans h3,h4,h5,oi⟩
   | goto l=>obtain rfl:x=.goto l:=hx;exact ⟨.goto l,f',e',σ',hq,rfl,h1,h2,hL.trans h3,h4,h5,oi⟩
   | ret=>obtain rfl:x=.ret:=hx;exact ⟨.ret,f',e',σ',hq,rfl,h1,h2,hL.trans h3,h4,h5,oi⟩
   | panic p=>obtain ⟨v,rfl,hv⟩:=hx;exact ⟨.panic p,f',e',σ',hq,⟨v,rfl,hv⟩,h1,h2,hL.trans h3,h4,h5,oi⟩
  have key:∀A:LoopAnn,YJ A.keep b=true->(JK (C.ag (Xf b)) σ.bx.length (A.live.map f) σ fun vs σ0=>A.I vs σ0 /\
    ∀vs σ1,A.I vs σ1->W C b (fun e f' σ'=>match e with
     | .normal=>JK (C.ag (Xf b)) σ1.bx.length (A.live.map f') σ' fun vs' σ''=>A.I vs' σ''/\A.μ vs' σ''<A.μ vs σ1
     | e=>Q e f' σ') (Zfs (Zia f A.keep) A.live vs) σ1)->(Code.loop b).wpIn (fw ro) n G.P (Yf G e0 σ0 w0 ds N (Kept ks t0) Q) a w:=fun A kb h=>by
   obtain ⟨vs0,σ1,e1,⟨hI,mj⟩,cx,lp,ab,fg⟩:=Zc8 hS h;have lq:∀{e':Env} {σ':St} {w':World} {tm:Array Value},Later e σ w e' σ' w'->Kept (ks++A.keep) a.tmps tm->∀i,i∈A.keep->VRel G e' σ' w' (clean (f i)) (tm.getD i Go.undef):=fun {e' σ' w' tm} hl hk i hi=>by
    rw [hk i (TZ.2 (.inr hi))];exact VRel.clean hl.len hl.beta hl.pres (hF i) (hF i).bnd
   have sn:∀(f':Frame) (tm:Array Value) (vs':List PV) {e':Env} {σ':St} {w':World} {e'':Env} {σ'':St},FRel G e' σ' w' f' tm->(∀(i:Nat) (x y:PV) (u:Value),(A.live.map f')[i]?=some x->vs'[i]?=some y->VRel G e' σ' w' x u->VRel G e'' σ'' w' y u) ->
     ∀(k i:Nat) (x:PV),A.live[k]?=some i->vs'[k]?=some x->VRel G e'' σ'' w' x (tm.getD i Go.undef):=fun f' tm vs' {e' σ' w' e'' σ''} hf hv k i x h1 h2 =>
    hv k (f' i) x _ (by rw [TL,h1];rfl) h2 (hf i)
   let J:List PV->St->Act->World->Prop:=fun vs σ1 a1 w1=>∃e1,A.I vs σ1/\SRel G e1 σ1 w1/\FRel G e1 σ1 w1 (Zfs (Zia f A.keep) A.live vs) a1.tmps/\Later e σ w e1 σ1 w1/\a1.tmps.size=N/\Marks ds e1 σ1 w1 a1.defers/\Kept (ks++A.keep) a.tmps a1.tmps
   let In:Act->World->Prop:=fun a1 w1=>∃vs σ1,J vs σ1 a1 w1
   let Mu:Act->World->Nat->Prop:=fun a1 w1 m=>∃vs σ1,J vs σ1 a1 w1/\A.μ vs σ1=m
   have least:∀a1 w1,In a1 w1->∃m,Mu a1 w1 m/\∀m',Mu a1 w1 m'->m<=m':=fun a1 w1 ⟨vs,σ1,hJ⟩=>by
    have:∀m,Mu a1 w1 m->∃m,Mu a1 w1 m/\∀m',Mu a1 w1 m'->m<=m':=by
     intro m
     induction m using Nat.strongRecOn with
     | _ m ihm =>
     intro hm
     exact m140
    exact this _ ⟨vs,σ1,hJ,rfl⟩
   classical
   let mu:Act->World->Nat:=fun a1 w1=>if hh:∃m,Mu a1 w1 m/\∀m',Mu a1 w1 m'->m<=m' then Classical.choose hh else 0
   have vf:∀a1 w1,In a1 w1->Mu a1 w1 (mu a1 w1)/\∀m',Mu a1 w1 m'->mu a1 w1<=m':=fun a1 w1 vg=>by
    have hh:=least a1 w1 vg;simp only [mu,dif_pos hh];exact Classical.choose_spec hh
   have so:Later e σ w e1 σ1 w:=(Later.refl e σ w).drop lp (Tr _);have o9:Kept (ks++A.keep) a.tmps a.tmps:=fun i _=>rfl
   refine wpIn_loop In mu ⟨vs0,σ1,e1,hI,cx,?_,so,hN,bn.drop lp,o9⟩ ?_
   ·exact ZaN (Zde (lq so o9)) (sn f a.tmps vs0 hF fg)
   intro a1 w1 vg
   obtain ⟨⟨vs,σ2,⟨e2,jk,ce,ur,ni,hN2,vh,hK2⟩,hm⟩,_⟩:=vf a1 w1 vg;have hb:=ih (n:=n) (hC.later hL) hM dv aw (ks++A.keep) a.tmps (Zef jj kb) _ ce ur ni hN2 vh hK2 (mj vs σ2 jk);refine wpIn_mono hb fun x a' w' hp=>?_
   obtain ⟨pe,f',e',σ',hq,hx,h1,h2,h3,h4,h5,h6⟩:=hp;have oi:Kept ks t0 a'.tmps:=fun i hi=>(h6 i (TZ.2 (.inl hi))).trans (hZ i hi)
   cases pe with
   | normal =>
    obtain rfl:x=.normal:=hx;obtain ⟨vs',σ3,e3,⟨hI3,ah⟩,cg,pa,fe,acz⟩:=Zc8 h1 hq;have xd:Later e σ w e3 σ3 w':=h3.drop pa ni.len;have hJ:J vs' σ3 a' w':=⟨e3,hI3,cg,ZaN (Zde (lq xd h6)) (sn f' a'.tmps vs' h2 acz),xd,h4,h5.drop pa,h6⟩
    have o8:In a' w':=⟨vs',σ3,hJ⟩
    refine ⟨o8,?_⟩;have:=(vf a' w' o8).2 _ ⟨vs',σ3,hJ,rfl⟩;rw [<- hm];exact Nat.lt_of_le_of_lt this ah
   | exit id=>obtain rfl:x=.exit id:=hx;exact ⟨.exit id,f',e',σ',hq,rfl,h1,h2,hL.trans h3,h4,h5,oi⟩
   | goto l=>obtain rfl:x=.goto l:=hx;exact ⟨.goto l,f',e',σ',hq,rfl,h1,h2,hL.trans h3,h4,h5,oi⟩
   | ret=>obtain rfl:x=.ret:=hx;exact ⟨.ret,f',e',σ',hq,rfl,h1,h2,hL.trans h3,h4,h5,oi⟩
   | panic p=>obtain ⟨v,rfl,hv⟩:=hx;exact ⟨.panic p,f',e',σ',hq,⟨v,rfl,hv⟩,h1,h2,hL.trans h3,h4,h5,oi⟩
  split at h
  ·rename_i kb
   split at h
   ·exact key _ kb h
   exact key (A.tied f) kb h
  exact h.elim
 | rangeFunc g ps asg body iha ihb =>
  intro C ro e0 σ0 w0 N ds n hC hM dv aw ks t0 jj Q e σ w a f hS hF hL hN bn hZ h
  simp only [ZR,Tk] at aw;simp only [W] at h;split at h
  ·rename_i gid first caps hg
   have hv:=Zb8 hF g;rw [hg] at hv;generalize hgv:a.eval g=gv at hv
   cases hv with
   | func _ _ _ va vc ha hc h1 h2 =>
   have y7:ro=none:=by
    rcases hC.out with h0 | h0
    ·exact h0
    exact absurd (h 0 default) (h0 _ _ _ _ _)
   subst y7;refine wpIn_rangeFunc fun fn _=>?_
   have hMi:CxMono C.inner.calm:=⟨hM.one,hM.call,hM.raw,rfl⟩
   have hdf:ds.2.2=false:=by
    cases bf:ds.2.2 with
    | false=>rfl
    | true=>exact absurd (h 0 default) (dv bf _ _ _ _ _)
   let rec0:Loop:={ state:=.ready,pending:=none,fn,tmps:=a.tmps,params:=ps,assign:=asg,body,defers:=w.heap.size }
   let wA:=w.alloc (.deferred (some []))
   have hgA:Grows w wA:=Grows.alloc w _;have hSA:SRel G e σ wA:=hS.grow hgA;have vi:Stepped e σ w e σ wA:=hgA.stepped e σ;have ac1:Marks ds e σ wA (ZaE w.heap.size::a.defers):=bn.push hS hdf;have hsz:wA.heap.size=w.heap.size+1:=by simp [wA]
   obtain ⟨rk,cx,_⟩:=ZcZ hSA (.loop .ready none rec0) (.loop rec0) (fun _ _ _ _ hh=>hh);have xc:(e.more σ.bx.length wA.heap.size).β σ.bx.length=w.heap.size+1:=by simp [Env.more,hsz]
   have ns:=h (w.heap.size+1) rec0;obtain ⟨mi,lm⟩:=hC.iter _ _ _ _ _ ns;have vj:ArgsRel G (e.more σ.bx.length wA.heap.size) (σ.new (.loop .ready none rec0)) (wA.alloc (.loop rec0)) (first++.raw (.func (.yield (w.heap.size+1)) #[] #[])::caps) (va++#[.func (.yield (w.heap.size+1)) #[] #[]]++vc):=by
    rw [List.append_cons];refine (ArgsRel.append (ArgsRel.append ⟨ha,fun i x u hx hu=>((h1 i x u hx hu).step vi).step rk⟩ ⟨rfl,fun i x u hx hu=>?_⟩) ⟨hc,fun i x u hx hu=>((h2 i x u hx hu).step vi).step rk⟩)
    match i with
    | 0=>cases hx;cases hu;exact .raw _
    | n+1=>cases hx
   have so:Later e σ w (e.more σ.bx.length wA.heap.size) (σ.new (.loop .ready none rec0)) (wA.alloc (.loop rec0)):=vi.toLater.trans rk.toLater;have sq:σ.bx.length<(σ.new (.loop .ready none rec0)).bx.length:=by rw [ZBK];omega
   refine ⟨w.heap.size+1,[ZaE w.heap.size],wA.alloc (.loop rec0),{ target:=.fn (.func gid) vc,args:=va++#[.func (.yield (w.heap.size+1)) #[] #[]] },wA.alloc (.loop rec0),gid,va++#[.func (.yield (w.heap.size+1)) #[] #[]]++vc,wA.alloc (.loop rec0),
    run_enterLoop_outer fn a.tmps ps asg body,?_,fun _ _=>trivial,?_,fun hh=>by simp [fw] at hh,?_⟩
   ·show (Deferred.ofValue (a.eval g) _).run _ _=_;rw [hgv];simp [Deferred.ofValue,rangeCall,Act.eval]
   ·simp only [invoke];exact mi _ _
   refine (lm (n - 1) _ _ _ cx vj ?_).mono fun en w3 hA=>?_
   ·
    intro v args σ' K hr
    obtain ⟨rfl,nr,sr,hWA⟩:=hr;refine ⟨w.heap.size+1,rfl,fun ro n e' w' vs ey la uo=>?_⟩;have mc:σ.bx.length<σ'.bx.length:=(Tj.1 nr).1;have hβ':e'.β σ.bx.length=w.heap.size+1:=(la.beta _ sq).trans xc;have pb:w'.heap[w.heap.size+1]?=some (.loop rec0):=by have:=ey.box _ _ nr;rw [hβ'] at this;exact this
    have fg:vs.size=rec0.params.size:=by rw [uo.1,sr];simp [rec0]
    refine ⟨_,_,_,_,run_yield pb fg,?_⟩;have hF0:FRel G e' σ' w' (UO f) a.tmps:=hF.clean (so.trans la);have ut:∀p∈ps.toList,p<a.tmps.size:=fun p hp=>by
     have:=Tm.1 aw.1.1 p hp;rw [hN];exact Ta this
    have ss:(rec0.params.zip vs).foldl (fun tmps (x:Nat×Value)=>tmps.setIfInBounds x.1 x.2) rec0.tmps=(ps.toList.zip vs.toList).foldl (fun tmps (x:Nat×Value)=>tmps.setIfInBounds x.1 x.2) a.tmps:=by
     rw [<- Array.foldl_toList,Array.toList_zip]
    obtain ⟨y8,jz⟩:=ZgW (ps:=ps.toList) (args:=args) (vs:=vs.toList) hF0 (by simpa using uo.1) (fun i x u hx hu=>uo.2 i x u hx (by simpa using hu)) ut;refine roundIn_of_wpIn trivial ?_;have hCr:CxOK G C.inner (some (w.heap.size+1)) e' σ' w':=⟨hC.tab,hC.call,hC.raw.later (hL.trans (so.trans la)),fun _ _ _ _ _ hh=>hh.elim,.inr fun _ _ _ _ _ hh=>hh⟩
    have hwa:=iha (n:=n) (ds:=(0,[],false)) hCr hMi (fun h=>by cases h) aw.1.2 [] #[] (XN _) _ (a:={ tmps:=(rec0.params.zip vs).foldl (fun tmps (x:Nat×Value)=>tmps.setIfInBounds x.1 x.2) rec0.tmps,defers:=[] }) ey (by rw [ss];exact y8) (Later.refl _ _ _) (by rw [ss];exact jz.trans hN) (Marks.nil _ _ (T7 _)) (fun i hi=>by cases hi) hWA;refine wpIn_mono hwa fun x1 a1 w1 hp=>?_
    obtain ⟨pe,f1,e1,σ1,hq,hx,k1,k2,k3,k4,k5,k6⟩:=hp
    cases pe with
    | normal =>
     obtain rfl:x1=.normal:=hx;obtain ⟨aj,hWB⟩:=hq;obtain ⟨pg,ce⟩:=ZfD (st':=.busy) (pd':=none) k1 aj;have vk:e1.β σ.bx.length=w.heap.size+1:=(k3.beta _ mc).trans hβ';have vl:w1.heap[w.heap.size+1]?=some (.loop rec0):=by have:=k1.box _ _ aj;rw [vk] at this;exact this
     refine ⟨_,run_beginRound vl rfl,?_⟩;rw [vk] at pg ce;have hwb:=ihb (n:=n) (ds:=(0,[],false)) (hCr.later (k3.trans pg.toLater)) hMi (fun h=>by cases h) aw.2 [] #[] (XN _) _ ce (k2.step pg) (Later.refl _ _ _) k4 (k5.later pg.toLater) (fun i hi=>by cases hi) hWB;refine wpIn_mono hwb fun x2 a2 w2 iv=>?_
     obtain ⟨pe2,f2,e2,σ2,l6,dt,m1,m2,m3,m4,m5,m6⟩:=iv;have iu:σ.bx.length<(σ1.set σ.bx.length (.loop .busy none rec0)).bx.length:=by simp only [St.set,Sx];exact (Tj.1 aj).1
     have y6:e2.β σ.bx.length=w.heap.size+1:=(m3.beta _ iu).trans vk;have ni:Later e' σ' w' e2 σ2 w2:=(k3.trans pg.toLater).trans m3;have fin:∀(jump:Option Code),ZwJ σ.bx.length rec0 (if jump.isNone then .ready else .done) jump jump.isNone σ2 K->∃v w'',(Instr.endRound (w.heap.size+1) jump).run G.P w2=.ok v w''/\X3 G e' σ' w' K (.returned v) w'':=fun jump hq=>by
      obtain ⟨y9,hK⟩:=hq;have vm:w2.heap[w.heap.size+1]?=some (.loop { rec0 with state:=.busy,pending:=none }):=by have:=m1.box _ _ y9;rw [y6] at this;exact this
      have vn:=ZfD (st':=if jump.isNone then .ready else .done) (pd':=jump) m1 y9;rw [y6] at vn;exact ⟨_,_,run_endRound jump vm,_,_,e2,hK,⟨_,rfl,.mkbool⟩,vn.2,ni.trans vn.1.toLater⟩
     cases pe2 with
     | normal=>obtain rfl:x2=.normal:=dt;exact fin none l6
     | ret=>obtain rfl:x2=.ret:=dt;exact fin (some .ret) l6
     | exit id=>obtain rfl:x2=.exit id:=dt;exact fin (some (.exit id)) l6
     | goto t=>obtain rfl:x2=.goto t:=dt;exact fin (some (.goto t)) l6
     | panic p=>exact l6.elim
    | exit id=>exact hq.elim
    | goto t=>exact hq.elim
    | ret=>exact hq.elim
    | panic p=>exact hq.elim
   
   obtain ⟨pe,σ3,e3,hk,hE,cg,xd⟩:=hA;have hLs:=so.trans xd;have za:Marks ds e3 σ3 w3 (ZaE w.heap.size::a.defers):=(ac1.later rk.toLater).later xd;have hβ3:e3.β σ.bx.length=w.heap.size+1:=(xd.beta _ sq).trans xc
   cases pe with
   | panic p =>
    obtain ⟨u,rfl,hr⟩:=hE;exact ⟨.panic p,_,e3,σ3,hk,⟨u,rfl,hr⟩,cg,fun i=>.undef _,hL.trans hLs,hN,za,hZ⟩
   | ret p =>
   obtain ⟨u,rfl,hr⟩:=hE;unfold Zjs at hk
   simp only at hk;split at hk
   ·rename_i st pd r nr
    have pb:w3.heap[w.heap.size+1]?=some (.loop { r with state:=st,pending:=pd }):=by have:=cg.box _ _ nr;rw [hβ3] at this;exact this
    have n5:=ZfD (st':=.exhausted) (pd':=pd) cg nr;rw [hβ3] at n5;obtain ⟨n5,ef⟩:=n5;have ia:∀(pe:PExit) (x:Exit),Q pe (UO f) (σ3.set σ.bx.length (.loop .exhausted pd r))->ZwM G e3 (σ3.set σ.bx.length (.loop .exhausted pd r)) (w3.putObj (w.heap.size+1) (.loop { r with state:=.exhausted,pending:=pd })) pe x ->
      Yf G e0 σ0 w0 ds N (Kept ks t0) Q x { a with defers:=[ZaE w.heap.size]++a.defers } (w3.putObj (w.heap.size+1) (.loop { r with state:=.exhausted,pending:=pd })):=fun pe x hq hx =>
     ⟨pe,_,e3,_,hq,hx,ef,hF.clean (hLs.trans n5.toLater),hL.trans (hLs.trans n5.toLater),hN,za.later n5.toLater,hZ⟩
    have ct:∀(hb:st≠.busy),(Instr.endLoop (w.heap.size+1)).run G.P w3=.ok pd (w3.putObj (w.heap.size+1) (.loop { r with state:=.exhausted,pending:=pd })):=fun hb=>run_endLoop pb hb
    have go:st≠.busy->Zmt σ.bx.length r (UO f) Q σ3 pd->rangePost (fw none) n G.P (w.heap.size+1) (Yf G e0 σ0 w0 ds N (Kept ks t0) Q) { a with defers:=[ZaE w.heap.size]++a.defers } (.returned u) w3:=fun hb hq=>by
     refine ⟨pd,_,ct hb,?_⟩;unfold Zmt at hq
     split at hq
     ·exact ia .normal .normal hq rfl
     ·exact wpIn_ret (ia .ret .ret hq rfl)
     ·rename_i id;exact wpIn_exit (ia (.exit id) (.exit id) hq rfl)
     ·rename_i t;exact wpIn_goto (ia (.goto t) (.goto t) hq rfl)
     exact hq.elim
    cases st with
    | busy=>exact hk.elim
    | ready=>exact go sM hk
    | done=>exact go sM hk
    | exhausted=>exact go sM hk
   exact hk.elim
  exact h.elim
 | _=>intro C ro e0 σ0 w0 N ds n hC hM dv _ ks t0 _ Q e σ w a f hS hF hL hN bn hZ h;exact h.elim
end
end Go.PM
end

section
namespace Go.PM
abbrev Zt:=List PV->St->(PEnd->St->Prop)->Prop
structure PCalls (G:GE) (g:FuncId) (sp:Zt):Prop where
 enters:VX G.P g
 calls:∀args σ K,sp args σ K->∀(n:Nat) (e:Env) (w:World) (vs:Array Value),SRel G e σ w->ArgsRel G e σ w args vs->CallsIn (fw none) n G.P g vs w (X3 G e σ w K)
theorem Zn {P : Program} {f : FuncId} {fn : Func} {c : Code} (hf : P.funcs[f]? = some fn) (be : (fn.name == "runtime.NumGoroutine") = false) (hb : fn.body = some c) : VX P f := fun args w => by
 have h1 : fn.name ≠ "runtime.NumGoroutine" := by simpa using be
 simp [callFunc,hf,h1,hb]
section
variable {G:GE} {C:Cx} {e:Env} {σ:St} {w:World} {f:Frame} {n:Nat} {tm:Array Value}
def Zwx (tm:Array Value):ResultVar->Sem Value
 | .tmp t=>pure (tm.getD t Go.undef)
 | .cell a t=>do loadVar t (<- asAddr (tm.getD a Go.undef))
theorem ZfE {P:Program} {t:TypeId} {v u:Value} (hv:∃a,v=.pointer (some a)) (h:(Instr.loadAt t v).run P w=.ok u w):(do loadVar t (<- asAddr v):Sem Value).run P w=.ok u w:=by
 obtain ⟨a,rfl⟩:=hv;simpa [Instr.loadAt,Instr.sureAddr,asAddr] using h
theorem ZbA (hT:TabOK C.T G.P) (hS:SRel G e σ w) (hF:FRel G e σ w f tm):∀{l:List ResultVar} {K:List PV->Prop},pres C.T f σ.bx l K ->
  ∃pvs vs,K pvs/\(l.mapM (Zwx tm)).run G.P w=.ok vs w/\vs.length=pvs.length/\∀(i:Nat) (x:PV) (u:Value),pvs[i]?=some x->vs[i]?=some u->VRel G e σ w x u
 | [],K,h=>⟨[],[],h,rfl,rfl,fun i x u hx=>by simp at hx⟩
 | .tmp t::l,K,h=>by
  simp only [pres,YC] at h;obtain ⟨pvs,vs,hK,hr,hl,hv⟩:=ZbA hT hS hF h;refine ⟨f t::pvs,tm.getD t Go.undef::vs,hK,?_,by simp [hl],fun i x u hx hu=>?_⟩
  ·rw [List.mapM_cons];simp only [Zwx,Sem.run_bind,Sem.run_pure,Result.andThen,hr]
  cases i with
  | zero=>simp only [List.getElem?_cons_zero,Option.some.injEq] at hx hu;subst hx;subst hu;exact hF t
  | succ i=>exact hv i x u (by simpa using hx) (by simpa using hu)
 | .cell a t::l,K,h=>by
  simp only [pres] at h;have ac3:∃a',tm.getD a Go.undef=.pointer (some a'):=by
   have:=hF a;generalize tm.getD a Go.undef=v at this;generalize f a=x at this h
   cases this with
   | ptr b off _=>exact ⟨_,rfl⟩
   | elem r off b o u _ _ _=>exact ⟨_,rfl⟩
   | _=>exact h.elim
  obtain ⟨pv,u0,hk,ge,am⟩:=ZeK hT hS (hF a) h;rw [YC] at hk;obtain ⟨pvs,vs,hK,hr,hl,hv⟩:=ZbA hT hS hF hk;refine ⟨pv::pvs,u0::vs,hK,?_,by simp [hl],fun i x u hx hu=>?_⟩
  ·rw [List.mapM_cons];have:=ZfE ac3 am;simp only [Zwx];rw [Sem.run_bind,this];simp only [Sem.run_bind,Sem.run_pure,Result.andThen,hr]
  cases i with
  | zero=>simp only [List.getElem?_cons_zero,Option.some.injEq] at hx hu;subst hx;subst hu;exact ge
  | succ i=>exact hv i x u (by simpa using hx) (by simpa using hu)
theorem WV (hT:TabOK C.T G.P) (hS:SRel G e σ w) (hF:FRel G e σ w f tm) {fn:Func} {K:List PV->Prop} (h:pres C.T f σ.bx fn.results.toList K) :
  ∃pvs v,K pvs/\(results fn tm).run G.P w=.ok v w/\VRel G e σ w (J2 pvs) v:=by
 obtain ⟨pvs,vs,hK,hr,hl,hv⟩:=ZbA hT hS hF h;have kq:(results fn tm).run G.P w=.ok (if h:vs.toArray.size=1 then vs.toArray[0] else .tuple vs.toArray) w:=by
  have ac4:results fn tm=(do let vs <- fn.results.mapM (Zwx tm);pure (if h:vs.size=1 then vs[0] else .tuple vs)):=by
   unfold results
   congr 1
  have h1:fn.results.mapM (Zwx tm)=List.toArray <$> fn.results.toList.mapM (Zwx tm):=by
   conv=>lhs;rw [show fn.results=fn.results.toList.toArray from sM]
   exact List.mapM_toArray
  rw [ac4,h1,Sem.run_bind,Sem.run_map,hr];rfl
 refine ⟨pvs,_,hK,kq,?_⟩
 match pvs,vs,hl,hv with
 | [],[],_,hv=>exact .tuple [] #[] rfl (fun i x u hx=>by simp at hx)
 | [x],[u],_,hv=>exact hv 0 x u rfl rfl
 | x::y::l,u::v::m,hl,hv =>
  have:¬((u::v::m).toArray.size=1):=sM;rw [dif_neg this];exact .tuple _ _ (by simpa using hl) (fun i a b ha hb=>hv i a b ha (by simpa using hb))
theorem Va {e0:Env} {σ0:St} {w0:World} {keep:Nat} {own:Bool} {pv:PV} {v:Value} {K:PV->St->Prop} (hS:SRel G e σ w) (hL:Later e0 σ0 w0 e σ w) (hk:σ0.bx.length<=keep) (hv:VRel G e σ w pv v)
  {ag:Bool} (h:ZeG ag keep own pv σ K):∃pv' σ' e',K pv' σ'/\VRel G e' σ' w pv' v/\SRel G e' σ' w/\Later e0 σ0 w0 e' σ' w:=by
 unfold ZeG at h
 split at h
 ·rename_i hb
  cases own with
  | true =>
   simp only at h;obtain ⟨vs',σ',e',hK,ey,hd,ab,fg⟩:=Zc8 hS h
   match vs',ab,hK with
   | [y],_,hK=>exact ⟨y,σ',e',hK,fg 0 pv y v rfl rfl hv,ey,hL.drop hd hk⟩
  | false =>
  simp only at h;obtain ⟨bs,tk',as',hK,hx,hI,cu,hn,l7⟩:=Zaa (as:=[]) (NInv.start σ.tk [] (fun t ht=>by cases ht)) h;exact ⟨clean pv,_,e.re as',hK,(NV.cl pv hb).rel hn hI cu hv,ZfA hS hn hI cu l7,hL.drop (Zc7 hn hI cu) hk⟩
 exact h.elim
theorem ZaO {vs:Array Value}:∀(args:List PV) (i:Nat),(∀(k:Nat) (x:PV),args[k]?=some x->VRel G e σ w x (vs.getD (i+k) Go.undef))->FRel G e σ w (ZeH i args) vs
 | [],i,_=>fun j=>.undef _
 | a::args,i,h=>by
  intro j
  simp only [ZeH]
  by_cases km:i=j
  ·subst km;rw [YY];exact h 0 a sM
  rw [X1 _ _ km];exact ZaO args (i+1) (fun k x hx=>by have:=h (k+1) x (by simpa using hx);rwa [show i+(k+1)=i+1+k by omega] at this) j
theorem VRel.world {w':World} (hc:∀b off u,w.cell? ⟨b,off,none⟩=some u->w'.cell? ⟨b,off,none⟩=some u) (hb:∀(b:Nat) (cs:Array Value) (ty:TypeId) (fz:Nat×Nat),w.heap[b]?=some (Obj.cells cs ty fz)->w'.heap[b]?=some (Obj.cells cs ty fz)) {x:PV} {v:Value} (h:VRel G e σ w x v):VRel G e σ w' x v:=by
 have hd:∀{x:D} {v:Value},DRel (okc e σ) w x v->DRel (okc e σ) w' x v:=fun hd=>hd.mono fun b off u hu ho=>⟨ho,hc b off u hu⟩
 induction h with
 | d x v h=>exact .d _ _ (hd h)
 | undef v=>exact .undef _
 | ptr b off h=>exact .ptr b off h
 | asl b off n h=>exact .asl b off n h
 | elem r off b o u yv ho hu=>exact .elem r off b o u (fun j hj=>hc _ _ _ (yv j hj)) ho (fun j x hx=>hd (hu j x hx))
 | sl t el rows v hn ml ht =>
  refine .sl t el rows v hn (hd ml) fun h=>?_
  rcases ht h with h1 | ⟨sz,g1,g2,g3,b,off,cap,cs,ty,fz,g4,g5,g6,g7,g8⟩
  ·exact .inl h1
  exact .inr ⟨sz,g1,g2,g3,b,off,cap,cs,ty,fz,g4,g5,g6,hb _ _ _ _ g7,g8⟩
 | nils el=>exact .nils el
 | func f a c va vc ha yv _ _ ih1 ih2=>exact .func f a c va vc ha yv ih1 ih2
 | iface t x v _ ih=>exact .iface t x v ih
 | agg cs vs hs _ h1 ih=>exact .agg cs vs hs ih h1
 | tuple cs vs hs _ ih=>exact .tuple cs vs hs ih
 | raw v=>exact .raw v
theorem ZqC {r:Nat} (hS:SRel G e σ w) (hr:w.heap[r]?=some (.deferred (some []))) (hb:∀i,i<σ.bx.length->e.β i≠r) (hg:G.nG<=r) :
  SRel G e σ (w.putObj r (.deferred none))/\(∀x v,VRel G e σ w x v->VRel G e σ (w.putObj r (.deferred none)) x v)/\∀(e0:Env) (σ0:St) (w0:World),Later e0 σ0 w0 e σ w->w0.heap.size<=r->Later e0 σ0 w0 e σ (w.putObj r (.deferred none)):=by
 have f7:∀k,k≠r->(w.putObj r (.deferred none)).heap[k]?=w.heap[k]?:=fun k hk=>World.putObj_heap_other hk
 have ba:∀b off u,w.cell? ⟨b,off,none⟩=some u->b≠r:=fun b off u hu he=>by
  subst he;simp [World.cell?,hr] at hu
 have hc:∀b off u,w.cell? ⟨b,off,none⟩=some u->(w.putObj r (.deferred none)).cell? ⟨b,off,none⟩=some u:=fun b off u hu=>by
  have:=ba b off u hu;simpa [World.cell?,f7 b this] using hu
 have qn:∀(b:Nat) (cs:Array Value) (ty:TypeId) (fz:Nat×Nat),w.heap[b]?=some (Obj.cells cs ty fz)->(w.putObj r (.deferred none)).heap[b]?=some (Obj.cells cs ty fz):=fun b cs ty fz h=>by
  have:b≠r:=fun he=>by subst he;rw [hr] at h;cases h
  rw [f7 b this];exact h
 have hV:∀x v,VRel G e σ w x v->VRel G e σ (w.putObj r (.deferred none)) x v:=fun x v h=>h.world hc qn
 refine ⟨?_,hV,fun e0 σ0 w0 hL ge=>?_⟩
 ·exact {
   inj:=hS.inj
   box:=fun i x hx=>by
    have hi:=(Tj.1 hx).1;have hB:=hS.box i x hx;have cz:=f7 (e.β i) (hb i hi)
    cases x with
    | cells t cs =>
     obtain ⟨vs,g1,g2,g3⟩:=hB;exact ⟨vs,cz.trans g1,g2,fun k y u hy hu=>⟨hV _ _ (g3 k y u hy hu).1,(g3 k y u hy hu).2⟩⟩
    | iter s p=>exact cz.trans hB
    | loop st pd r=>exact cz.trans hB
   low:=hS.low
   tkn:=hS.tkn
   own:=fun t ht p hp=>by
    obtain ⟨q1,q2,cs,ty,fz,q3⟩:=hS.own t ht p hp;exact ⟨q1,q2,cs,ty,fz,qn _ _ _ _ q3⟩
   dis:=hS.dis
   xlt:=fun b off hx=>by rw [World.putObj_size];exact hS.xlt b off hx
   xown:=hS.xown
   glob:=fun b hbg=>(f7 b oM).trans (hS.glob b hbg)
   big:=by rw [World.putObj_size];exact hS.big }
 exact {
  len:=hL.len
  beta:=hL.beta
  X:=hL.X
  pres:=fun b off u hu ho=>let ⟨h1,h2⟩:=hL.pres b off u hu ho;⟨h1,hc b off u h2⟩
  blocks:=fun b ah hn ht=>(f7 b oM).trans (hL.blocks b ah hn ht)
  size:=by rw [World.putObj_size];exact hL.size
  os:=hL.os
  tape:=hL.tape
  output:=hL.output
  fresh:=hL.fresh
  ftok:=hL.ftok }
theorem UX {fn:Func} {R:Ending->World->Prop} {u:FrameMode} {e0:Env} {σ0:St} {w0:World} (hu:u≠.run):∀(rs:List Nat) {w:World},rs.Nodup->(∀r,r∈rs->w0.heap.size<=r/\w.heap[r]?=some (.deferred (some []))/\∀i,i<σ.bx.length->e.β i≠r) ->
  G.nG<=w0.heap.size->SRel G e σ w->FRel G e σ w f tm->Later e0 σ0 w0 e σ w->(∀pv v,VRel G e σ w pv v->∀w',SRel G e σ w'->FRel G e σ w' f tm->Later e0 σ0 w0 e σ w'->VRel G e σ w' pv v->True) ->
  (∀w',(∀x v,VRel G e σ w x v->VRel G e σ w' x v)->SRel G e σ w'->FRel G e σ w' f tm->Later e0 σ0 w0 e σ w'->LeavesIn (fw none) n G.P fn tm R [] u w')->LeavesInM (fw none) n G.P fn tm R (rs.map ZaE) u w
 | [],w,_,_,_,hS,hF,hL,_,ct=>by
  simp only [TQ,LeavesInM];exact ct w (fun _ _ h=>h) hS hF hL
 | r::rs,w,ju,o4,hG,hS,hF,hL,_,ct=>by
  obtain ⟨h1,h2,h3⟩:=o4 r sM;obtain ⟨ey,hV,la⟩:=ZqC hS h2 h3 (TW hG h1);simp only [TN,LeavesInM];refine ⟨hu,.inl ⟨r,_,rfl,run_takeDeferred h2,?_⟩⟩;refine UX hu rs (List.nodup_cons.1 ju).2 (fun q hq=>?_) hG ey (fun i=>hV _ _ (hF i)) (la _ _ _ hL h1) (fun _ _ _ _ _ _ _ _=>trivial) (fun w' hV'=>ct w' fun x v h=>hV' x v (hV x v h));obtain ⟨g1,g2,g3⟩:=o4 q (Tx _ hq);have an:q≠r:=fun e=>(List.nodup_cons.1 ju).1 (e ▸ hq)
  exact ⟨g1,(World.putObj_heap_other an).trans g2,g3⟩
theorem Zdg (ca:G.P.follows .mixedOrders=true) {g:FuncId} {fn:Func} {c:Code} (hC:CxOK G C none e σ w) (hM:CxMono C.calm) (hf:G.P.funcs[g]?=some fn) (hb:fn.body=some c) (aw:ZR fn.ntmps c=true)
  {args:List PV} {Q:PQ} {K:PEnd->St->Prop} (ab:args.length<=fn.ntmps) (h:W C c Q (ZeH 0 args) σ)
  (hQ:∀(pe:PExit) (f:Frame) (σ':St),Q pe f σ'->match pe with
   | .normal | .ret=>pres C.T f σ'.bx fn.results.toList fun vs=>∀(e':Env) (w':World) (v:Value),SRel G e' σ' w'->VRel G e' σ' w' (J2 vs) v->Later e σ w e' σ' w'->X3 G e σ w K (.returned v) w'
   | .panic p=>∀(e':Env) (w':World) (v:Value),SRel G e' σ' w'->VRel G e' σ' w' p v->Later e σ w e' σ' w'->X3 G e σ w K (.panicked [{ v:=v,recovered:=false }]) w'
   | _=>False)
  {vs:Array Value} (hS:SRel G e σ w) (aq:ArgsRel G e σ w args vs):CallsIn (fw none) n G.P g vs w (X3 G e σ w K):=by
 have hsz:vs.size=args.length:=aq.1;have hF:FRel G e σ w (ZeH 0 args) (vs++Array.replicate (fn.ntmps - vs.size) undef):=ZaO args 0 fun k x hx=>by
  exact m43
 have hw:=Zdf (n:=n) (ro:=none) (ds:=(w.heap.size,[],false)) ca c hC hM (fun h=>by cases h) aw [] #[] (XN c) _ (a:={ tmps:=vs++Array.replicate (fn.ntmps - vs.size) undef,defers:=[] }) hS hF (Later.refl e σ w) sO (Marks.nil e σ (Tr _)) (fun i hi=>by cases hi) h;refine callsIn_of_wp_marks hf hb trivial (wpIn_mono hw fun x a' w' hp=>?_);obtain ⟨pe,f',e',σ',hq,hx,h1,h2,h3,h4,⟨_,rs,h5,_,h5n,h5r⟩,h6⟩:=hp;have h5:a'.defers=rs.map ZaE:=by rw [h5];exact TT _
 have l8:=hQ pe f' σ' hq;have o4:∀r,r∈rs->w.heap.size<=r/\w'.heap[r]?=some (.deferred (some []))/\∀i,i<σ'.bx.length->e'.β i≠r:=fun r hr=>let ⟨g1,g2,g3,_⟩:=h5r r hr;⟨g1,g2,g3⟩
 have ends:∀(l8:pres C.T f' σ'.bx fn.results.toList fun vs=>∀(e':Env) (w':World) (v:Value),SRel G e' σ' w'->VRel G e' σ' w' (J2 vs) v->Later e σ w e' σ' w'->X3 G e σ w K (.returned v) w'),LeavesInM (fw none) n G.P fn a'.tmps (X3 G e σ w K) a'.defers .returning w':=fun l8=>by
  rw [h5];refine UX sM rs h5n o4 hS.big h1 h2 h3 (fun _ _ _ _ _ _ _ _=>trivial) fun w2 _ k1 k2 k3=>?_
  obtain ⟨pvs,v,hl,hr,hv⟩:=WV hC.tab k1 k2 l8;exact ⟨v,hr,hl e' w2 v k1 hv k3⟩
 cases pe with
 | normal=>obtain rfl:x=.normal:=hx;exact ends l8
 | ret=>obtain rfl:x=.ret:=hx;exact ends l8
 | panic p =>
  obtain ⟨v,rfl,hv⟩:=hx;show LeavesInM (fw none) n G.P fn a'.tmps (X3 G e σ w K) a'.defers (.panicking _) w';rw [h5];refine UX sM rs h5n o4 hS.big h1 h2 h3 (fun _ _ _ _ _ _ _ _=>trivial) fun w2 hV k1 k2 k3=>?_
  exact l8 e' w2 v k1 (hV _ _ hv) k3
 | exit id=>exact l8.elim
 | goto l=>exact l8.elim
theorem Zcg (ca:G.P.follows .mixedOrders=true) {g:FuncId} {fn:Func} {c:Code} (hC:CxOK G C none e σ w) (hM:CxMono C.calm) (hf:G.P.funcs[g]?=some fn) (hb:fn.body=some c) (aw:ZR fn.ntmps c=true)
  {ag:Bool} {keep:Nat} {own:Bool} {args:List PV} {R:PEnd->St->Prop} (hk:σ.bx.length<=keep) (ab:args.length<=fn.ntmps) (h:WFG ag C fn keep own args σ R) {vs:Array Value} (hS:SRel G e σ w) (aq:ArgsRel G e σ w args vs) :
  CallsIn (fw none) n G.P g vs w (X3 G e σ w R):=by
 have lr:Wm fn=c:=by simp [Wm,hb]
 unfold WFG at h
 rw [lr] at h;have presM:∀{T:Tab} {f:Frame} {bx:List Box} {l:List ResultVar} {K K':List PV->Prop},(∀vs,K vs->K' vs)->pres T f bx l K->pres T f bx l K':=by
  intro T f bx l
  induction l with
  | nil=>exact fun hK h=>hK _ h
  | cons r l ih =>
  intro K K' hK h
  exact m99
 refine Zdg ca hC hM hf hb aw ab h (fun pe f' σ' hq=>?_) hS aq;have fin:∀{pv:PV} {p:PV->PEnd} {en:Value->Ending},(∀(pv:PV) (e:Env) (σ:St) (w:World) v,VRel G e σ w pv v->ZmH G e σ w (p pv) (en v))->(ZeG ag keep own pv σ' fun v σ''=>R (p v) σ'')->∀(e':Env) (w':World) (v:Value),SRel G e' σ' w'->VRel G e' σ' w' pv v->Later e σ w e' σ' w'->X3 G e σ w R (en v) w':=fun {pv p en} hpe hl e' w' v ey hv hL=>by
  obtain ⟨pv',σ'',e'',hK,hv',ac5,ac6⟩:=Va ey hL hk hv hl;exact ⟨p pv',σ'',e'',hK,hpe _ _ _ _ _ hv',ac5,ac6⟩
 cases pe with
 | normal=>exact presM (fun vs hl=>fin (p:=.ret) (en:=.returned) (fun _ _ _ _ v h=>⟨v,rfl,h⟩) hl) hq
 | ret=>exact presM (fun vs hl=>fin (p:=.ret) (en:=.returned) (fun _ _ _ _ v h=>⟨v,rfl,h⟩) hl) hq
 | panic p=>exact fin (p:=.panic) (en:=fun v=>.panicked [{ v:=v,recovered:=false }]) (fun _ _ _ _ v h=>⟨v,rfl,h⟩) hq
 | exit id=>exact hq.elim
 | goto l=>exact hq.elim
end
end Go.PM
end
