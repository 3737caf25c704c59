/- A part of the proof: plain logic, contracts and laws over the given program. -/
import Derived.Test.YtflgockgjnddnaaGreatDoorV02
set_option linter.unusedVariables false
set_option linter.unusedSimpArgs false
set_option linter.all false
set_option maxRecDepth 100000
set_option maxHeartbeats 16000000
section
namespace Go.PM
def Zg8 (n i:Nat):List Edge→Bool
 | []=>true
 | e::l=>(match Region.binds .any e with | true=>Nat.ble (e.on+1) n && !(Nat.beq e.on i) | false=>true) && Zg8 n i l
def ZdX (j:Nat):List Edge→Bool
 | []=>true
 | e::l=>(match Region.binds .any e with | true=>!(Nat.beq e.on j) | false=>true) && ZdX j l
def ZlO (all:List Oper) (ms:List Nat) (i:Nat) (o:Oper):List (Nat×Oper)→Bool
 | []=>true
 | (j,p)::l=>!(Nat.beq i j) && ZdX j o.after.toList && (anc ms i j || (!(X7 o.op) && Zdj all o p)) && ZlO all ms i o l
def ZiA (all:List Oper) (ms:List Nat) (n:Nat):List (Nat×Oper)→Bool
 | []=>true
 | (i,o)::l=>ZlO all ms i o l && Zg8 n i o.after.toList && ZiA all ms n l
def ZiB (cs:List (Nat×Oper)):Nat→Bool
 | 0=>true
 | n+1=>cs.any (fun p=>Nat.beq p.1 n) && ZiB cs n
def ZcD (ms:List Nat):List (Nat×Oper)→Bool
 | []=>true
 | (i,o)::l=>Nat.beq (ms.getD i 0) (ZaO ms o.after.toList 0) && ZcD ms l
def Zo4 (ops:List Oper):Bool :=
 let ms:=Us ops []
 let cs:=Zir ops
 Nat.beq cs.length ops.length && ZiA ops ms ops.length cs && ZiB cs ops.length && ZcD ms cs
theorem Zdk {n i:Nat}:∀{l:List Edge},Zg8 n i l=true→∀e∈l,Region.binds .any e=true→e.on<n∧e.on≠i
 | [],_,e,he,_=>by cases he
 | x::l,h,e,he,hb=>by
  simp only [Zg8,Tj] at h
  rcases Tv.1 he with rfl | he
  ·have h1:=h.1
   rw [hb] at h1
   simp only [Tj,Nat.ble_eq,TZ] at h1
   exact ⟨h1.1,fun e=>by rw [e] at h1;simp at h1⟩
  ·exact Zdk h.2 e he hb
theorem ZbQ {j:Nat}:∀{l:List Edge},ZdX j l=true→∀e∈l,Region.binds .any e=true→e.on≠j
 | [],_,e,he,_=>by cases he
 | x::l,h,e,he,hb=>by
  simp only [ZdX,Tj] at h
  rcases Tv.1 he with rfl | he
  ·have h1:=h.1
   rw [hb] at h1
   simp only [TZ] at h1
   exact fun e=>by rw [e] at h1;simp at h1
  ·exact ZbQ h.2 e he hb
def ZrW (all:List Oper) (ms:List Nat) (x y:Nat×Oper):Prop :=
 x.1≠y.1∧(∀e∈x.2.after.toList,Region.binds .any e=true→e.on≠y.1)∧(anc ms x.1 y.1=true∨(X7 x.2.op=false∧Zdj all x.2 y.2=true))
theorem Zen {all:List Oper} {ms:List Nat} {i:Nat} {o:Oper}:∀{l:List (Nat×Oper)},ZlO all ms i o l=true→∀p∈l,ZrW all ms (i,o) p
 | [],_,p,hp=>by cases hp
 | (j,x)::l,h,p,hp=>by
  simp only [ZlO,Tj,Sn,TZ] at h
  rcases Tv.1 hp with rfl | hp
  ·exact ⟨fun (e:i=j)=>by have:=h.1.1.1;rw [e] at this;simp at this,ZbQ h.1.1.2,h.1.2⟩
  ·exact Zen h.2 p hp
theorem VB {all:List Oper} {ms:List Nat} {n:Nat}:∀{l:List (Nat×Oper)},ZiA all ms n l=true→l.Pairwise (ZrW all ms)∧∀p∈l,∀e∈p.2.after.toList,Region.binds .any e=true→e.on<n∧e.on≠p.1
 | [],_=>⟨List.Pairwise.nil,fun p hp=>by cases hp⟩
 | (i,o)::l,h=>by
  simp only [ZiA,Tj] at h
  obtain ⟨h1,h2⟩:=VB h.2
  refine ⟨List.Pairwise.cons (Zen h.1.1) h1,fun p hp=>?_⟩
  rcases Tv.1 hp with rfl | hp
  ·exact Zdk h.1.2
  ·exact h2 p hp
theorem Zbe {cs:List (Nat×Oper)}:∀{n:Nat},ZiB cs n=true→∀k,k<n→∃p∈cs,p.1=k
 | 0,_,k,hk=>by omega
 | n+1,h,k,hk=>by
  simp only [ZiB,Tj,Sz] at h
  by_cases hkn:k=n
  ·obtain ⟨p,hp,hb⟩:=h.1;exact ⟨p,hp,by rw [hkn];exact Tn hb⟩
  ·exact Zbe h.2 k (by omega)
theorem V4 {ms:List Nat}:∀{l:List (Nat×Oper)},ZcD ms l=true→∀p∈l,ms.getD p.1 0=ZaO ms p.2.after.toList 0
 | [],_,p,hp=>by cases hp
 | (i,o)::l,h,p,hp=>by
  simp only [ZcD,Tj] at h
  rcases Tv.1 hp with rfl | hp
  ·exact Tn h.1
  ·exact V4 h.2 p hp
theorem UA {ms:List Nat} {x:Nat}:∀{l:List Edge} {s:Nat},(ZaO ms l s).testBit x=true→s.testBit x=true∨∃e∈l,Region.binds .any e=true∧(e.on=x∨anc ms x e.on=true)
 | [],s,h=>.inl h
 | e::l,s,h=>by
  unfold ZaO at h
  cases hb:Region.binds .any e with
  | true =>
   rw [hb] at h
   rcases UA h with h1 | ⟨e',he',h1⟩
   ·rw [Nat.testBit_or,Nat.testBit_or,Sn,Sn] at h1
    rcases h1 with (h1 | h1) | h1
    ·exact .inl h1
    ·rw [Nat.testBit_two_pow] at h1
     exact .inr ⟨e,by simp,hb,.inl (by simpa using h1)⟩
    ·exact .inr ⟨e,by simp,hb,.inr h1⟩
   ·exact .inr ⟨e',Tp _ he',h1⟩
  | false =>
   rw [hb] at h
   rcases UA h with h1 | ⟨e',he',h1⟩
   ·exact .inl h1
   ·exact .inr ⟨e',Tp _ he',h1⟩
theorem ZiC {left:List (Nat×Oper)}:∀{l:List (Nat×Oper)} {p:Nat×Oper},Zg1 left l=some p→p∈l
 | [],p,h=>by cases h
 | (i,o)::l,p,h=>by
  unfold Zg1 at h
  split at h
  ·cases h;simp
  ·exact Tp _ (ZiC h)
theorem YW {i:Nat}:∀{l:List (Nat×Oper)} {p:Nat×Oper},p∈YP i l→p∈l
 | [],p,h=>by cases h
 | (j,o)::l,p,h=>by
  unfold YP at h
  split at h
  ·exact Tp _ h
  ·rcases Tv.1 h with rfl | h
   ·simp
   ·exact Tp _ (YW h)
theorem Zar:∀{n:Nat} {l:List (Nat×Oper)} {p:Nat×Oper},p∈Jw n l→p∈l
 | 0,l,p,h=>h
 | n+1,[],p,h=>by cases h
 | n+1,x::l,p,h=>by
  unfold Jw at h
  split at h
  ·rename_i i o hp
   rcases Tv.1 h with rfl | h
   ·exact ZiC hp
   ·exact YW (Zar h)
  ·rcases Tv.1 h with rfl | h
   ·simp
   ·exact Tp _ (Zar h)
theorem WO:∀{l:List Oper} {i:Nat} {p:Nat×Oper},p∈ZS i l→i≤p.1∧l[p.1 - i]?=some p.2
 | [],i,p,h=>by cases h
 | o::l,i,p,h=>by
  unfold ZS at h
  rcases Tv.1 h with rfl | h
  ·simp
  ·obtain ⟨h1,h2⟩:=WO h
   refine ⟨by omega,?_⟩
   rw [show p.1 - i=(p.1 - (i+1))+1 by omega]
   simpa using h2
theorem Zo5 {ops:List Oper} {p:Nat×Oper} (h:p∈Zir ops):ops[p.1]?=some p.2:=by
 have:=WO (Zar h)
 simpa using this.2
section
variable {G:GE} {C:Cx} {e0 e:Env} {σ0 σ:St} {w0 w:World} {a:Act} {f:Frame} {Q:PQ} {ro:Option Nat} {n:Nat} {ds:Nat×List Deferred×Bool} {N:Nat} {Z:Array Value→Prop}
theorem ZiD (hC:CxOK G C ro e0 σ0 w0) (hM:CxMono C) {ops:Array Oper} (hd:∀o,o∈ops→∀d,o.dst=some d→d<N∧∀t v,Z t→Z (t.setIfInBounds d v)) {ms:List Nat} (hms:∀i o,ops[i]?=some o→ms.getD i 0=ZaO ms o.after.toList 0) :
  ∀(k:Nat) (l:List (Nat×Oper)),l.length=k→(∀p∈l,ops[p.1]?=some p.2)→l.Pairwise (ZrW ops.toList ms)→(∀p∈l,∀e∈p.2.after.toList,Region.binds .any e=true→e.on<ops.size∧e.on≠p.1) →
  ∀{listed:Array Bool},listed.size=ops.size→(∀k,k<ops.size→(listed.getD k false=true↔∀p∈l,p.1≠k))→(∀j,(∀p∈l,p.1≠j)→∀p∈l,anc ms p.1 j=false) →
  ∀{ctx:List Ld} {e:Env} {σ:St} {w:World} {a:Act} {f:Frame},SRel G e σ w→FRel G e σ w f a.tmps→Later e0 σ0 w0 e σ w→a.tmps.size=N→Marks ds e σ w a.defers→Z a.tmps→Uu C ops.toList ms Q l ctx f σ →
  wpAnyIn (fw ro) n G.P .any ops (Z9 G e0 σ0 w0 ds N Z Q) k listed a w
 | 0,l,hl,hget,hp,hed,listed,hsz,hli,hdown,ctx,e,σ,w,a,f,hS,hF,hL,hN,hds,hZ,h=>by
  have hl0:l=[]:=SD.1 hl
  exact m53
 | k+1,l,hl,hget,hp,hed,listed,hsz,hli,hdown,ctx,e,σ,w,a,f,hS,hF,hL,hN,hds,hZ,h=>by
  have hgd:∀i b,i<ops.size→listed.getD i b=listed.getD i false:=fun i b hi=>by
   exact m78
  refine ⟨fun hr=>?_,fun i hi=>?_⟩
  ·cases l with
   | nil=>simp at hl
   | cons x l =>
    exfalso
    have hx:=hget x (by simp)
    have hlt:=(Tq.1 hx).1
    have:x.1∈Region.ready .any ops listed:=by
     refine mem_ready.2 ⟨?_,x.2,hx,fun ed hed' hb=>?_⟩
     ·rw [hgd _ _ hlt]
      cases hv:listed.getD x.1 false with
      | false=>rfl
      | true=>exact absurd rfl ((hli x.1 hlt).1 hv x (by simp))
     ·have h1:=hed x (by simp) ed (TO.1 hed') hb
      refine (hli ed.on h1.1).2 fun p hp'=>?_
      exact m119
    rw [hr] at this;cases this
  ·obtain ⟨h1,o,ho,hall⟩:=mem_ready.1 hi
   have hlt:=(Tq.1 ho).1
   rw [hgd _ _ hlt] at h1
   have hmem:∃p∈l,p.1=i:=by
    exact m129
   obtain ⟨p,hpl,rfl⟩:=hmem
   have hpo:p.2=o:=by have:=hget p hpl;rw [ho] at this;exact (Option.some.inj this).symm
   obtain ⟨pre,post,rfl⟩:=List.append_of_mem hpl
   obtain ⟨i,o'⟩:=p
   dsimp only at hpo ho hlt h1 hi
   subst hpo
   have hpw:=List.pairwise_append.1 hp
   have hpost:=(List.pairwise_cons.1 hpw.2.1)
   have hnotanc:∀x∈pre++(i,o')::post,anc ms x.1 i=false:=fun x hx=>by
    cases hax:anc ms x.1 i with
    | false=>rfl
    | true =>
     exfalso
     unfold anc at hax
     rw [hms i o' ho] at hax
     rcases UA hax with h2 | ⟨ed,hed',hb,h2⟩
     ·simp at h2
     ·have hlst:=hall ed (TO.2 hed') hb
      have hne:=(hli ed.on (hed _ hpl ed hed' hb).1).1 hlst
      rcases h2 with h2 | h2
      ·exact hne x hx h2.symm
      ·rw [hdown ed.on hne x hx] at h2;cases h2
   have hfront:=Zkm hM pre (fun x hx=>by
    have hA:=hpw.2.2 x hx (i,o') (by simp)
    have hna:=hnotanc x (by simp [hx])
    rcases hA.2.2 with h2 | h2
    ·rw [hna] at h2;cases h2
    ·exact ⟨h2.1,h2.2,hna⟩) ctx f σ h
   have hstep:=Jb (ro:=ro) (n:=n) hC hS hF hL hN hds hZ (ops:=ops) (hd o' (Sg ho)) hfront
   have hne':∀x∈pre++post,x.1≠i:=fun x hx=>by
    exact m140
   have hsub:∀x,x∈pre++post→x∈pre++(i,o')::post:=fun x hx=>by
    rcases TX.1 hx with hx | hx <;> simp [hx]
   have next:∀a' w',KRel G e0 σ0 w0 ds N Z (fun f' σ'=>∃c,Uu C ops.toList ms Q (pre++post) c f' σ') a' w'→wpAnyIn (fw ro) n G.P .any ops (Z9 G e0 σ0 w0 ds N Z Q) k (listed.setIfInBounds i true) a' w':=fun a' w' ⟨f',e',σ',⟨c,hk1⟩,h2,h3,h4,h5,h6,h7⟩=>by
    refine ZiD hC hM hd hms k (pre++post) (by simp at hl ⊢;omega) (fun x hx=>hget x (hsub x hx)) (List.pairwise_append.2 ⟨hpw.1,hpost.2,fun x hx y hy=>hpw.2.2 x hx y (Tp _ hy)⟩)
     (fun x hx=>hed x (hsub x hx)) (by simpa using hsz) (fun k hk=>?_) (fun j hj x hx=>?_) h2 h3 h4 h5 h6 h7 hk1
    ·by_cases hki:k=i
     ·subst hki
      have hlt':k<listed.size:=by rw [hsz];exact hlt
      have:(listed.setIfInBounds k true).getD k false=true:=by simp [Array.getD,hlt']
      simp only [this,true_iff]
      exact hne'
     ·have:(listed.setIfInBounds i true).getD k false=listed.getD k false:=getD_set_ne false (Ne.symm hki)
      rw [this,hli k hk]
      constructor
      ·exact fun hh x hx=>hh x (hsub x hx)
      ·intro hh x hx
       rcases TX.1 hx with hx | hx
       ·exact hh x (by simp [hx])
       ·rcases Tv.1 hx with rfl | hx
        ·exact fun e=>hki e.symm
        ·exact hh x (by simp [hx])
    ·by_cases hji:j=i
     ·subst hji;exact hnotanc x (hsub x hx)
     ·refine hdown j (fun y hy=>?_) x (hsub x hx)
      exact m115
   have hK:∀a' w',KRel G e0 σ0 w0 ds N Z (fun f' σ'=>match X7 o'.op with | true=>ZrS ms i σ.bx σ'.bx ctx (Uu C ops.toList ms Q (pre++post) ctx f' σ') | false=>Uu C ops.toList ms Q (pre++post) (U7 C.T o' i f ctx) f' σ') a' w' →
     KRel G e0 σ0 w0 ds N Z (fun f' σ'=>∃c,Uu C ops.toList ms Q (pre++post) c f' σ') a' w':=fun a' w' ⟨f',e',σ',hk,hrest⟩=>by
    refine ⟨f',e',σ',?_,hrest⟩
    cases hE:X7 o'.op with
    | true=>rw [hE] at hk;exact ⟨_,(chkL_iff.1 hk).2⟩
    | false=>rw [hE] at hk;exact ⟨_,hk⟩
   exact m79
theorem Znd (hC:CxOK G C ro e0 σ0 w0) (hM:CxMono C) {ops:Array Oper} (hd:∀o,o∈ops→∀d,o.dst=some d→d<N∧∀t v,Z t→Z (t.setIfInBounds d v)) (hok:Zo4 ops.toList=true)
  (hS:SRel G e σ w) (hF:FRel G e σ w f a.tmps) (hL:Later e0 σ0 w0 e σ w) (hN:a.tmps.size=N) (hds:Marks ds e σ w a.defers) (hZ:Z a.tmps) (h:Uu C ops.toList (Us ops.toList []) Q (Zir ops.toList) [] f σ) :
  wpAnyIn (fw ro) n G.P .any ops (Z9 G e0 σ0 w0 ds N Z Q) ops.size (Array.replicate ops.size false) a w:=by
 simp only [Zo4,Tj] at hok
 obtain ⟨⟨⟨h1,h2⟩,h3⟩,h4⟩:=hok
 have hlen:(Zir ops.toList).length=ops.size:=by simpa using Tn h1
 have hcov:∀k,k<ops.size→∃p∈Zir ops.toList,p.1=k:=fun k hk=>Zbe h3 k (by simpa using hk)
 have hget:∀p∈Zir ops.toList,ops[p.1]?=some p.2:=fun p hp=>by have:=Zo5 hp;simpa using this
 refine ZiD hC hM hd (ms:=Us ops.toList []) (fun i o ho=>?_) _ (Zir ops.toList) hlen hget (VB h2).1 (fun p hp e he hb=>by have:=(VB h2).2 p hp e he hb;simpa using this) (by simp) (fun k hk=>?_) (fun j hj p hp=>?_) hS hF hL hN hds hZ h
 ·obtain ⟨p,hp,rfl⟩:=hcov i (Tq.1 ho).1
  have:=hget p hp
  rw [ho] at this
  cases this
  exact V4 h4 p hp
 ·exact m101
 ·by_cases hj':j<ops.size
  ·obtain ⟨q,hq,he⟩:=hcov j hj'
   exact absurd he (hj q hq)
  ·exact m62
end
end Go.PM
end

section
namespace Go.PM
section
variable {G:GE} {e e':Env} {σ σ':St} {w w':World}
inductive NV (n:Nat) (as:List (Option Nat)):PV→PV→Prop
 | sl (t e:Nat) (rows:List (List D)) (j:Nat) (h:as[j]?=some (some t)):NV n as (.sl t e rows) (.sl j e rows)
 | nils (e j:Nat) (h:as[j]?=some none):NV n as (.nils e) (.sl j e [])
 | cl (v:PV) (h:bnd n v=true):NV n as v (clean v)
 | un (v:PV):NV n as v .undef
 | clN (v:PV) (h:bnd n v=true):NV n as v (cleanN v)
structure NInv (S tk:List Nat) (as:List (Option Nat)):Prop where
 sub:∀t,t∈tk→t∈S
 mem:∀(i t:Nat),as[i]?=some (some t)→t∈S∧t∉tk
 inj:∀(i j t:Nat),as[i]?=some (some t)→as[j]?=some (some t)→i=j
theorem NV.ext {n:Nat} {as as':List (Option Nat)} {x y:PV} (h:NV n as x y) (hx:∃m,as'=as++m):NV n as' x y:=by
 obtain ⟨m,rfl⟩:=hx
 have:∀(j:Nat) (q:Option Nat),as[j]?=some q→(as++m)[j]?=some q:=fun j q hq=>by
  rw [TP (Ti.1 hq).1];exact hq
 cases h with
 | sl t e rows j h=>exact .sl t e rows j (this _ _ h)
 | nils e j h=>exact .nils e j (this _ _ h)
 | cl _ h=>exact .cl _ h
 | un _=>exact .un _
 | clN _ h=>exact .clN _ h
theorem VC {t x:Nat}:∀{l:List Nat},x∈ZbK t l→x∈l∧x≠t
 | [],h=>by simp [ZbK] at h
 | y::l,h=>by
  simp only [ZbK] at h
  split at h
  ·exact ⟨Tp _ (VC h).1,(VC h).2⟩
  ·rename_i hb
   rcases Tv.1 h with rfl | h
   ·exact ⟨by simp,fun e=>by subst e;simp at hb⟩
   ·exact ⟨Tp _ (VC h).1,(VC h).2⟩
theorem Zeo {as as' as'':List (Option Nat)} (h:∃m,as'=as++m) (h':∃m,as''=as'++m):∃m,as''=as++m:=by
 obtain ⟨m,rfl⟩:=h;obtain ⟨m',rfl⟩:=h';exact ⟨m++m',by rw [Tg]⟩
theorem NInv.add {S tk:List Nat} {as:List (Option Nat)} (h:NInv S tk as) {t:Nat} (ht:t∈tk):NInv S (ZbK t tk) (as++[some t]):=by
 have key:∀(i s:Nat),(as++[some t])[i]?=some (some s)→(as[i]?=some (some s))∨(i=as.length∧s=t):=fun i s hi=>by
  by_cases hlt:i<as.length
  ·rw [TP hlt] at hi;exact .inl hi
  ·rw [T1 (by omega)] at hi
   have:=(Ti.1 hi).1
   simp only [TD] at this
   have h0:i - as.length=0:=by omega
   rw [h0] at hi
   simp at hi
   exact .inr ⟨by omega,hi.symm⟩
 refine ⟨fun x hx=>h.sub x (VC hx).1,fun i s hi=>?_,fun i j s hi hj=>?_⟩
 ·rcases key i s hi with h1 | ⟨_,rfl⟩
  ·exact ⟨(h.mem i s h1).1,fun hm=>(h.mem i s h1).2 (VC hm).1⟩
  ·exact ⟨h.sub _ ht,fun hm=>(VC hm).2 rfl⟩
 ·rcases key i s hi with h1 | ⟨h1,rfl⟩ <;> rcases key j s hj with h2 | ⟨h2,h3⟩
  ·exact h.inj i j s h1 h2
  ·subst h3;exact absurd ht (h.mem i _ h1).2
  ·exact absurd ht (h.mem j _ h2).2
  ·omega
theorem NInv.nil {S tk:List Nat} {as:List (Option Nat)} (h:NInv S tk as):NInv S tk (as++[none]):=by
 have key:∀(i s:Nat),(as++[none])[i]?=some (some s)→(as[i]?=some (some s)):=fun i s hi=>by
  by_cases hlt:i<as.length
  ·rw [TP hlt] at hi;exact hi
  ·rw [T1 (by omega)] at hi
   have:=(Ti.1 hi).1
   simp only [TD] at this
   have h0:i - as.length=0:=by omega
   rw [h0] at hi
   simp at hi
 exact ⟨h.sub,fun i s hi=>h.mem i s (key i s hi),fun i j s hi hj=>h.inj i j s (key i s hi) (key j s hj)⟩
theorem Zuy {n:Nat} {S tk:List Nat} {as:List (Option Nat)} (hI:NInv S tk as) {v:PV} {K:PV→List Nat→Nat→Prop} (h:Zuo n tk as.length v K) :
  ∃v' tk' as',K v' tk' as'.length∧(∃m,as'=as++m)∧NInv S tk' as'∧NV n as' v v':=by
 have gen:∀v,(match bnd n v with | true=>Za7 (clean v) fun v=>K v tk as.length | false=>K .undef tk as.length:Prop)→∃v' tk' as',K v' tk' as'.length∧(∃m,as'=as++m)∧NInv S tk' as'∧NV n as' v v':=fun v h=>by
  split at h
  ·rename_i hb;rw [YI] at h;exact ⟨_,tk,as,h,⟨[],by simp⟩,hI,.cl v hb⟩
  ·exact ⟨_,tk,as,h,⟨[],by simp⟩,hI,.un v⟩
 cases v with
 | sl t el rows =>
  simp only [Zuo] at h
  exact m83
 | nils el=>exact ⟨_,tk,as++[none],by simpa [Zuo] using h,⟨[none],rfl⟩,hI.nil,.nils el _ (by simp)⟩
 | _=>exact gen _ h
theorem Zg9 {n:Nat} {S:List Nat}:∀{vs:List PV} {tk:List Nat} {as:List (Option Nat)} (_:NInv S tk as) {K:List PV→List Nat→Nat→Prop},Zup n vs tk as.length K →
  ∃vs' tk' as',K vs' tk' as'.length∧(∃m,as'=as++m)∧NInv S tk' as'∧vs'.length=vs.length∧∀(i:Nat) (x y:PV),vs[i]?=some x→vs'[i]?=some y→NV n as' x y
 | [],tk,as,hI,K,h=>⟨[],tk,as,h,⟨[],by simp⟩,hI,rfl,fun i x y hx=>by simp at hx⟩
 | v::vs,tk,as,hI,K,h=>by
  obtain ⟨v',tk1,as1,h1,hx1,hI1,hv⟩:=Zuy hI h
  obtain ⟨vs',tk2,as2,h2,hx2,hI2,hl,hvs⟩:=Zg9 hI1 h1
  exact m80
theorem ZrX {n:Nat} {S tk:List Nat} {as:List (Option Nat)} (hI:NInv S tk as) {v:PV} {K:PV→List Nat→Nat→Prop} (h:Zj7 n tk as.length v K) :
  ∃v' tk' as',K v' tk' as'.length∧(∃m,as'=as++m)∧NInv S tk' as'∧NV n as' v v':=by
 have gen:∀v,(match bnd n v with | true=>Za7 (cleanN v) fun v=>K v tk as.length | false=>K .undef tk as.length:Prop)→∃v' tk' as',K v' tk' as'.length∧(∃m,as'=as++m)∧NInv S tk' as'∧NV n as' v v':=fun v h=>by
  split at h
  ·rename_i hb;rw [YI] at h;exact ⟨_,tk,as,h,⟨[],by simp⟩,hI,.clN v hb⟩
  ·exact ⟨_,tk,as,h,⟨[],by simp⟩,hI,.un v⟩
 cases v with
 | sl t el rows =>
  simp only [Zj7] at h
  exact m83
 | nils el=>exact ⟨_,tk,as++[none],by simpa [Zj7] using h,⟨[none],rfl⟩,hI.nil,.nils el _ (by simp)⟩
 | _=>exact gen _ h
theorem ZlP {n:Nat} {S:List Nat}:∀{vs:List PV} {tk:List Nat} {as:List (Option Nat)} (_:NInv S tk as) {K:List PV→List Nat→Nat→Prop},ZoC n vs tk as.length K →
  ∃vs' tk' as',K vs' tk' as'.length∧(∃m,as'=as++m)∧NInv S tk' as'∧vs'.length=vs.length∧∀(i:Nat) (x y:PV),vs[i]?=some x→vs'[i]?=some y→NV n as' x y
 | [],tk,as,hI,K,h=>⟨[],tk,as,h,⟨[],by simp⟩,hI,rfl,fun i x y hx=>by simp at hx⟩
 | v::vs,tk,as,hI,K,h=>by
  obtain ⟨v',tk1,as1,h1,hx1,hI1,hv⟩:=ZrX hI h
  obtain ⟨vs',tk2,as2,h2,hx2,hI2,hl,hvs⟩:=ZlP hI1 h1
  exact m80
inductive NB (n:Nat) (as:List (Option Nat)):Box→Box→Prop
 | cells (t:TypeId) (cs cs':List PV) (hl:cs'.length=cs.length) (h:∀(i:Nat) (x y:PV),cs[i]?=some x→cs'[i]?=some y→NV n as x y):NB n as (.cells t cs) (.cells t cs')
 | iter (s:List UInt8) (p:Nat):NB n as (.iter s p) (.iter s p)
 | loop (st:LoopState) (pd:Option Code) (r:Loop):NB n as (.loop st pd r) (.loop st pd r)
theorem NB.ext {n:Nat} {as as':List (Option Nat)} {x y:Box} (h:NB n as x y) (hx:∃m,as'=as++m):NB n as' x y:=by
 cases h with
 | cells t cs cs' hl h=>exact .cells t cs cs' hl fun i x y h1 h2=>(h i x y h1 h2).ext hx
 | iter s p=>exact .iter s p
 | loop st pd r=>exact .loop st pd r
theorem Zbf {n:Nat} {S:List Nat}:∀{m:Nat} {bs:List Box} {tk:List Nat} {as:List (Option Nat)} (_:NInv S tk as) {K:List Box→List Nat→Nat→Prop},Zj8 n m bs tk as.length K →
  ∃bs' tk' as',K bs' tk' as'.length∧(∃m,as'=as++m)∧NInv S tk' as'∧bs'.length=m∧m≤bs.length∧∀(i:Nat) (x y:Box),bs[i]?=some x→bs'[i]?=some y→NB n as' x y
 | 0,bs,tk,as,hI,K,h=>⟨[],tk,as,by simpa [Zj8] using h,⟨[],by simp⟩,hI,rfl,Sa _,fun i x y _ hy=>by simp at hy⟩
 | m+1,[],tk,as,hI,K,h=>h.elim
 | m+1,.cells t cs::bs,tk,as,hI,K,h=>by
  obtain ⟨cs',tk1,as1,h1,hx1,hI1,hl1,hv⟩:=Zg9 hI h
  obtain ⟨bs',tk2,as2,h2,hx2,hI2,hl,hm,hvs⟩:=Zbf hI1 h1
  refine ⟨.cells t cs'::bs',tk2,as2,h2,Zeo hx1 hx2,hI2,by simp [hl],by simp;omega,fun i x y hx hy=>?_⟩
  cases i with
  | zero=>simp at hx hy;subst hx;subst hy;exact .cells t cs cs' hl1 fun i x y h1 h2=>(hv i x y h1 h2).ext hx2
  | succ i=>exact hvs i x y (by simpa using hx) (by simpa using hy)
 | m+1,.iter s p::bs,tk,as,hI,K,h=>by
  obtain ⟨bs',tk2,as2,h2,hx2,hI2,hl,hm,hvs⟩:=Zbf hI (K:=fun l tk k=>K (.iter s p::l) tk k) h
  refine ⟨.iter s p::bs',tk2,as2,h2,hx2,hI2,by simp [hl],by simp;omega,fun i x y hx hy=>?_⟩
  cases i with
  | zero=>simp at hx hy;subst hx;subst hy;exact .iter s p
  | succ i=>exact hvs i x y (by simpa using hx) (by simpa using hy)
 | m+1,.loop st pd r::bs,tk,as,hI,K,h=>by
  obtain ⟨bs',tk2,as2,h2,hx2,hI2,hl,hm,hvs⟩:=Zbf hI (K:=fun l tk k=>K (.loop st pd r::l) tk k) h
  refine ⟨.loop st pd r::bs',tk2,as2,h2,hx2,hI2,by simp [hl],by simp;omega,fun i x y hx hy=>?_⟩
  cases i with
  | zero=>simp at hx hy;subst hx;subst hy;exact .loop st pd r
  | succ i=>exact hvs i x y (by simpa using hx) (by simpa using hy)
structure Drop (n:Nat) (e:Env) (σ:St) (e':Env) (σ':St):Prop where
 le:n≤σ.bx.length
 len:σ'.bx.length=n
 beta:e'.β=e.β
 X:e'.X=e.X
 okc:∀b off,okc e σ b off→okc e' σ' b off
 tok:∀t,t∈σ'.tk→∀p,e'.M t=some p→∃t0,t0∈σ.tk∧e.M t0=some p
theorem Later.drop {e1:Env} {σ1:St} {w1:World} {n:Nat} (h:Later e1 σ1 w1 e σ w) (hd:Drop n e σ e' σ') (hn:σ1.bx.length≤n):Later e1 σ1 w1 e' σ' w where
 len:=by rw [hd.len];exact hn
 beta:=by rw [hd.beta];exact h.beta
 X:=by rw [hd.X];exact h.X
 pres:=fun b off u hu ho=>let ⟨h1,h2⟩:=h.pres b off u hu ho;⟨hd.okc b off h1,h2⟩
 blocks:=h.blocks
 size:=h.size
 os:=h.os
 tape:=h.tape
 output:=h.output
 fresh:=fun i h1 h2=>by rw [hd.len] at h2;rw [hd.beta];exact h.fresh i h1 (TM h2 hd.le)
 ftok:=fun t ht p hp=>let ⟨t0,h0,h1⟩:=hd.tok t ht p hp;h.ftok t0 h0 p h1
theorem Marks.drop {lo:Nat×List Deferred×Bool} {n:Nat} {l:List Deferred} (h:Marks lo e σ w l) (hd:Drop n e σ e' σ'):Marks lo e' σ' w l:=by
 obtain ⟨h0,rs,h1,hfl,h2,h3⟩:=h
 refine ⟨h0,rs,h1,hfl,h2,fun r hr=>?_⟩
 obtain ⟨g1,g2,g3,g4⟩:=h3 r hr
 refine ⟨g1,g2,fun i hi=>?_,fun t ht p hp=>?_⟩
 ·rw [hd.beta];rw [hd.len] at hi;exact g3 i (TM hi hd.le)
 ·obtain ⟨t0,h0,hp0⟩:=hd.tok t ht p hp;exact g4 t0 h0 p hp0
theorem mem_toks {t:Nat}:∀{k:Nat},t∈toks k↔t<k
 | 0=>by simp [toks]
 | k+1=>by simp only [toks,Tv,mem_toks];omega
def Env.re (e:Env) (as:List (Option Nat)):Env:={ e with M:=fun j=>(as[j]?.join).bind e.M }
theorem ZcE {as:List (Option Nat)} {j:Nat} {p:Nat×Nat} (h:(e.re as).M j=some p):∃t,as[j]?=some (some t)∧e.M t=some p:=by
 simp only [Env.re] at h
 cases hj:as[j]? with
 | none=>rw [hj] at h;simp at h
 | some q =>
  cases q with
  | none=>rw [hj] at h;simp at h
  | some t=>rw [hj] at h;exact ⟨t,rfl,by simpa using h⟩
theorem Zep {n:Nat} (hn:n≤σ.bx.length) {as:List (Option Nat)} {tk:List Nat} (hI:NInv σ.tk tk as) {bs:List Box} (hb:bs.length=n):Drop n e σ (e.re as) ⟨bs,toks as.length,as.length⟩ where
 le:=hn
 len:=hb
 beta:=rfl
 X:=rfl
 okc:=fun b off ho=>⟨ho.1,fun i hi=>ho.2.1 i (TM hi (by rw [show (St.mk bs (toks as.length) as.length).bx.length=n from hb];exact hn)),fun t ht p hp hpb=>by
  obtain ⟨t0,h1,h2⟩:=ZcE hp
  exact ho.2.2 t0 (hI.mem _ _ h1).1 p h2 hpb⟩
 tok:=fun t ht p hp=>by
  obtain ⟨t0,h1,h2⟩:=ZcE hp
  exact ⟨t0,(hI.mem _ _ h1).1,h2⟩
theorem NV.rel {n:Nat} (hn:n≤σ.bx.length) {as:List (Option Nat)} {tk:List Nat} (hI:NInv σ.tk tk as) {bs:List Box} (hb:bs.length=n) {x y:PV} {v:Value} (h:NV n as x y) (hv:VRel G e σ w x v) :
  VRel G (e.re as) ⟨bs,toks as.length,as.length⟩ w y v:=by
 have hd:=Zep (e:=e) hn hI hb
 have hlt:∀(j:Nat) (q:Option Nat),as[j]?=some q→j<as.length:=fun j q hq=>(Ti.1 hq).1
 cases h with
 | sl t el rows j h =>
  cases hv with
  | sl _ _ _ _ hn2 hd2 ht =>
   refine .sl j el rows v (hlt _ _ h) (hd2.mono fun b off u hu ho=>⟨hd.okc b off ho,hu⟩) fun _=>?_
   have hM:(e.re as).M j=e.M t:=by simp [Env.re,h]
   rcases ht (hI.mem _ _ h).1 with ⟨h1,h2,h3⟩ | ⟨sz,h1,h2,h3,b,off,cap,cs,ty,fz,h4,h5,h6,h7,h8,h9,h10⟩
   ·exact .inl ⟨h1,h2,hM.trans h3⟩
   ·exact .inr ⟨sz,h1,h2,h3,b,off,cap,cs,ty,fz,h4,h5,h6,h7,h8,h9,hM.trans h10⟩
 | nils el j h =>
  cases hv with
  | nils =>
   refine .sl j el [] _ (hlt _ _ h) .slnil fun _=>.inl ⟨rfl,rfl,?_⟩
   simp [Env.re,h]
 | cl _ h=>exact VRel.clean (e:=e) (e':=e.re as) (σ:=σ) (σ':=⟨bs,toks as.length,as.length⟩) (w:=w) (w':=w) (n:=n) (by show n≤bs.length;omega) (fun _ _=>rfl) (fun b off u hu ho=>⟨hd.okc b off ho,hu⟩) hv h
 | un _=>exact .undef v
 | clN _ h=>exact VRel.cleanN (e:=e) (e':=e.re as) (σ:=σ) (σ':=⟨bs,toks as.length,as.length⟩) (w:=w) (w':=w) (n:=n) (by show n≤bs.length;omega) (fun _ _=>rfl) (fun b off u hu ho=>⟨hd.okc b off ho,hu⟩) hv h
theorem Zha {n:Nat} (hS:SRel G e σ w) (hn:n≤σ.bx.length) {as:List (Option Nat)} {tk:List Nat} (hI:NInv σ.tk tk as) {bs:List Box} (hb:bs.length=n)
  (hbs:∀(i:Nat) (x y:Box),σ.bx[i]?=some x→bs[i]?=some y→NB n as x y):SRel G (e.re as) ⟨bs,toks as.length,as.length⟩ w where
 inj:=fun i j hi hj h=>hS.inj i j (by simp only at hi;omega) (by simp only at hj;omega) h
 box:=fun i y hy=>by
  have hi:=(Ti.1 hy).1
  simp only at hi
  have hx:σ.bx[i]?=some σ.bx[i]:=Tk (by omega)
  have hB:=hS.box i _ hx
  have hN:=hbs i _ y hx hy
  generalize σ.bx[i]=x at hB hN
  cases hN with
  | cells t cs cs' hl h =>
   obtain ⟨vs,h1,h2,h3⟩:=hB
   refine ⟨vs,h1,by rw [hl];exact h2,fun k z u hz hu=>?_⟩
   have hk:=(Ti.1 hz).1
   have hx:cs[k]?=some cs[k]:=Tk (by omega)
   exact ⟨(h k _ z hx hz).rel hn hI hb (h3 k _ u hx hu).1,(h3 k _ u hx hu).2⟩
  | iter s p=>exact hB
  | loop st pd r=>exact hB
 low:=fun i hi=>hS.low i (by simp only at hi;omega)
 tkn:=fun t ht=>mem_toks.1 ht
 own:=fun t ht p hp=>by
  obtain ⟨t0,h1,h2⟩:=ZcE hp
  obtain ⟨h3,h4,h5⟩:=hS.own t0 (hI.mem _ _ h1).1 p h2
  exact ⟨h3,fun i hi=>h4 i (by simp only at hi;omega),h5⟩
 dis:=fun t t' ht ht' hne p p' hp hp'=>by
  obtain ⟨t0,h1,h2⟩:=ZcE hp
  obtain ⟨t1,h3,h4⟩:=ZcE hp'
  exact hS.dis t0 t1 (hI.mem _ _ h1).1 (hI.mem _ _ h3).1 (fun h=>hne (hI.inj _ _ _ h1 (by rw [h];exact h3))) p p' h2 h4
 xlt:=hS.xlt
 xown:=fun t ht p hp=>by
  obtain ⟨t0,h1,h2⟩:=ZcE hp
  exact hS.xown t0 (hI.mem _ _ h1).1 p h2
 glob:=hS.glob
 big:=hS.big
theorem ZEn (S:List Nat) (tk:List Nat) (h:∀t,t∈tk→t∈S):NInv S tk []:=⟨h,fun i t h=>by simp at h,fun i j t h=>by simp at h⟩
theorem ZdY (hS:SRel G e σ w) {n:Nat} {vs:List PV} {K:List PV→St→Prop} (h:Zg2 n vs σ K) :
  ∃vs' σ' e',K vs' σ'∧SRel G e' σ' w∧Drop n e σ e' σ'∧vs'.length=vs.length∧∀(i:Nat) (x y:PV) (u:Value),vs[i]?=some x→vs'[i]?=some y→VRel G e σ w x u→VRel G e' σ' w y u:=by
 obtain ⟨vs',tk1,as1,h1,hx1,hI1,hl,hv⟩:=Zg9 (as:=[]) (ZEn σ.tk σ.tk fun _ h=>h) h
 obtain ⟨bs,tk2,as2,h2,hx2,hI2,hbl,hn,hbs⟩:=Zbf hI1 h1
 exact ⟨vs',⟨bs,toks as2.length,as2.length⟩,e.re as2,h2,Zha hS hn hI2 hbl hbs,Zep hn hI2 hbl,hl,fun i x y u hx hy hr=>((hv i x y hx hy).ext hx2).rel hn hI2 hbl hr⟩
end
end Go.PM
end

section
namespace Go.PM
theorem Flat.front {ok:Nat→Nat→Prop} {w:World} {r1 r2:List (List D)} {sz:Nat} {xs:List Value} (h:Flat ok w (r1++r2) sz xs):Flat ok w r1 sz (xs.take (r1.length * sz)):=by
 have hl:=h.len
 rw [Ta,Sq] at hl
 refine ⟨by rw [Se];omega,fun r hr=>h.wid r (TX.2 (.inl hr)),fun a b y u hb hy hu=>?_⟩
 have ha:a<r1.length:=by
  apply Classical.byContradiction
  intro hn
  rw [Sr (by omega)] at hy;cases hy
 refine h.rel a b y u hb (by rw [TP ha];exact hy) ?_
 rw [List.getElem?_take] at hu
 split at hu
 ·exact hu
 ·cases hu
section
variable {G:GE} {T:Tab} {e:Env} {σ:St} {w:World}
theorem Zkn (hT:TabOK T G.P) (hS:SRel G e σ w) {t tx el ty:Nat} (hkt:(T.get t).kind=.slice el) (hkel:(T.get el).kind≠.other) (hpos:0<(T.get el).size)
  {rows:List (List D)} {z:List D} {v vx:Value} {px:PV} (hD:DRel (okc e σ) w (.sl rows) v) (tk0:List Nat) (hsub:∀x,x∈tk0→x∈σ.tk)
  (hO:(v=.slice none 0 0∧rows=[])∨∃tok,tok∈σ.tk∧tok∉tk0∧Owned G e w tok el rows v)
  (hm:U6 T tx el px=some [z]) (hx:VRel G e σ w px vx) (hw:z.length=(T.get el).size)
  (hbytes:(rows.length+1) * (T.get el).bytes≤2 ^ 47) (hlen:rows.length+1≤2 ^ 47) :
  ∃w1 b off cap e1,(Builtin.append_ #[t,tx] ty #[v,vx]).run G.P w=.ok (.slice (some ⟨b,off,none⟩) (rows.length+1) cap) w1∧rows.length+1≤cap ∧
   Stepped e σ w e1 { σ with tk:=σ.nx::tk0,nx:=σ.nx+1 } w1∧SRel G e1 { σ with tk:=σ.nx::tk0,nx:=σ.nx+1 } w1 ∧
   VRel G e1 { σ with tk:=σ.nx::tk0,nx:=σ.nx+1 } w1 (.sl σ.nx el rows) (.slice (some ⟨b,off,none⟩) rows.length cap):=by
 obtain ⟨news,hsrc,hnews⟩:=ZtI hT hm hx (fun r hr=>by simp at hr;rw [hr];exact hw) hpos rfl
 obtain ⟨hO3,hrw,htok⟩:=Zbc hT hS hkel tk0 hO
 obtain ⟨v',w1,hrun,hos,htape,hout,hsize,hcell,hblk,hres⟩:=Zgh (ty:=ty) (more:=[z]) hT hS hkt hkel hpos hD hrw hO3 hsrc hnews hbytes hlen
 rcases hres with ⟨_,h⟩ | ⟨b,off,cap,cs,tyb,fz,rfl,hb,hc,hh,hcs,hfz,hor,xs,hxs,hxc⟩
 ·simp at h
 ·obtain ⟨e1,h1,h2,h3⟩:=Zap (more:=[]) (v':=.slice (some ⟨b,off,none⟩) rows.length cap) hT hS hkel hpos hD tk0 hsub hrw (fun r h=>by cases h) htok hos htape hout hsize hcell hblk
   (.inr ⟨b,off,cap,cs,tyb,fz,by simp,hb,by simp at hc ⊢;omega,hh,hcs,hfz,hor,xs.take (rows.length * (T.get el).size),by rw [TA];exact hxs.front,fun k u hk=>hxc k u (by
    rw [List.getElem?_take] at hk
    split at hk
    ·exact hk
    ·cases hk)⟩)
  rw [TA] at h3
  exact ⟨w1,b,off,cap,e1,by rw [hrun];simp,by simpa using hc,h1,h2,h3⟩
theorem Zo6 (hT:TabOK T G.P) (hS:SRel G e σ w) {el tok b off cap:Nat} (hkel:(T.get el).kind≠.other) (hpos:0<(T.get el).size)
  {rows:List (List D)} {row:List D} {us:List Value} (hV:VRel G e σ w (.sl tok el rows) (.slice (some ⟨b,off,none⟩) rows.length cap)) (htk:tok∈σ.tk) (hcap:rows.length+1≤cap)
  (hnews:Flat (okc e σ) w [row] (T.get el).size us) :
  (∀j,j<us.length→(w.cell? ⟨b,off+rows.length * (T.get el).size+j,none⟩).isSome=true)∧(∀j,j<us.length→w.frozen? ⟨b,off+rows.length * (T.get el).size+j,none⟩=false) ∧
  (∀i,i<σ.bx.length→e.β i≠b) ∧
  ∃e1,Stepped e σ w e1 { σ with tk:=σ.nx::ZbK tok σ.tk,nx:=σ.nx+1 } (w.setCells b (off+rows.length * (T.get el).size) us)∧SRel G e1 { σ with tk:=σ.nx::ZbK tok σ.tk,nx:=σ.nx+1 } (w.setCells b (off+rows.length * (T.get el).size) us) ∧
   VRel G e1 { σ with tk:=σ.nx::ZbK tok σ.tk,nx:=σ.nx+1 } (w.setCells b (off+rows.length * (T.get el).size) us) (.sl σ.nx el (rows++[row])) (.slice (some ⟨b,off,none⟩) (rows.length+1) cap):=by
 cases hV with
 | sl _ _ _ _ hn hD hown =>
 have hsub:∀x,x∈ZbK tok σ.tk→x∈σ.tk:=fun x hx=>((V3 _ _ _).1 hx).1
 have hnt:tok∉ZbK tok σ.tk:=fun h=>((V3 _ _ _).1 h).2 rfl
 obtain ⟨hO3,hrw,htok⟩:=Zbc hT hS hkel (ZbK tok σ.tk) (.inr ⟨tok,htk,hnt,hown htk⟩)
 rcases hO3 with ⟨h,_⟩ | ⟨b',off',cap',cs,tyb,fz,he,hb,hc,hh,hcs,hfz,hnb⟩
 ·cases h
 ·cases he
  obtain ⟨olds,ho1,ho2,ho3,ho4⟩:=ZEm hrw hpos hD
  have hul:us.length=(T.get el).size:=by rw [hnews.len];simp
  have hcc:(rows.length+1) * (T.get el).size≤cap * (T.get el).size:=T4 _ hcap
  rw [Sq] at hcc
  have hcell:∀k,k<cs.size→(w.cell? ⟨b,k,none⟩).isSome=true:=fun k hk=>by simp [World.cell?,hh,hk]
  obtain ⟨r1,r2,r3,r4⟩:=Xs b us (off+rows.length * (T.get el).size) w
  obtain ⟨cs',q1,q2,q3⟩:=XO b us (off+rows.length * (T.get el).size) w cs tyb fz hh
  refine ⟨fun j hj=>hcell _ (by have:=hcs.1;omega),fun j hj=>?_,hnb,?_⟩
  ·simp only [World.frozen?,hh]
   have h1:=hfz.2 (off+rows.length * (T.get el).size+j) (by omega)
   by_cases h2:fz.1≤off+rows.length * (T.get el).size+j
   ·have:=h1 h2
    simp;intro _;omega
   ·simp;omega
  ·refine Zap (v:=.slice (some ⟨b,off,none⟩) rows.length cap) hT hS hkel hpos hD (ZbK tok σ.tk) hsub hrw (fun r h=>by simp at h;rw [h];exact hnews.wid _ (by simp)) htok r1 r2 r3 (by rw [YY];exact Tr _)
    (fun b' o' u hu ho=>?_) (fun b' hb' hn=>r4 b' (hn b off cap rfl)) (.inr ⟨b,off,cap,cs',tyb,fz,by simp,hb,by simpa using hcap,q1,⟨by rw [q2];exact hcs.1,hcs.2.1,hcs.2.2.1,hcs.2.2.2⟩,hfz,.inl ⟨cap,rfl⟩,olds++us,ho1.append hnews,fun k u hk=>?_⟩)
   ·by_cases hbb:b'=b
    ·subst hbb
     by_cases hoo:off+rows.length * (T.get el).size≤o'
     ·exact .inr ⟨b',off,cap,rfl,rfl,hoo⟩
     ·left
      rw [World.cell?_setCells_out b' us _ w ⟨b',o',none⟩ (fun _ _=>.inl (by show o'<_;omega))]
      exact hu
    ·left;simpa [World.cell?,r4 b' hbb] using hu
   ·by_cases hk1:k<olds.length
    ·rw [TP hk1] at hk
     rw [World.cell?_setCells_out b us _ w ⟨b,off+k,none⟩ (fun _ _=>.inl (by show off+k<_;rw [← ho1.len];omega))]
     exact ho2 k u hk
    ·rw [T1 (by omega)] at hk
     have hkn:=(Ti.1 hk).1
     have:=World.cell?_setCells_in b us (off+rows.length * (T.get el).size) w (fun j hj=>hcell _ (by have:=hcs.1;omega)) (k - olds.length) hkn
     exact m128
end
structure Hole4 (ops:Array Oper) (m:Nat) (I S F H:Oper):Prop where
 size:ops.size=m+5
 oI:ops[m+1]?=some I
 oS:ops[m+2]?=some S
 oF:ops[m+3]?=some F
 oH:ops[m+4]?=some H
 gI:I.guard=none
 gS:S.guard=none
 gF:F.guard=none
 gH:H.guard=none
 nI:∀c,I.op≠.defer c
 nS:∀c,S.op≠.defer c
 nF:∀c,F.op≠.defer c
 nH:∀c,H.op≠.defer c
 eI:∀ed∈I.after,Region.binds .any ed=true→ed.on≤m
 eF:∀ed∈F.after,Region.binds .any ed=true→ed.on≤m
 eS:∀ed∈S.after,Region.binds .any ed=true→ed.on≤m+1
 eH:∀ed∈H.after,Region.binds .any ed=true→ed.on≤m∨ed.on=m+3
 eSI:∃ed∈S.after,Region.binds .any ed=true∧ed.on=m+1
 eHF:∃ed∈H.after,Region.binds .any ed=true∧ed.on=m+3
def cnt (i s f h:Bool):Nat:=(!i).toNat+(!s).toNat+(!f).toNat+(!h).toNat
theorem Zeq {P:Program} {ro:Option Nat} {n:Nat} {ops:Array Oper} {Q:Exit→Act→World→Prop} {i:Nat} {o:Oper} {K:Act→World→Prop} {a:Act} {w w':World} {v:Value} (ho:ops[i]?=some o) (hg:o.guard=none) (hnd:∀c,o.op≠.defer c)
  (hrun:(execOp a.eval o).run P w=.ok (.value v) w'∨((execOp a.eval o).run P w=.ok .skip w'∧v=Go.undef)) (hk:K (a.put o.dst v) w'):wpOpIn (fw ro) n P ops Q i K a w:=by
 unfold wpOpIn
 rw [ho]
 dsimp only
 have hw:Region.wanted o (yielded ops a.tmps)=true:=by simp [Region.wanted,hg]
 rw [Th hw]
 refine ⟨fun _ _=>trivial,?_⟩
 rw [show (fw ro).round=ro from rfl,Oper.semAt_eq _ _ _ hnd]
 rcases hrun with hr | ⟨hr,rfl⟩
 ·rw [hr];exact hk
 ·rw [hr];exact hk
theorem ZB5 {P:Program} {ro:Option Nat} {n:Nat} {ops:Array Oper} {m:Nat} {I S F H:Oper} (h4:Hole4 ops m I S F H) {Q:Exit→Act→World→Prop} {A:Bool→Bool→Act} {W:Bool→Bool→World} {vI vF:Value}
  (rI:∀f h,(h=true→f=true)→(execOp (A false f).eval I).run P (W false h)=.ok (.value vI) (W false h)) (pI:∀f,(A false f).put I.dst vI=A true f)
  (rF:∀i s,(s=true→i=true)→(execOp (A i false).eval F).run P (W s false)=.ok (.value vF) (W s false)) (pF:∀i,(A i false).put F.dst vF=A i true)
  (rS:∀f h,(h=true→f=true)→(execOp (A true f).eval S).run P (W false h)=.ok .skip (W true h)) (pS:∀f,(A true f).put S.dst Go.undef=A true f)
  (rH:∀i s,(s=true→i=true)→(execOp (A i true).eval H).run P (W s false)=.ok .skip (W s true)) (pH:∀i,(A i true).put H.dst Go.undef=A i true)
  (hQ:Q .normal (A true true) (W true true)) :
  ∀(k:Nat) (i s f h:Bool),cnt i s f h=k→(s=true→i=true)→(h=true→f=true)→∀(listed:Array Bool),listed.size=ops.size →
   (∀j,j<ops.size→(listed.getD j false=true↔(j=m+1→i=true)∧(j=m+2→s=true)∧(j=m+3→f=true)∧(j=m+4→h=true))) →
   wpAnyIn (fw ro) n P .any ops Q k listed (A i f) (W s h):=by
 intro k
 induction k with
 | zero =>
  intro i s f h hc hsi hhf listed hsz hli
  obtain ⟨rfl,rfl,rfl,rfl⟩:i=true∧s=true∧f=true∧h=true:=by
   revert hc;cases i <;> cases s <;> cases f <;> cases h <;> simp [cnt]
  refine ⟨?_,hQ⟩
  rw [List.eq_nil_iff_forall_not_mem]
  intro j hj
  obtain ⟨h1,o,ho,_⟩:=mem_ready.1 hj
  have hlt:=(Tq.1 ho).1
  have:=(hli j hlt).2 ⟨fun _=>rfl,fun _=>rfl,fun _=>rfl,fun _=>rfl⟩
  have hlt':j<listed.size:=by rw [hsz];exact hlt
  simp [Array.getD,hlt'] at this h1
  rw [this] at h1;cases h1
 | succ k ih =>
  intro i s f h hc hsi hhf listed hsz hli
  have hgd:∀i b,i<ops.size→listed.getD i b=listed.getD i false:=fun i b hi=>by
   exact m78
  have hsz4:=h4.size
  have hset:∀(j:Nat) (i' s' f' h':Bool),j<ops.size→(∀q,q<ops.size→((q=m+1→i'=true)∧(q=m+2→s'=true)∧(q=m+3→f'=true)∧(q=m+4→h'=true)↔q=j∨((q=m+1→i=true)∧(q=m+2→s=true)∧(q=m+3→f=true)∧(q=m+4→h=true)))) →
    ∀q,q<ops.size→((listed.setIfInBounds j true).getD q false=true↔(q=m+1→i'=true)∧(q=m+2→s'=true)∧(q=m+3→f'=true)∧(q=m+4→h'=true)):=fun j i' s' f' h' hj hh q hq=>by
   rw [hh q hq]
   by_cases hqj:q=j
   ·subst hqj
    have hlt':q<listed.size:=by rw [hsz];exact hq
    simp [Array.getD,hlt']
   ·have:(listed.setIfInBounds j true).getD q false=listed.getD q false:=getD_set_ne false (Ne.symm hqj)
    rw [this,hli q hq]
    constructor
    ·exact fun h=>.inr h
    ·rintro (h | h)
     ·exact absurd h hqj
     ·exact h
  refine ⟨fun hr=>?_,fun j hj=>?_⟩
  ·exfalso
   have rdy:∀j o,ops[j]?=some o→listed.getD j false=false→(∀ed∈o.after,Region.binds .any ed=true→listed.getD ed.on false=true)→False:=fun j o ho hl he=>by
    have:j∈Region.ready .any ops listed:=mem_ready.2 ⟨by rw [hgd _ _ (Tq.1 ho).1];exact hl,o,ho,he⟩
    rw [hr] at this;cases this
   have fls:∀j,j<ops.size→¬((j=m+1→i=true)∧(j=m+2→s=true)∧(j=m+3→f=true)∧(j=m+4→h=true))→listed.getD j false=false:=fun j hj hn=>by
    cases hv:listed.getD j false with
    | false=>rfl
    | true=>exact absurd ((hli j hj).1 hv) hn
   cases i with
   | false=>exact rdy (m+1) I h4.oI (fls _ (by omega) (fun hh=>by have:=hh.1 rfl;cases this)) fun ed he hb=>(hli _ (by have:=h4.eI ed he hb;omega)).2 (by have:=h4.eI ed he hb;exact ⟨by omega,by omega,by omega,by omega⟩)
   | true =>
    cases s with
    | false=>exact rdy (m+2) S h4.oS (fls _ (by omega) (fun hh=>by have:=hh.2.1 rfl;cases this)) fun ed he hb=>(hli _ (by have:=h4.eS ed he hb;omega)).2 (by have:=h4.eS ed he hb;exact ⟨fun _=>rfl,by omega,by omega,by omega⟩)
    | true =>
     cases f with
     | false=>exact rdy (m+3) F h4.oF (fls _ (by omega) (fun hh=>by have:=hh.2.2.1 rfl;cases this)) fun ed he hb=>(hli _ (by have:=h4.eF ed he hb;omega)).2 (by have:=h4.eF ed he hb;exact ⟨fun _=>rfl,fun _=>rfl,by omega,by omega⟩)
     | true =>
      cases h with
      | false=>exact rdy (m+4) H h4.oH (fls _ (by omega) (fun hh=>by have:=hh.2.2.2 rfl;cases this)) fun ed he hb=>(hli _ (by have:=h4.eH ed he hb;omega)).2 (by have:=h4.eH ed he hb;exact ⟨fun _=>rfl,fun _=>rfl,fun _=>rfl,by omega⟩)
      | true=>simp [cnt] at hc
  ·obtain ⟨h1,o,ho,hall⟩:=mem_ready.1 hj
   have hlt:=(Tq.1 ho).1
   rw [hgd _ _ hlt] at h1
   have hn:¬((j=m+1→i=true)∧(j=m+2→s=true)∧(j=m+3→f=true)∧(j=m+4→h=true)):=fun hh=>by
    rw [(hli j hlt).2 hh] at h1;cases h1
   have hs1:(listed.setIfInBounds j true).size=ops.size:=by simpa using hsz
   by_cases j1:j=m+1
   ·subst j1
    have hi:i=false:=by cases i with | false=>rfl | true=>exact absurd ⟨fun _=>rfl,by omega,by omega,by omega⟩ hn
    subst hi
    have hs:s=false:=by cases s with | false=>rfl | true=>cases hsi rfl
    subst hs
    rw [h4.oI] at ho;cases ho
    refine Zeq h4.oI h4.gI h4.nI (.inl (rI f h hhf)) ?_
    rw [pI]
    exact ih true false f h (by simp [cnt] at hc ⊢;omega) (fun h=>by cases h) hhf _ hs1 (hset _ _ _ _ _ hlt fun q hq=>by
     by_cases hq1:q=m+1
     ·subst hq1;simp
     ·simp [hq1])
   ·by_cases j2:j=m+2
    ·subst j2
     have hs:s=false:=by cases s with | false=>rfl | true=>exact absurd ⟨by omega,fun _=>rfl,by omega,by omega⟩ hn
     subst hs
     rw [h4.oS] at ho;cases ho
     obtain ⟨ed,he,hb,hon⟩:=h4.eSI
     have hi:i=true:=by
      have:=hall ed he hb
      rw [hon] at this
      exact ((hli _ (by omega)).1 this).1 rfl
     subst hi
     refine Zeq h4.oS h4.gS h4.nS (.inr ⟨rS f h hhf,rfl⟩) ?_
     rw [pS]
     exact ih true true f h (by simp [cnt] at hc ⊢;omega) (fun _=>rfl) hhf _ hs1 (hset _ _ _ _ _ hlt fun q hq=>by
      by_cases hq1:q=m+2
      ·subst hq1;simp
      ·simp [hq1])
    ·by_cases j3:j=m+3
     ·subst j3
      have hf:f=false:=by cases f with | false=>rfl | true=>exact absurd ⟨by omega,by omega,fun _=>rfl,by omega⟩ hn
      subst hf
      have hh:h=false:=by cases h with | false=>rfl | true=>cases hhf rfl
      subst hh
      rw [h4.oF] at ho;cases ho
      refine Zeq h4.oF h4.gF h4.nF (.inl (rF i s hsi)) ?_
      rw [pF]
      exact ih i s true false (by simp [cnt] at hc ⊢;omega) hsi (fun h=>by cases h) _ hs1 (hset _ _ _ _ _ hlt fun q hq=>by
       by_cases hq1:q=m+3
       ·subst hq1;simp
       ·simp [hq1])
     ·by_cases j4:j=m+4
      ·subst j4
       have hh:h=false:=by cases h with | false=>rfl | true=>exact absurd ⟨by omega,by omega,by omega,fun _=>rfl⟩ hn
       subst hh
       rw [h4.oH] at ho;cases ho
       obtain ⟨ed,he,hb,hon⟩:=h4.eHF
       have hf:f=true:=by
        have:=hall ed he hb
        rw [hon] at this
        exact ((hli _ (by omega)).1 this).2.2.1 rfl
       subst hf
       refine Zeq h4.oH h4.gH h4.nH (.inr ⟨rH i s hsi,rfl⟩) ?_
       rw [pH]
       exact ih i s true true (by simp [cnt] at hc ⊢;omega) hsi (fun _=>rfl) _ hs1 (hset _ _ _ _ _ hlt fun q hq=>by
        by_cases hq1:q=m+4
        ·subst hq1;simp
        ·simp [hq1])
      ·exact absurd ⟨fun e=>absurd e j1,fun e=>absurd e j2,fun e=>absurd e j3,fun e=>absurd e j4⟩ hn
theorem ZEo {F:Fence} {n:Nat} {P:Program} {o:Oper} {a:Act} {w:World} {K:Act→World→Prop} {Q Q':Exit→Act→World→Prop} (hQ:∀x a w,x≠.normal→Q x a w→Q' x a w) (h:o.wpIn F n P a w K Q):o.wpIn F n P a w K Q':=by
 unfold Oper.wpIn at *
 refine ⟨h.1,?_⟩
 have h:=h.2
 generalize (o.semAt F.round a.eval).run P w=r at *
 cases r with
 | ok x w' =>
  cases x <;> simp only [Oper.uponIn] at h ⊢ <;> first
   | exact h
   | exact h.elim
   | (refine ⟨h.1, h.2.mono fun en w'' he => ?_⟩
      cases en <;> simp only at he ⊢ <;> first
       | exact he
       | exact hQ _ _ _ (by simp) he
       | (obtain ⟨a0,w0,hq⟩:=he;exact ⟨a0,w0,hQ _ _ _ (by simp) hq⟩))
 | halt hh w' =>
  cases hh <;> simp only [Oper.uponIn] at h ⊢ <;> first
   | exact h.elim
   | exact hQ _ _ _ (by simp) h
section
variable {G:GE} {C:Cx} {e0 e:Env} {σ0 σ:St} {w0 w:World} {a:Act} {f:Frame} {Q:PQ} {ro:Option Nat} {n:Nat} {ds:Nat×List Deferred×Bool} {N:Nat} {Z:Array Value→Prop}
theorem Zgn {m t:Nat} {QQ:Exit→Act→World→Prop} (hC:CxOK G C ro e0 σ0 w0) (hM:CxMono C) {ops:Array Oper} (hd:∀o,o∈ops→∀d,o.dst=some d→d<N∧∀t v,Z t→Z (t.setIfInBounds d v)) {ms:List Nat} (hms:∀i o,i<m→ops[i]?=some o→ms.getD i 0=ZaO ms o.after.toList 0)
  (hm:ops.size=m+t) (htail:∀j o,m≤j→ops[j]?=some o→(∀p,p<m→∃ed∈o.after,Region.binds .any ed=true∧ed.on=p)∨(∃ed∈o.after,Region.binds .any ed=true∧m≤ed.on∧ed.on<ops.size))
  (hQQ:∀x a w,x≠.normal→Z9 G e0 σ0 w0 ds N Z Q x a w→QQ x a w)
  (hend:∀(listed:Array Bool) a w,listed.size=ops.size→(∀k,k<ops.size→(listed.getD k false=true↔k<m))→Z9 G e0 σ0 w0 ds N Z Q .normal a w→wpAnyIn (fw ro) n G.P .any ops QQ t listed a w) :
  ∀(k:Nat) (l:List (Nat×Oper)),l.length=k→(∀p∈l,p.1<m)→(∀p∈l,ops[p.1]?=some p.2)→l.Pairwise (ZrW ops.toList ms)→(∀p∈l,∀e∈p.2.after.toList,Region.binds .any e=true→e.on<m∧e.on≠p.1) →
  ∀{listed:Array Bool},listed.size=ops.size→(∀k,k<ops.size→(listed.getD k false=true↔k<m∧∀p∈l,p.1≠k))→(∀j,j<m→(∀p∈l,p.1≠j)→∀p∈l,anc ms p.1 j=false) →
  ∀{ctx:List Ld} {e:Env} {σ:St} {w:World} {a:Act} {f:Frame},SRel G e σ w→FRel G e σ w f a.tmps→Later e0 σ0 w0 e σ w→a.tmps.size=N→Marks ds e σ w a.defers→Z a.tmps→Uu C ops.toList ms Q l ctx f σ →
  wpAnyIn (fw ro) n G.P .any ops QQ (k+t) listed a w
 | 0,l,hl,hlm,hget,hp,hed,listed,hsz,hli,hdown,ctx,e,σ,w,a,f,hS,hF,hL,hN,hds,hZ,h=>by
  have hl0:l=[]:=SD.1 hl
  subst hl0
  rw [Sm]
  exact hend listed a w hsz (fun k hk=>by rw [hli k hk];simp) ⟨.normal,f,e,σ,h,rfl,hS,hF,hL,hN,hds,hZ⟩
 | k+1,l,hl,hlm,hget,hp,hed,listed,hsz,hli,hdown,ctx,e,σ,w,a,f,hS,hF,hL,hN,hds,hZ,h=>by
  have hgd:∀i b,i<ops.size→listed.getD i b=listed.getD i false:=fun i b hi=>by
   exact m78
  rw [show k+1+t=(k+t)+1 by omega]
  refine ⟨fun hr=>?_,fun i hi=>?_⟩
  ·cases l with
   | nil=>simp at hl
   | cons x l =>
    exfalso
    have hx:=hget x (by simp)
    have hlt:=(Tq.1 hx).1
    have:x.1∈Region.ready .any ops listed:=by
     refine mem_ready.2 ⟨?_,x.2,hx,fun ed hed' hb=>?_⟩
     ·rw [hgd _ _ hlt]
      cases hv:listed.getD x.1 false with
      | false=>rfl
      | true=>exact absurd rfl (((hli x.1 hlt).1 hv).2 x (by simp))
     ·have h1:=hed x (by simp) ed (TO.1 hed') hb
      refine (hli ed.on (by omega)).2 ⟨h1.1,fun p hp'=>?_⟩
      exact m119
    rw [hr] at this;cases this
  ·obtain ⟨h1,o,ho,hall⟩:=mem_ready.1 hi
   have hlt:=(Tq.1 ho).1
   rw [hgd _ _ hlt] at h1
   have him:i<m:=by
    apply Classical.byContradiction
    intro hge
    rcases htail i o (by omega) ho with h2 | ⟨ed,he,hb,hge,hlt2⟩
    ·cases l with
     | nil=>simp at hl
     | cons x l =>
      obtain ⟨ed,he,hb,hon⟩:=h2 x.1 (hlm x (by simp))
      have h3:=hall ed he hb
      rw [hon] at h3
      exact ((hli x.1 (by have:=hlm x (by simp);omega)).1 h3).2 x (by simp) rfl
    ·have:=((hli ed.on hlt2).1 (hall ed he hb)).1
     omega
   have hmem:∃p∈l,p.1=i:=by
    apply Classical.byContradiction
    intro hno
    have:=(hli i hlt).2 ⟨him,fun p hp e=>hno ⟨p,hp,e⟩⟩
    rw [h1] at this;cases this
   obtain ⟨p,hpl,rfl⟩:=hmem
   have hpo:p.2=o:=by have:=hget p hpl;rw [ho] at this;exact (Option.some.inj this).symm
   obtain ⟨pre,post,rfl⟩:=List.append_of_mem hpl
   obtain ⟨i,o'⟩:=p
   dsimp only at hpo ho hlt h1 hi
   subst hpo
   have hpw:=List.pairwise_append.1 hp
   have hpost:=(List.pairwise_cons.1 hpw.2.1)
   have hnotanc:∀x∈pre++(i,o')::post,anc ms x.1 i=false:=fun x hx=>by
    cases hax:anc ms x.1 i with
    | false=>rfl
    | true =>
     exfalso
     unfold anc at hax
     rw [hms i o' him ho] at hax
     rcases UA hax with h2 | ⟨ed,hed',hb,h2⟩
     ·simp at h2
     ·have hlst:=hall ed (TO.2 hed') hb
      have hne:=((hli ed.on (by have:=(hed _ hpl ed hed' hb).1;omega)).1 hlst).2
      rcases h2 with h2 | h2
      ·exact hne x hx h2.symm
      ·rw [hdown ed.on (hed _ hpl ed hed' hb).1 hne x hx] at h2;cases h2
   have hfront:=Zkm hM pre (fun x hx=>by
    have hA:=hpw.2.2 x hx (i,o') (by simp)
    have hna:=hnotanc x (by simp [hx])
    rcases hA.2.2 with h2 | h2
    ·rw [hna] at h2;cases h2
    ·exact ⟨h2.1,h2.2,hna⟩) ctx f σ h
   have hstep:=Jb (ro:=ro) (n:=n) hC hS hF hL hN hds hZ (ops:=ops) (hd o' (Sg ho)) hfront
   have hne':∀x∈pre++post,x.1≠i:=fun x hx=>by
    exact m140
   have hsub:∀x,x∈pre++post→x∈pre++(i,o')::post:=fun x hx=>by
    rcases TX.1 hx with hx | hx <;> simp [hx]
   have next:∀a' w',KRel G e0 σ0 w0 ds N Z (fun f' σ'=>∃c,Uu C ops.toList ms Q (pre++post) c f' σ') a' w'→wpAnyIn (fw ro) n G.P .any ops QQ (k+t) (listed.setIfInBounds i true) a' w':=fun a' w' ⟨f',e',σ',⟨c,hk1⟩,h2,h3,h4,h5,h6,h7⟩=>by
    refine Zgn hC hM hd hms hm htail hQQ hend k (pre++post) (by simp at hl ⊢;omega) (fun x hx=>hlm x (hsub x hx)) (fun x hx=>hget x (hsub x hx)) (List.pairwise_append.2 ⟨hpw.1,hpost.2,fun x hx y hy=>hpw.2.2 x hx y (Tp _ hy)⟩)
     (fun x hx=>hed x (hsub x hx)) (by simpa using hsz) (fun k hk=>?_) (fun j hjm hj x hx=>?_) h2 h3 h4 h5 h6 h7 hk1
    ·by_cases hki:k=i
     ·subst hki
      have hlt':k<listed.size:=by rw [hsz];exact hlt
      have:(listed.setIfInBounds k true).getD k false=true:=by simp [Array.getD,hlt']
      simp only [this,true_iff]
      exact ⟨him,hne'⟩
     ·have:(listed.setIfInBounds i true).getD k false=listed.getD k false:=getD_set_ne false (Ne.symm hki)
      rw [this,hli k hk]
      constructor
      ·exact fun hh=>⟨hh.1,fun x hx=>hh.2 x (hsub x hx)⟩
      ·intro hh
       refine ⟨hh.1,fun x hx=>?_⟩
       rcases TX.1 hx with hx | hx
       ·exact hh.2 x (by simp [hx])
       ·rcases Tv.1 hx with rfl | hx
        ·exact fun e=>hki e.symm
        ·exact hh.2 x (by simp [hx])
    ·by_cases hji:j=i
     ·subst hji;exact hnotanc x (hsub x hx)
     ·refine hdown j hjm (fun y hy=>?_) x (hsub x hx)
      exact m115
   have hK:∀a' w',KRel G e0 σ0 w0 ds N Z (fun f' σ'=>match X7 o'.op with | true=>ZrS ms i σ.bx σ'.bx ctx (Uu C ops.toList ms Q (pre++post) ctx f' σ') | false=>Uu C ops.toList ms Q (pre++post) (U7 C.T o' i f ctx) f' σ') a' w' →
     KRel G e0 σ0 w0 ds N Z (fun f' σ'=>∃c,Uu C ops.toList ms Q (pre++post) c f' σ') a' w':=fun a' w' ⟨f',e',σ',hk,hrest⟩=>by
    refine ⟨f',e',σ',?_,hrest⟩
    cases hE:X7 o'.op with
    | true=>rw [hE] at hk;exact ⟨_,(chkL_iff.1 hk).2⟩
    | false=>rw [hE] at hk;exact ⟨_,hk⟩
   unfold wpOpIn
   rw [ho]
   dsimp only
   split at hstep
   ·rename_i hw
    rw [Th hw]
    exact ZEo hQQ (Oper.wpIn_mono (fun a w h=>next a w (hK a w h)) hstep)
   ·rename_i hw
    rw [Te hw]
    exact ⟨fun _ _=>trivial,next _ _ (hK _ _ hstep)⟩
end
def Zbg (o:Oper):Bool:=match o.guard with | none=>true | _=>false
def Zer (x:Operand) (ds:List Nat):Bool:=match x with | .tmp t=>!(ZjX t ds) | _=>true
def Zne (x:Operand) (d:Nat):Bool:=match x with | .tmp t=>Nat.beq t d | _=>false
def JQ (m:Nat) (l:List Edge):Bool:=l.all fun ed=>!(Region.binds .any ed) || Nat.ble ed.on m
def Zbh (m:Nat) (l:List Edge):Bool:=l.any fun ed=>Region.binds .any ed && Nat.beq ed.on m
def ZlQ:Nat→List Edge→Bool
 | 0,_=>true
 | n+1,l=>Zbh n l && ZlQ n l
structure HoleD where
 s:Operand
 z:Operand
 t:Nat
 tx:Nat
 ti:Nat
 ix:Operand
 ts:Nat
 x:Operand
 sf:Nat
 xf:Operand
 kf:Nat
 th:Nat
 da:Nat
 di:Nat
 df:Nat
def Znf (h:Hole):Option HoleD:=match h.A.op,h.I.op,h.S.op,h.F.op,h.H.op with
 | .call { callee:=.builtin .append,args,argTypes },.indexAddr ti xi ix,.store ts xs x,.fieldAddr sf xf kf,.store th xh yh=>match argTypes.toList,args.toList,h.A.dst,h.I.dst,h.F.dst,h.S.dst,h.H.dst with
  | [t,tx],[s,z],some da,some di,some df,none,none =>
   match Zne xi da && Nat.beq ti t && Zne xs di && Zne xh df && Zne yh da && Zer ix [da,di,df] && Zer x [da,di,df] && Zer xf [da,di,df] && !(Nat.beq da di) && !(Nat.beq da df) && !(Nat.beq di df) with
   | true=>some ⟨s,z,t,tx,ti,ix,ts,x,sf,xf,kf,th,da,di,df⟩
   | false=>none
  | _,_,_,_,_,_,_=>none
 | _,_,_,_,_=>none
def Zo7 (ops:List Oper) (h:Hole):Bool :=
 let m:=h.pre.length
 let ms:=Us ops []
 let cs:=Jw m (ZS 0 h.pre)
 (match Znf h with | some _=>true | none=>false) && Zbg h.A && Zbg h.I && Zbg h.S && Zbg h.F && Zbg h.H &&
 JQ m h.I.after.toList && JQ m h.F.after.toList && JQ (m+1) h.S.after.toList && (h.H.after.toList.all fun ed=>!(Region.binds .any ed) || (Nat.ble ed.on m || Nat.beq ed.on (m+3))) &&
 Zbh (m+1) h.S.after.toList && Zbh (m+3) h.H.after.toList && Zbh m h.I.after.toList && Zbh m h.F.after.toList && ZlQ m h.A.after.toList && (match m with | 0=>true | k+1=>JQ k h.A.after.toList) && Nat.ble 1 m &&
 Nat.beq cs.length m && ZiA ops ms m cs && ZiB cs m && ZcD ms cs
theorem Zko {ops:Array Oper} {h:Hole} (hh:Zis ops.toList=some h):ops.toList=h.pre++[h.A,h.I,h.S,h.F,h.H]:=by
 unfold Zis at hh
 split at hh
 ·rename_i H F S I A pre hr
  split at hh
  ·cases hh
   have:ops.toList=(H::F::S::I::A::pre).reverse:=by rw [← hr,List.reverse_reverse]
   rw [this];simp
  ·cases hh
 ·cases hh
theorem ZcF {h:Hole} {d:HoleD} (hd:Znf h=some d):∃(args:Array Operand) (at':Array Nat),args.toList=[d.s,d.z]∧at'.toList=[d.t,d.tx]∧h.A.op=.call { callee:=.builtin .append,args:=args,argTypes:=at' } ∧
  h.I.op=.indexAddr d.t (.tmp d.da) d.ix∧h.S.op=.store d.ts (.tmp d.di) d.x∧h.F.op=.fieldAddr d.sf d.xf d.kf∧h.H.op=.store d.th (.tmp d.df) (.tmp d.da) ∧
  h.A.dst=some d.da∧h.I.dst=some d.di∧h.F.dst=some d.df∧h.S.dst=none∧h.H.dst=none∧Zer d.ix [d.da,d.di,d.df]=true∧Zer d.x [d.da,d.di,d.df]=true∧Zer d.xf [d.da,d.di,d.df]=true∧d.da≠d.di∧d.da≠d.df∧d.di≠d.df:=by
 have tmp:∀{x:Operand} {d:Nat},Zne x d=true→x=.tmp d:=fun {x d} h=>by
  unfold Zne at h
  split at h
  ·rw [Tn h]
  ·cases h
 have ne:∀{a b:Nat},(!(Nat.beq a b))=true→a≠b:=fun {a b} h e=>by subst e;simp at h
 unfold Znf at hd
 split at hd
 ·rename_i args at' ti xi ix ts xs x sf xf kf th xh yh h1 h2 h3 h4 h5
  split at hd
  ·rename_i t tx s z da di df g1 g2 g3 g4 g5 g6 g7
   split at hd
   ·rename_i hb
    cases hd
    simp only [Tj] at hb
    obtain ⟨⟨⟨⟨⟨⟨⟨⟨⟨⟨b1,b2⟩,b3⟩,b4⟩,b5⟩,b6⟩,b7⟩,b8⟩,b9⟩,b10⟩,b11⟩:=hb
    have:=tmp b1;subst this
    have:=Tn b2;subst this
    have:=tmp b3;subst this
    have:=tmp b4;subst this
    have:=tmp b5;subst this
    exact ⟨args,at',g2,g1,h1,h2,h3,h4,h5,g3,g4,g5,g6,g7,b6,b7,b8,ne b9,ne b10,ne b11⟩
   ·cases hd
  ·cases hd
 ·cases hd
theorem ZiE (w:World) {b1 b2:Nat} (h:b1≠b2) (o1 o2:Nat) (v1 v2:Value):(w.setCell ⟨b1,o1,none⟩ v1).setCell ⟨b2,o2,none⟩ v2=(w.setCell ⟨b2,o2,none⟩ v2).setCell ⟨b1,o1,none⟩ v1:=by
 unfold World.setCell
 simp only [World.mk.injEq,and_self,and_true,true_and]
 apply Array.ext_getElem?
 intro i
 simp only [Array.getElem?_modify]
 by_cases h1:b1=i
 ·subst h1;simp [Ne.symm h]
 ·by_cases h2:b2=i
  ·subst h2;simp [h]
  ·simp [h1,h2]
theorem WP {b1 b2:Nat} (h:b1≠b2) (o1:Nat) (v1:Value):∀(l:List Value) (o2:Nat) (w:World),(w.setCell ⟨b1,o1,none⟩ v1).setCells b2 o2 l=(w.setCells b2 o2 l).setCell ⟨b1,o1,none⟩ v1
 | [],_,_=>rfl
 | v::l,o2,w=>by
  rw [World.setCells,World.setCells,ZiE w h,WP h o1 v1 l]
theorem ZbR {b1 b2:Nat} (h:b1≠b2):∀(l1:List Value) (o1:Nat) (l2:List Value) (o2:Nat) (w:World),(w.setCells b1 o1 l1).setCells b2 o2 l2=(w.setCells b2 o2 l2).setCells b1 o1 l1
 | [],_,_,_,_=>rfl
 | v::l1,o1,l2,o2,w=>by
  rw [World.setCells,World.setCells,ZbR h l1,WP h]
section
variable {G:GE} {T:Tab} {e:Env} {σ:St} {w:World}
theorem Jd (hT:TabOK T G.P) {t:Nat} (hk:(T.get t).kind≠.other) {v:Value} {b off:Nat} (hlen:v.cells.size=(T.get t).size) (hc:∀j,j<v.cells.toList.length→(w.cell? ⟨b,off+j,none⟩).isSome=true)
  (hf:∀j,j<v.cells.toList.length→w.frozen? ⟨b,off+j,none⟩=false) (hone:∀u∈v.cells.toList,u.oneCell'=true) {ρ':Operand→Value} {o:Oper} {p x:Operand} (ho:o.op=.store t p x) (hp:ρ' p=.pointer (some ⟨b,off,none⟩)) (hx:ρ' x=v) :
  (execOp ρ' o).run G.P w=.ok .skip (w.setCells b off v.cells.toList):=by
 obtain ⟨i,d,z,hi,hd,hs,hby,hkd,hz,hz2,_⟩:=(hT.get hk).ex
 have hrun:=run_storeCells_cells (P:=G.P) b off v.cells.toList 0 w (by simpa using hc) (by simpa using hf) hone
 simp only [SH] at hrun
 have:(Instr.storeAt t (.pointer (some ⟨b,off,none⟩)) v).run G.P w=.ok () (w.setCells b off v.cells.toList):=by
  have h1':v.cells.size=i.size:=by rw [hlen,hs]
  exact m68
 unfold execOp
 simp only [ho,hp,hx,Sem.run_bind,this,Result.andThen,Sem.run_pure]
theorem Zkp (hT:TabOK T G.P) {s i off t:Nat} {fs:List (Nat×Nat)} (hk:(T.get s).kind=.struct fs) (hfi:fs[i]?=some (off,t)) {ρ':Operand→Value} {o:Oper} {x:Operand} (ho:o.op=.fieldAddr s x i) {b oo:Nat} (hv:ρ' x=.pointer (some ⟨b,oo,none⟩)) (w:World) :
  (execOp ρ' o).run G.P w=.ok (.value (.pointer (some ⟨b,oo+off,none⟩))) w:=by
 obtain ⟨ti,d,z,hi,hd,hs,hby,hkd,hz,hz2,_⟩:=(hT.get (t:=s) (by rw [hk];simp)).ex
 rw [hk] at hkd
 obtain ⟨gs,rfl,hf⟩:=hkd
 obtain ⟨f,j,hg,ho',ht,hj,hjs⟩:=hf.get hfi
 have hg':gs[i]?=some f:=by simpa using hg
 have hfp:(fieldPlace ⟨b,oo,none⟩ f).run G.P w=.ok ⟨b,oo+off,none⟩ w:=by
  exact m124
 unfold execOp
 simp [ho,hv,Instr.fieldAt,Zb hd,hg',Instr.sureAddr,hfp]
theorem Zkq (hT:TabOK T G.P) {t el:Nat} (hk:(T.get t).kind=.slice el) (hk2:(T.get el).kind≠.other) {ρ':Operand→Value} {o:Oper} {x i:Operand} (ho:o.op=.indexAddr t x i) {b off n cap:Nat} {k:IntKind} {m:Int} (hv:ρ' x=.slice (some ⟨b,off,none⟩) n cap)
  (hi:ρ' i=.int k m) (h0:0≤m) (hn:m<n) (w:World):(execOp ρ' o).run G.P w=.ok (.value (.pointer (some ⟨b,off+m.toNat * (T.get el).size,none⟩))) w:=by
 obtain ⟨ti,d,z,hti,hd,hs,hby,hkd,hz,hz2,_⟩:=(hT.get (t:=t) (by rw [hk];simp)).ex
 rw [hk] at hkd;cases hkd
 obtain ⟨i2,d2,z2,hi2,hd2,hs2,_,hkd2,_,_,_⟩:=(hT.get hk2).ex
 unfold execOp
 simp [ho,hv,hi,Instr.indexAt,WN,Zb hd,h0,hn,Zt hi2,YB,hs2]
theorem ZrY {x:PV} {v:Value} {row:List D} (hx:VRel G e σ w x v) (hr:Zj6 x=some row):Flat (okc e σ) w [row] row.length v.cells.toList∧∀u∈v.cells.toList,u.oneCell'=true:=by
 unfold Zj6 at hr
 split at hr
 ·rename_i l hl
  obtain ⟨hc1,hc2⟩:=Ux hx hl
  obtain ⟨hd1,hd2⟩:=ZbM (ok:=okc e σ) hr
  refine ⟨⟨by simp [hc1,hd1],fun r hr=>by simp at hr;rw [hr],fun a b y u hb hy hu=>?_⟩,fun u hu=>?_⟩
  ·cases a with
   | zero =>
    simp only [List.getElem?_cons_zero,Option.bind_some] at hy
    simp only [Nat.zero_mul,Sm,Tx] at hu
    have h1:b<l.length:=by omega
    exact U9 (hd2 b l[b] y (Tk h1) hy) (hc2 b l[b] u (Tk h1) hu).1
   | succ a=>simp at hy
  ·obtain ⟨j,hj,rfl⟩:=T8 hu
   have h1:j<l.length:=by simp [hc1] at hj;exact hj
   exact (hc2 j l[j] _ (Tk h1) (by rw [← Tx,Tk hj])).2
 ·cases hr
end
theorem ZiF {t:Nat}:∀{l:List Nat},t∉l→ZbK t l=l
 | [],_=>rfl
 | x::l,h=>by
  have h1:x≠t:=fun e=>h (by simp [e])
  have h2:=ZiF (t:=t) (l:=l) (fun hm=>h (by simp [hm]))
  unfold ZbK
  split
  ·rename_i hb;exact absurd (Tn hb) h1
  ·rw [h2]
theorem Zng {T:Tab} {h:Hole} {d:HoleD} {f:Frame} {σ:St} {K:Frame→St→Prop} (hd:Znf h=some d) (hA:Zur T h f σ K) :
  ∃el rows zr row k tk0,(T.get d.t).kind=.slice el∧(T.get el).kind≠.other∧1≤(T.get el).size∧d.ts=el∧U6 T d.tx el (ev f d.z)=some [zr]∧Zj6 (ev f d.x)=some row∧ev f d.ix=.d (.int k (rows.length:Nat)) ∧
   zr.length=(T.get el).size∧row.length=(T.get el).size∧(rows.length+1) * (T.get el).bytes≤2 ^ 47∧rows.length+1≤2 ^ 47 ∧
   ((∃e2,ev f d.s=.nils e2∧rows=[]∧tk0=σ.tk)∨∃tok,ev f d.s=.sl tok el rows∧tok∈σ.tk∧tk0=ZbK tok σ.tk) ∧
   K (YK (YK f (some d.da) (.sl (σ.nx+1) el (rows++[row]))) (some d.di) .undef) ⟨σ.bx,(σ.nx+1)::tk0,σ.nx+2⟩:=by
 obtain ⟨args,at',a1,a2,a3,a4,a5,a6,a7,a8,a9,_⟩:=ZcF hd
 unfold Zur at hA
 simp only [a3,a4,a5,a1,a2,a8,a9,Wv,Y3] at hA
 split at hA
 ·rename_i el hk
  split at hA
  ·exact hA.elim
  ·rename_i hk2
   split at hA
   ·rename_i zr row k n h1 h2 h3 h4 h5
    split at hA
    ·rename_i h6 h7
     have e1:=Tb h1
     have e2:=Tn h2
     have e6:=Tn h6
     have e7:=Tn h7
     split at hA
     ·rename_i e0 hs
      obtain ⟨rfl,hb,hK⟩:=hA
      exact ⟨el,[],zr,row,k,σ.tk,hk,fun h0=>hk2 h0,e1,e2,h3,h4,h5,e6,e7,hb,by simp,.inl ⟨e0,hs,rfl,rfl⟩,hK⟩
     ·rename_i tok e0 rows hs
      split at hA
      ·rename_i g1 g2
       have:=Tn g2
       subst this
       obtain ⟨rfl,hb,hb2,hK⟩:=hA
       exact ⟨e0,rows,zr,row,k,ZbK tok σ.tk,hk,fun h0=>hk2 h0,e1,e2,h3,h4,h5,e6,e7,hb,hb2,.inr ⟨tok,hs,(Y7 _ _).1 g1,rfl⟩,hK⟩
      ·exact hA.elim
     ·exact hA.elim
    ·exact hA.elim
   ·exact hA.elim
 ·exact hA.elim
section
theorem UB {x:Operand} {ds:List Nat} (h:Zer x ds=true) {a:Act} {d:Nat} (hd:d∈ds) (v:Value):(a.put (some d) v).eval x=a.eval x:=by
 cases x with
 | tmp t =>
  have:d≠t:=fun e=>by
   subst e
   simp only [Zer,TZ] at h
   rw [(Y7 _ _).2 hd] at h;cases h
  simp [Act.put,Act.eval,Array.getD_eq_getD_getElem?,T5,this]
 | _=>rfl
theorem ZlR {x:Operand} {ds:List Nat} (h:Zer x ds=true) {f:Frame} {d:Nat} (hd:d∈ds) (v:PV):ev (YK f (some d) v) x=ev f x:=by
 cases x with
 | tmp t =>
  have:d≠t:=fun e=>by
   subst e
   simp only [Zer,TZ] at h
   rw [(Y7 _ _).2 hd] at h;cases h
  exact X8 f v this
 | _=>rfl
theorem Zdl {a:Act} {d:Nat} (h:d<a.tmps.size) (v:Value):(a.put (some d) v).eval (.tmp d)=v:=by
 simp [Act.put,Act.eval,T5,h]
theorem Zes {a:Act} {d k:Nat} (h:d≠k) (v:Value):(a.put (some d) v).eval (.tmp k)=a.eval (.tmp k):=by
 simp [Act.put,Act.eval,Array.getD_eq_getD_getElem?,T5,h]
theorem ZrZ {a:Act} {d k:Nat} (h:d≠k) (v u:Value):(a.put (some d) v).put (some k) u=(a.put (some k) u).put (some d) v:=by
 simp only [Act.put,Act.mk.injEq,and_true]
 apply Array.ext_getElem?
 intro i
 simp only [T5,Array.size_setIfInBounds]
 by_cases h1:d=i
 ·subst h1;simp [Ne.symm h]
 ·by_cases h2:k=i
  ·subst h2;simp [h]
  ·simp [h1,h2]
def ZB6 (a:Act) (di df:Nat) (vI vF:Value) (i f:Bool):Act :=
 let b:=match i with | true=>a.put (some di) vI | false=>a
 match f with | true=>b.put (some df) vF | false=>b
variable {G:GE} {C:Cx} {e0:Env} {σ0:St} {w0:World} {Q:PQ} {ro:Option Nat} {n:Nat} {ds:Nat×List Deferred×Bool} {N:Nat} {Z:Array Value→Prop}
theorem Zr0 (hC:CxOK G C ro e0 σ0 w0) {ops:Array Oper} (hd:∀o,o∈ops→∀d,o.dst=some d→d<N∧∀t v,Z t→Z (t.setIfInBounds d v)) {h:Hole} {D:HoleD} (hD:Znf h=some D) {m:Nat} (h4:Hole4 ops m h.I h.S h.F h.H) (oA:ops[m]?=some h.A) (gA:h.A.guard=none)
  (eA:∀ed∈h.A.after,Region.binds .any ed=true→ed.on<m) (eIA:∃ed∈h.I.after,Region.binds .any ed=true∧ed.on=m) (eFA:∃ed∈h.F.after,Region.binds .any ed=true∧ed.on=m)
  {listed:Array Bool} {a:Act} {w:World} (hsz:listed.size=ops.size) (hli:∀k,k<ops.size→(listed.getD k false=true↔k<m)) (hp:Z9 G e0 σ0 w0 ds N Z (Zus C ops.toList h Q) .normal a w) :
  wpAnyIn (fw ro) n G.P .any ops (Z9 G e0 σ0 w0 ds N Z Q) 5 listed a w:=by
 have hT:=hC.tab
 have hsz4:=h4.size
 obtain ⟨pe,f,e,σ,hq,hx,hS,hF,hL,hN,hds,hZ⟩:=hp
 cases pe with
 | exit i=>cases hx
 | goto i=>cases hx
 | ret=>cases hx
 | panic p=>obtain ⟨_,hx,_⟩:=hx;cases hx
 | normal =>
 obtain ⟨args,at',a1,a2,a3,a4,a5,a6,a7,a8,a9,a10,a11,a12,b1,b2,b3,n1,n2,n3⟩:=ZcF hD
 obtain ⟨el,rows,zr,row,kk,tk0,c1,c2,c3,c4,c5,c6,c7,c8,c9,c10,c11,c12,hK⟩:=Zng hD hq
 have hdl:∀(j:Nat) (o:Oper) (d:Nat),ops[j]?=some o→o.dst=some d→d<N:=fun j o d ho hdd=>(hd o (Sg ho) d hdd).1
 have hdz:∀(j:Nat) (o:Oper) (d:Nat),ops[j]?=some o→o.dst=some d→∀t v,Z t→Z (t.setIfInBounds d v):=fun j o d ho hdd=>(hd o (Sg ho) d hdd).2
 have dA:=hdl m _ _ oA a8
 have dI:=hdl _ _ _ h4.oI a9
 have dF:=hdl _ _ _ h4.oF a10
 have hρ:∀x,VRel G e σ w (ev f x) (a.eval x):=fun x=>ZaP hF x
 obtain ⟨hDR,hO,hsub,htk0⟩:DRel (okc e σ) w (.sl rows) (a.eval D.s)∧((a.eval D.s=.slice none 0 0∧rows=[])∨∃tok,tok∈σ.tk∧tok∉tk0∧Owned G e w tok el rows (a.eval D.s))∧(∀x,x∈tk0→x∈σ.tk)∧True:=by
  have hs:=hρ D.s
  rcases c12 with ⟨e2,h1,rfl,rfl⟩ | ⟨tok,h1,h2,rfl⟩
  ·rw [h1] at hs
   generalize a.eval D.s=v at hs
   cases hs with
   | nils _=>exact ⟨.slnil,.inl ⟨rfl,rfl⟩,fun _ h=>h,trivial⟩
  ·rw [h1] at hs
   generalize a.eval D.s=v at hs
   cases hs with
   | sl _ _ _ _ hn hd ht=>exact ⟨hd,.inr ⟨tok,h2,fun hm=>((V3 _ _ _).1 hm).2 rfl,ht h2⟩,fun x hx=>((V3 _ _ _).1 hx).1,trivial⟩
 obtain ⟨w1,bb,off,cap,e1,hrunA,hcap,st1,S1,V1⟩:=Zkn (ty:=h.A.type) hT hS c1 c2 c3 hDR tk0 hsub hO c5 (hρ D.z) c8 c10 c11
 have hxv1:VRel G e1 _ w1 (ev f D.x) (a.eval D.x):=(hρ D.x).step st1
 obtain ⟨hfl,hone⟩:=ZrY hxv1 c6
 rw [c9] at hfl
 obtain ⟨q1,q2,q3,e2,st2,S2,V2⟩:=Zo6 hT S1 c2 c3 V1 (by simp) hcap hfl
 have hKF:=hK
 rw [Wa] at hKF
 simp only [X1,h4.gF] at hKF
 unfold Uq at hKF
 simp only [a6,X7,Zip,Zm3,qop,Y3] at hKF
 rw [ZlR b3 (by simp),ZlR b3 (by simp)] at hKF
 split at hKF
 rotate_left
 ·exact hKF.elim
 rename_i fs hks
 split at hKF
 rotate_left
 ·exact hKF.elim
 rename_i fo ft hfs
 split at hKF
 rotate_left
 ·rename_i r oo heq
  rw [Wa] at hKF
  simp only [X1,h4.gH] at hKF
  unfold Uq at hKF
  simp only [a7,X7,eop,a10] at hKF
  have:ev (YK (YK (YK f (some D.da) (.sl (σ.nx+1) el (rows++[row]))) (some D.di) .undef) (some D.df) (.elem r (oo+fo))) (.tmp D.df)=.elem r (oo+fo):=YV _ _ _
  rw [this] at hKF
  exact hKF.elim
 ·exact hKF.elim
 rename_i b oo heqF
 rw [Wa] at hKF
 simp only [X1,h4.gH] at hKF
 unfold Uq at hKF
 simp only [a7,X7,eop,a10,Wv,Y3] at hKF
 generalize hf4:YK (YK (YK f (some D.da) (.sl (σ.nx+1) el (rows++[row]))) (some D.di) .undef) (some D.df) (.ptr b (oo+fo))=f4 at hKF
 have k1:ev f4 (.tmp D.df)=.ptr b (oo+fo):=by rw [← hf4];exact YV _ _ _
 have k2:ev f4 (.tmp D.da)=.sl (σ.nx+1) el (rows++[row]):=by
  rw [← hf4]
  show ZaM (ZaM (ZaM f D.da _) D.di _) D.df _ D.da=_
  rw [X8 _ _ (Ne.symm n2),X8 _ _ (Ne.symm n1),YV]
 rw [k1,k2] at hKF
 simp only [PV.cells] at hKF
 split at hKF
 rotate_left
 ·exact hKF.elim
 rename_i ty cs hbx
 split at hKF
 ·exact hKF.elim
 rotate_left
 ·exact hKF.elim
 rename_i l1 l2 l3
 rw [a12] at hKF
 have hth:(C.T.get D.th).size=1:=(Tn l1).symm
 have hfit:oo+fo+1≤cs.length:=Tb l2
 have hxf:=hρ D.xf
 rw [heqF] at hxf
 generalize hvx:a.eval D.xf=vx at hxf
 cases hxf with
 | ptr _ _ hbl =>
 have hβ1:e1.β b=e.β b:=st1.beta b hbl
 have hbb:e.β b≠bb:=by rw [← hβ1];exact q3 b hbl
 obtain ⟨vs,hv1,hv2,_⟩:=S1.box b _ hbx
 rw [hβ1] at hv1
 let v':Value:=.slice (some ⟨bb,off,none⟩) (rows.length+1) cap
 let oS:=off+rows.length * (C.T.get el).size
 let us:=(a.eval D.x).cells.toList
 let vI:Value:=.pointer (some ⟨bb,oS,none⟩)
 let vF:Value:=.pointer (some ⟨e.β b,oo+fo,none⟩)
 let WW:Bool→Bool→World:=fun s g =>
  let u:=match s with | true=>w1.setCells bb oS us | false=>w1
  match g with | true=>u.setCells (e.β b) (oo+fo) [v'] | false=>u
 have hNA:D.da<a.tmps.size:=by rw [hN];exact dA
 have hNI:∀v:Value,D.di<(a.put (some D.da) v).tmps.size:=fun v=>by rw [Y9,hN];exact dI
 let A0:=a.put (some D.da) v'
 let AA:=ZB6 A0 D.di D.df vI vF
 have evA:∀i g,(AA i g).eval (.tmp D.da)=v':=fun i g=>by
  cases i <;> cases g
  ·exact Zdl hNA v'
  ·exact (Zes (Ne.symm n2) vF).trans (Zdl hNA v')
  ·exact (Zes (Ne.symm n1) vI).trans (Zdl hNA v')
  ·exact (Zes (Ne.symm n2) vF).trans ((Zes (Ne.symm n1) vI).trans (Zdl hNA v'))
 have evX:∀x,Zer x [D.da,D.di,D.df]=true→∀i g,(AA i g).eval x=a.eval x:=fun x hx i g=>by
  have h1:=UB hx (a:=a) (d:=D.da) (by simp) v'
  cases i <;> cases g
  ·exact h1
  ·exact (UB hx (d:=D.df) (by simp) vF).trans h1
  ·exact (UB hx (d:=D.di) (by simp) vI).trans h1
  ·exact (UB hx (d:=D.df) (by simp) vF).trans ((UB hx (d:=D.di) (by simp) vI).trans h1)
 have evI:∀g,(AA true g).eval (.tmp D.di)=vI:=fun g=>by
  cases g
  ·exact Zdl (hNI v') vI
  ·exact (Zes (Ne.symm n3) vF).trans (Zdl (hNI v') vI)
 have evF:∀i,(AA i true).eval (.tmp D.df)=vF:=fun i=>by
  cases i
  ·exact Zdl (by rw [Y9,hN];exact dF) vF
  ·exact Zdl (by rw [Y9,Y9,hN];exact dF) vF
 have hixv:a.eval D.ix=.int kk (rows.length:Nat):=by
  have:=hρ D.ix
  rw [c7] at this
  exact this.dint
 have huw:∀(u:World),(∀k,k≠e.β b→u.heap[k]?=w1.heap[k]?)→(∀j,j<us.length→(u.cell? ⟨bb,oS+j,none⟩).isSome=true)∧(∀j,j<us.length→u.frozen? ⟨bb,oS+j,none⟩=false):=fun u hu=>by
  have h1:=hu bb (Ne.symm hbb)
  exact ⟨fun j hj=>by have:=q1 j hj;simpa [World.cell?,h1] using this,fun j hj=>by have:=q2 j hj;simpa [World.frozen?,h1] using this⟩
 have hfw:∀(u:World),(∀k,k≠bb→u.heap[k]?=w1.heap[k]?)→(∀j,j<v'.cells.toList.length→(u.cell? ⟨e.β b,oo+fo+j,none⟩).isSome=true)∧(∀j,j<v'.cells.toList.length→u.frozen? ⟨e.β b,oo+fo+j,none⟩=false):=fun u hu=>by
  have h1:=(hu (e.β b) hbb).trans hv1
  refine ⟨fun j hj=>?_,fun j hj=>by simp [World.frozen?,h1]⟩
  have:j<1:=hj
  have:oo+fo+j<vs.size:=by omega
  simp [World.cell?,h1,this]
 have hr1:=(Xs bb us oS w1).2.2.2
 have hr2:=(Xs (e.β b) [v'] (oo+fo) w1).2.2.2
 have rS:∀f' h',(h'=true→f'=true)→(execOp (AA true f').eval h.S).run G.P (WW false h')=.ok .skip (WW true h'):=fun f' h' _=>by
  have hx:(AA true f').eval D.x=a.eval D.x:=evX _ b2 _ _
  cases h' with
  | false =>
   obtain ⟨g1,g2⟩:=huw w1 (fun _ _=>rfl)
   exact Jd hT (by rw [c4];exact c2) (by rw [c4];simpa using hfl.len) g1 g2 hone a5 (evI f') hx
  | true =>
   obtain ⟨g1,g2⟩:=huw (WW false true) hr2
   have:=Jd (w:=WW false true) hT (by rw [c4];exact c2) (by rw [c4];simpa using hfl.len) g1 g2 hone a5 (evI f') hx
   rw [this]
   show Result.ok Next.skip ((w1.setCells (e.β b) (oo+fo) [v']).setCells bb oS us)=.ok .skip ((w1.setCells bb oS us).setCells (e.β b) (oo+fo) [v'])
   rw [ZbR hbb]
 have rH:∀i s,(s=true→i=true)→(execOp (AA i true).eval h.H).run G.P (WW s false)=.ok .skip (WW s true):=fun i s _=>by
  cases s with
  | false =>
   obtain ⟨g1,g2⟩:=hfw w1 (fun _ _=>rfl)
   exact Jd hT (fun h0=>l3 h0) (by rw [hth];rfl) g1 g2 (fun u hu=>by simp [v',Value.cells] at hu;subst hu;rfl) a7 (evF i) (evA i true)
  | true =>
   obtain ⟨g1,g2⟩:=hfw (WW true false) hr1
   exact Jd (w:=WW true false) hT (fun h0=>l3 h0) (by rw [hth];rfl) g1 g2 (fun u hu=>by simp [v',Value.cells] at hu;subst hu;rfl) a7 (evF i) (evA i true)
 have rI:∀f' h',(h'=true→f'=true)→(execOp (AA false f').eval h.I).run G.P (WW false h')=.ok (.value vI) (WW false h'):=fun f' h' _=>by
  have:=Zkq hT c1 c2 a4 (evA false f') ((evX _ b1 false f').trans hixv) (by omega) (by omega) (WW false h')
  rw [this]
  simp [vI,oS]
 have rF:∀i s,(s=true→i=true)→(execOp (AA i false).eval h.F).run G.P (WW s false)=.ok (.value vF) (WW s false):=fun i s _ =>
  Zkp hT hks hfs a6 ((evX _ b3 i false).trans hvx) (WW s false)
 have pI:∀f',(AA false f').put h.I.dst vI=AA true f':=fun f'=>by
  rw [a9]
  cases f'
  ·rfl
  ·exact ZrZ (Ne.symm n3) vF vI
 have pF:∀i,(AA i false).put h.F.dst vF=AA i true:=fun i=>by rw [a10];rfl
 have pS:∀f',(AA true f').put h.S.dst Go.undef=AA true f':=fun f'=>by rw [a11];rfl
 have pH:∀i,(AA i true).put h.H.dst Go.undef=AA i true:=fun i=>by rw [a12];rfl
 have hfin:Z9 G e0 σ0 w0 ds N Z Q .normal (AA true true) (WW true true):=by
  have hβ2:e2.β b=e.β b:=(st2.beta b (by exact hbl)).trans hβ1
  have F1:=(hF.step st1).step st2
  have F2:=FRel.put (a:=a) (d:=some D.da) F1 V2 (fun i hi=>by cases hi;exact hNA)
  have F3:=FRel.put (a:=a.put (some D.da) v') (d:=some D.di) F2 (.undef vI) (fun i hi=>by cases hi;exact hNI v')
  have F4:=FRel.put (a:=(a.put (some D.da) v').put (some D.di) vI) (d:=some D.df) (x:=.ptr b (oo+fo)) (v:=vF) F3 (by
   have:=VRel.ptr (G:=G) (e:=e2) (σ:=⟨σ.bx,(σ.nx+1)::ZbK σ.nx (σ.nx::tk0),σ.nx+1+1⟩) (w:=w1.setCells bb oS us) b (oo+fo) hbl
   rw [hβ2] at this
   exact this) (fun i hi=>by cases hi;rw [Y9,Y9,hN];exact dF)
  have htk:ZbK σ.nx (σ.nx::tk0)=tk0:=by
   have hnot:σ.nx∉tk0:=fun hm=>by have:=hS.tkn _ (hsub _ hm);omega
   unfold ZbK
   split
   ·exact ZiF hnot
   ·rename_i hb;simp at hb
  have hsq:(⟨σ.bx,(σ.nx+1)::ZbK σ.nx (σ.nx::tk0),σ.nx+1+1⟩:St)=⟨σ.bx,(σ.nx+1)::tk0,σ.nx+2⟩:=by rw [htk]
  obtain ⟨w4,hrun4,st4,S4⟩:=Zbb (x:=.sl (σ.nx+1) el (rows++[row])) (v:=v') (t:=D.th) hT S2 hbx V2 rfl (by rw [hth];rfl) hfit (fun h0=>l3 h0)
  have hw4:w4=WW true true:=by
   have h1:=rH true true (fun _=>rfl)
   unfold execOp at h1
   rw [hβ2] at hrun4
   have h2:(AA true true).eval (.tmp D.df)=.pointer (some ⟨e.β b,oo+fo,none⟩):=evF true
   have h3:(AA true true).eval (.tmp D.da)=v':=evA true true
   have hrun4':(Instr.storeAt D.th (.pointer (some ⟨e.β b,oo+fo,none⟩)) v').run G.P (WW true false)=.ok () w4:=hrun4
   simp only [a7,h2,h3,Sem.run_bind,hrun4',Result.andThen,Sem.run_pure] at h1
   cases h1;rfl
  subst hw4
  refine ⟨.normal,_,e2,_,hKF,rfl,by rw [← hsq];exact S4,?_,(((hL.trans st1.toLater).trans st2.toLater).trans (by rw [← hsq];exact st4.toLater)),?_,?_,?_⟩
  ·have F5:=F4.step st4
   rw [hsq] at F5
   rw [← hf4]
   exact F5
  ·show (((a.put (some D.da) v').put (some D.di) vI).put (some D.df) vF).tmps.size=N
   rw [Y9,Y9,Y9,hN]
  ·show Marks ds _ _ _ (((a.put (some D.da) v').put (some D.di) vI).put (some D.df) vF).defers
   rw [Ww,Ww,Ww,← hsq]
   exact ((hds.later st1.toLater).later st2.toLater).later st4.toLater
  ·exact hdz _ _ _ h4.oF a10 _ _ (hdz _ _ _ h4.oI a9 _ _ (hdz _ _ _ oA a8 _ _ hZ))
 have hgd:∀i b,i<ops.size→listed.getD i b=listed.getD i false:=fun i b hi=>by
  exact m78
 have hnl:∀k,k<ops.size→m≤k→listed.getD k false=false:=fun k hk hm=>by
  cases hv:listed.getD k false with
  | false=>rfl
  | true=>have:=(hli k hk).1 hv;omega
 refine ⟨fun hr=>?_,fun j hj=>?_⟩
 ·exfalso
  have:m∈Region.ready .any ops listed:=mem_ready.2 ⟨by rw [hgd _ _ (by omega)];exact hnl m (by omega) (Tr _),h.A,oA,fun ed he hb=>(hli _ (by have:=eA ed he hb;omega)).2 (eA ed he hb)⟩
  rw [hr] at this;cases this
 ·obtain ⟨h1,o,ho,hall⟩:=mem_ready.1 hj
  have hlt:=(Tq.1 ho).1
  rw [hgd _ _ hlt] at h1
  have hjm:j=m:=by
   have hge:m≤j:=by
    apply Classical.byContradiction
    intro hn
    rw [(hli j hlt).2 (by omega)] at h1;cases h1
   have no:∀(o':Oper) (q:Nat),o=o'→(∃ed∈o'.after,Region.binds .any ed=true∧ed.on=q)→m≤q→q<ops.size→False:=fun o' q ho' hex hq1 hq2=>by
    subst ho'
    obtain ⟨ed,he,hb,hon⟩:=hex
    have:=hall ed he hb
    rw [hon,hnl q hq2 hq1] at this;cases this
   apply Classical.byContradiction
   intro hne
   have:j=m+1∨j=m+2∨j=m+3∨j=m+4:=by omega
   rcases this with rfl | rfl | rfl | rfl
   ·rw [h4.oI] at ho;exact no h.I m (Option.some.inj ho).symm eIA (Tr _) (by omega)
   ·rw [h4.oS] at ho;exact no h.S (m+1) (Option.some.inj ho).symm h4.eSI (by omega) (by omega)
   ·rw [h4.oF] at ho;exact no h.F m (Option.some.inj ho).symm eFA (Tr _) (by omega)
   ·rw [h4.oH] at ho;exact no h.H (m+3) (Option.some.inj ho).symm h4.eHF (by omega) (by omega)
  subst hjm
  have hndA:∀c,h.A.op≠.defer c:=fun c hc=>by rw [a3] at hc;cases hc
  have hexA:(execOp a.eval h.A).run G.P w=.ok (.value v') w1:=by
   have hargs:args=#[D.s,D.z]:=by rw [← Array.toArray_toList (xs:=args),a1]
   have hats:at'=#[D.t,D.tx]:=by rw [← Array.toArray_toList (xs:=at'),a2]
   subst hargs
   subst hats
   unfold execOp
   simp only [a3,resolve,invoke,builtin,Sem.run_bind,Sem.run_pure,Result.andThen]
   rw [show Array.map a.eval #[D.s,D.z]=#[a.eval D.s,a.eval D.z] from by simp,hrunA]
  refine Zeq oA gA hndA (.inl hexA) ?_
  rw [a8]
  refine ZB5 h4 (A:=AA) (W:=WW) rI pI rF pF rS pS rH pH hfin 4 false false false false rfl (fun h=>by cases h) (fun h=>by cases h) _ (by simpa using hsz) fun q hq=>?_
  by_cases hqm:q=j
  ·subst hqm
   have hlt':q<listed.size:=by rw [hsz];exact hq
   simp [Array.getD,hlt']
  ·have:(listed.setIfInBounds j true).getD q false=listed.getD q false:=getD_set_ne false (Ne.symm hqm)
   rw [this,hli q hq]
   constructor
   ·intro h;exact ⟨by omega,by omega,by omega,by omega⟩
   ·rintro ⟨x1,x2,x3,x4⟩
    have g1:q≠j+1:=fun e=>by cases x1 e
    have g2:q≠j+2:=fun e=>by cases x2 e
    have g3:q≠j+3:=fun e=>by cases x3 e
    have g4:q≠j+4:=fun e=>by cases x4 e
    omega
theorem WQ {m:Nat} {l:List Edge} (h:Zbh m l=true):∃ed∈l,Region.binds .any ed=true∧ed.on=m:=by
 simp only [Zbh,Sz,Tj] at h
 obtain ⟨ed,h1,h2,h3⟩:=h
 exact ⟨ed,h1,h2,Tn h3⟩
theorem Zet {l:List Edge}:∀{n:Nat},ZlQ n l=true→∀p,p<n→∃ed∈l,Region.binds .any ed=true∧ed.on=p
 | 0,_,p,hp=>by omega
 | n+1,h,p,hp=>by
  simp only [ZlQ,Tj] at h
  by_cases hpn:p=n
  ·subst hpn;exact WQ h.1
  ·exact Zet h.2 p (by omega)
theorem WJ {m:Nat} {l:List Edge} (h:JQ m l=true):∀ed∈l,Region.binds .any ed=true→ed.on≤m:=fun ed he hb=>by
 have:=Tl.1 h ed he
 rw [hb] at this
 exact Tb (by simpa using this)
theorem WR {o:Oper} (h:Zbg o=true):o.guard=none:=by
 unfold Zbg at h
 split at h
 ·assumption
 ·cases h
theorem Znh (hC:CxOK G C ro e0 σ0 w0) (hM:CxMono C) {ops:Array Oper} (hd:∀o,o∈ops→∀d,o.dst=some d→d<N∧∀t v,Z t→Z (t.setIfInBounds d v)) {h:Hole} (hh:Zis ops.toList=some h) (hok:Zo7 ops.toList h=true)
  {e:Env} {σ:St} {w:World} {a:Act} {f:Frame} (hS:SRel G e σ w) (hF:FRel G e σ w f a.tmps) (hL:Later e0 σ0 w0 e σ w) (hN:a.tmps.size=N) (hds:Marks ds e σ w a.defers) (hZ:Z a.tmps)
  (hW:Uu C ops.toList (Us ops.toList []) (Zus C ops.toList h Q) (Jw h.pre.length (ZS 0 h.pre)) [] f σ) :
  wpAnyIn (fw ro) n G.P .any ops (Z9 G e0 σ0 w0 ds N Z Q) ops.size (Array.replicate ops.size false) a w:=by
 have hops:=Zko hh
 simp only [Zo7,Tj] at hok
 obtain ⟨⟨⟨⟨⟨⟨⟨⟨⟨⟨⟨⟨⟨⟨⟨⟨⟨⟨⟨⟨k1,k2⟩,k3⟩,k4⟩,k5⟩,k6⟩,k7⟩,k8⟩,k9⟩,k10⟩,k11⟩,k12⟩,k13⟩,k14⟩,k15⟩,k16⟩,k17⟩,k18⟩,k19⟩,k20⟩,k21⟩:=hok
 cases hD:Znf h with
 | none=>rw [hD] at k1;cases k1
 | some D =>
 obtain ⟨args,at',a1,a2,a3,a4,a5,a6,a7,a8,a9,a10,a11,a12,b1,b2,b3,n1,n2,n3⟩:=ZcF hD
 generalize hm:h.pre.length=m at *
 have hsize:ops.size=m+5:=by rw [← Si,hops];simp [hm]
 have at5:∀k,k<5→ops[m+k]?=[h.A,h.I,h.S,h.F,h.H][k]?:=fun k hk=>by
  rw [← Tx,hops,T1 (by omega),hm];simp
 have oA:ops[m]?=some h.A:=at5 0 (by omega)
 have h4:Hole4 ops m h.I h.S h.F h.H:={
  size:=hsize
  oI:=at5 1 (by omega)
  oS:=at5 2 (by omega)
  oF:=at5 3 (by omega)
  oH:=at5 4 (by omega)
  gI:=WR k3
  gS:=WR k4
  gF:=WR k5
  gH:=WR k6
  nI:=fun c hc=>by rw [a4] at hc;cases hc
  nS:=fun c hc=>by rw [a5] at hc;cases hc
  nF:=fun c hc=>by rw [a6] at hc;cases hc
  nH:=fun c hc=>by rw [a7] at hc;cases hc
  eI:=fun ed he hb=>WJ k7 ed (TO.1 he) hb
  eF:=fun ed he hb=>WJ k8 ed (TO.1 he) hb
  eS:=fun ed he hb=>WJ k9 ed (TO.1 he) hb
  eH:=fun ed he hb=>by
   have:=Tl.1 k10 ed (TO.1 he)
   rw [hb] at this
   simp only [Bool.not_true,Bool.false_or,Sn] at this
   rcases this with h | h
   ·exact .inl (Tb h)
   ·exact .inr (Tn h)
  eSI:=let ⟨ed,h1,h2⟩:=WQ k11;⟨ed,TO.2 h1,h2⟩
  eHF:=let ⟨ed,h1,h2⟩:=WQ k12;⟨ed,TO.2 h1,h2⟩ }
 have eIA:∃ed∈h.I.after,Region.binds .any ed=true∧ed.on=m:=let ⟨ed,h1,h2⟩:=WQ k13;⟨ed,TO.2 h1,h2⟩
 have eFA:∃ed∈h.F.after,Region.binds .any ed=true∧ed.on=m:=let ⟨ed,h1,h2⟩:=WQ k14;⟨ed,TO.2 h1,h2⟩
 have hm1:1≤m:=Tb k17
 have eA:∀ed∈h.A.after,Region.binds .any ed=true→ed.on<m:=fun ed he hb=>by
  cases m with
  | zero=>omega
  | succ k=>have:=WJ k16 ed (TO.1 he) hb;omega
 have hmem:∀p∈Jw m (ZS 0 h.pre),p.1<m∧ops[p.1]?=some p.2:=fun p hp=>by
  have h1:=(WO (Zar hp)).2
  simp only [Nat.sub_zero] at h1
  have h2:=(Ti.1 h1).1
  rw [hm] at h2
  exact ⟨h2,by rw [← Tx,hops,TP (by omega)];exact h1⟩
 have hcov:∀k,k<m→∃p∈Jw m (ZS 0 h.pre),p.1=k:=fun k hk=>Zbe k20 k hk
 have hlen:(Jw m (ZS 0 h.pre)).length=m:=Tn k18
 have:=Zgn (n:=n) hC hM hd (m:=m) (t:=5) (QQ:=Z9 G e0 σ0 w0 ds N Z Q) (ms:=Us ops.toList []) (fun i o hi ho=>by
   obtain ⟨p,hp,rfl⟩:=hcov i hi
   have:=(hmem p hp).2
   rw [ho] at this
   cases this
   exact V4 k21 p hp) hsize (fun j o hj ho=>by
   have hlt:=(Tq.1 ho).1
   have:j=m∨j=m+1∨j=m+2∨j=m+3∨j=m+4:=by omega
   rcases this with rfl | rfl | rfl | rfl | rfl
   ·rw [oA] at ho;cases ho
    exact .inl fun p hp=>let ⟨ed,h1,h2⟩:=Zet k15 p hp;⟨ed,TO.2 h1,h2⟩
   ·rw [h4.oI] at ho;cases ho
    obtain ⟨ed,h1,h2,h3⟩:=eIA
    exact .inr ⟨ed,h1,h2,by omega,by omega⟩
   ·rw [h4.oS] at ho;cases ho
    obtain ⟨ed,h1,h2,h3⟩:=h4.eSI
    exact .inr ⟨ed,h1,h2,by omega,by omega⟩
   ·rw [h4.oF] at ho;cases ho
    obtain ⟨ed,h1,h2,h3⟩:=eFA
    exact .inr ⟨ed,h1,h2,by omega,by omega⟩
   ·rw [h4.oH] at ho;cases ho
    obtain ⟨ed,h1,h2,h3⟩:=h4.eHF
    exact .inr ⟨ed,h1,h2,by omega,by omega⟩)
  (fun x a w hx hp=>by
   cases x with
   | normal=>exact absurd rfl hx
   | _ =>
    obtain ⟨pe,f',e',σ',hq,hxr,hrest⟩:=hp
    refine ⟨pe,f',e',σ',?_,hxr,hrest⟩
    cases pe <;> first | exact hq | (cases hxr;done) | (obtain ⟨_,hxr,_⟩:=hxr;cases hxr))
  (fun listed a w hsz hli hp=>Zr0 hC hd hD h4 oA (WR k2) eA eIA eFA hsz hli hp)
  m (Jw m (ZS 0 h.pre)) hlen (fun p hp=>(hmem p hp).1) (fun p hp=>(hmem p hp).2) (VB k19).1 (fun p hp e he hb=>(VB k19).2 p hp e he hb)
  (listed:=Array.replicate ops.size false) (by simp) (fun k hk=>by
   have:(Array.replicate ops.size false).getD k false=false:=by simp [Array.getD]
   rw [this]
   simp only [Tt,false_iff]
   rintro ⟨hkm,hh⟩
   obtain ⟨p,hp,he⟩:=hcov k hkm
   exact hh p hp he) (fun j hjm hj p hp=>by
   obtain ⟨q,hq,he⟩:=hcov j hjm
   exact absurd he (hj q hq)) hS hF hL hN hds hZ hW
 rw [hsize] at this ⊢
 exact this
end
end Go.PM
end

section
namespace Go.PM
theorem waits_iff {o:Oper}:∀{left:List (Nat×Oper)},Uh o left=true↔∃p∈left,∃ed∈o.after,Region.binds .any ed=true∧ed.on=p.1
 | []=>by simp [Uh]
 | (i,p)::l=>by
  unfold Uh
  rw [Sn,waits_iff (left:=l)]
  constructor
  ·rintro (h | ⟨q,hq,h⟩)
   ·simp only [Sz,Tj] at h
    obtain ⟨ed,h1,h2,h3⟩:=h
    exact ⟨(i,p),by simp,ed,TO.2 h1,h2,Tn h3⟩
   ·exact ⟨q,by simp [hq],h⟩
  ·rintro ⟨q,hq,ed,h1,h2,h3⟩
   rcases Tv.1 hq with rfl | hq
   ·left
    simp only [Sz,Tj]
    exact ⟨ed,TO.1 h1,h2,by simp at h3;subst h3;simp⟩
   ·exact .inr ⟨q,hq,ed,h1,h2,h3⟩
theorem UC {left:List (Nat×Oper)}:∀{l:List (Nat×Oper)} {p:Nat×Oper},Zg1 left l=some p→p∈l∧X7 p.2.op=false∧Uh p.2 left=false
 | [],p,h=>by cases h
 | (i,o)::l,p,h=>by
  unfold Zg1 at h
  split at h
  ·rename_i h1 h2;cases h;exact ⟨by simp,h1,h2⟩
  ·obtain ⟨h1,h2⟩:=UC h;exact ⟨Tp _ h1,h2⟩
theorem ZcG {left:List (Nat×Oper)}:∀{l:List (Nat×Oper)},Zg1 left l=none→∀p∈l,X7 p.2.op=false→Uh p.2 left=true
 | [],h,p,hp,_=>by cases hp
 | (i,o)::l,h,p,hp,he=>by
  unfold Zg1 at h
  split at h
  ·cases h
  ·rename_i hno
   rcases Tv.1 hp with rfl | hp
   ·cases hw:Uh o left with
    | true=>rfl
    | false=>exact (hno he hw).elim
   ·exact ZcG h p hp he
theorem conjE_iff {left:List (Nat×Oper)} {X:Nat→Oper→Prop}:∀{l:List (Nat×Oper)},Zm4 left l X↔∀p∈l,Uh p.2 left=false→X p.1 p.2
 | []=>by simp [Zm4]
 | (i,o)::l=>by
  unfold Zm4
  cases hw:Uh o left with
  | true => simp only [conjE_iff (l := l)]; constructor
            ·intro h p hp hwp
             rcases Tv.1 hp with rfl | hp
             ·simp only at hwp;rw [hw] at hwp;cases hwp
             ·exact h p hp hwp
            ·exact fun h p hp=>h p (Tp _ hp)
  | false => simp only [conjE_iff (l := l)]; constructor
             ·rintro ⟨h1,h2⟩ p hp hwp
              rcases Tv.1 hp with rfl | hp
              ·exact h1
              ·exact h2 p hp hwp
             ·exact fun h=>⟨h (i,o) (by simp) hw,fun p hp=>h p (Tp _ hp)⟩
theorem WS {i:Nat}:∀{l:List (Nat×Oper)},l.Pairwise (fun a b=>a.1≠b.1)→∀p,p∈YP i l↔p∈l∧p.1≠i
 | [],_,p=>by simp [YP]
 | (j,o)::l,hp,p=>by
  have h1:=List.pairwise_cons.1 hp
  unfold YP
  split
  ·rename_i hb
   have:=Tn hb
   subst this
   constructor
   ·exact fun h=>⟨Tp _ h,fun e=>h1.1 p h e.symm⟩
   ·rintro ⟨h,hne⟩
    rcases Tv.1 h with rfl | h
    ·exact absurd rfl hne
    ·exact h
  ·rename_i hb
   have hne:i≠j:=fun e=>by subst e;simp at hb
   rw [Tv,Tv,WS h1.2]
   constructor
   ·rintro (rfl | h)
    ·exact ⟨.inl rfl,fun e=>hne e.symm⟩
    ·exact ⟨.inr h.1,h.2⟩
   ·rintro ⟨rfl | h,h2⟩
    ·exact .inl rfl
    ·exact .inr ⟨h,h2⟩
theorem ZlS {i:Nat}:∀{l:List (Nat×Oper)},l.Pairwise (fun a b=>a.1≠b.1)→(YP i l).Pairwise (fun a b=>a.1≠b.1)
 | [],h=>h
 | (j,o)::l,h=>by
  have h1:=List.pairwise_cons.1 h
  unfold YP
  split
  ·exact h1.2
  ·exact List.Pairwise.cons (fun p hp=>h1.1 p (YW hp)) (ZlS h1.2)
theorem UD {i:Nat} {o:Oper}:∀{l:List (Nat×Oper)},(i,o)∈l→(YP i l).length+1=l.length
 | [],h=>by cases h
 | (j,p)::l,h=>by
  unfold YP
  split
  ·rfl
  ·rename_i hb
   rcases Tv.1 h with h | h
   ·cases h;simp at hb
   ·rw [Tc,UD h];rfl
theorem ZcH {i j:Nat}:∀{l:List (Nat×Oper)},YP i (YP j l)=YP j (YP i l)
 | []=>rfl
 | (k,o)::l=>by
  by_cases h1:j=k
  ·subst h1
   by_cases h2:i=j
   ·subst h2;rfl
   ·have hb:Nat.beq i j=false:=by cases h:Nat.beq i j with | false=>rfl | true=>exact absurd (Tn h) h2
    simp [YP,hb]
  ·have hb:Nat.beq j k=false:=by cases h:Nat.beq j k with | false=>rfl | true=>exact absurd (Tn h) h1
   by_cases h2:i=k
   ·subst h2;simp [YP,hb]
   ·have hc:Nat.beq i k=false:=by cases h:Nat.beq i k with | false=>rfl | true=>exact absurd (Tn h) h2
    simp [YP,hb,hc,ZcH (l:=l)]
section
variable {C:Cx} {all:List Oper} {ms:List Nat} {Q:PQ} {f:Frame} {σ:St}
theorem Zas (hM:CxMono C) {i:Nat} {o:Oper} {ctx:List Ld} {K K':List Ld→Frame→St→Prop} (hK:∀c f σ,K c f σ→K' c f σ) (h:Ut C all ms Q i o ctx f σ K):Ut C all ms Q i o ctx f σ K':=by
 unfold Ut at h ⊢
 refine ZcA hM (fun f' σ' hk=>?_) h
 cases hE:X7 o.op with
 | true=>simp only [hE] at hk ⊢;rw [chkL_iff] at hk ⊢;exact ⟨hk.1,hK _ _ _ hk.2⟩
 | false=>simp only [hE] at hk ⊢;exact hK _ _ _ hk
theorem ZbS (hM:CxMono C):∀(n:Nat) (l:List (Nat×Oper)) (c c':List Ld) (f:Frame) (σ:St),(∀d,d∈c'→d∈c)→Uv C all ms Q n l c f σ→Uv C all ms Q n l c' f σ
 | 0,[],_,_,_,_,_,h=>h
 | _+1,[],_,_,_,_,_,h=>h
 | 0,_::_,_,_,_,_,_,h=>h.elim
 | n+1,x::l,c,c',f,σ,hs,h=>by
  unfold Uv at h ⊢
  split at h
  ·exact Zem hM hs (fun c c' f σ=>ZbS hM n _ c c' f σ) h
  ·rw [conjE_iff] at h ⊢
   exact fun p hp hw=>Zem hM hs (fun c c' f σ=>ZbS hM n _ c c' f σ) (h p hp hw)
structure Rem (all:List Oper) (ms:List Nat) (L:List (Nat×Oper)):Prop where
 pw:L.Pairwise (fun a b=>a.1≠b.1)
 msk:∀p∈L,ms.getD p.1 0=ZaO ms p.2.after.toList 0
 apart:∀p∈L,∀q∈L,p.1≠q.1→X7 p.2.op=false→anc ms p.1 q.1=false→anc ms q.1 p.1=false→Zdj all p.2 q.2=true
 down:∀j,(∀p∈L,p.1≠j)→∀q∈L,anc ms q.1 j=false
theorem Rem.noanc {L:List (Nat×Oper)} (h:Rem all ms L) {p:Nat×Oper} (hp:p∈L) (hw:Uh p.2 L=false):∀q∈L,anc ms q.1 p.1=false:=fun q hq=>by
 cases ha:anc ms q.1 p.1 with
 | false=>rfl
 | true =>
  exfalso
  unfold anc at ha
  rw [h.msk p hp] at ha
  rcases UA ha with h2 | ⟨ed,he,hb,h2⟩
  ·simp at h2
  ·have hno:∀x∈L,x.1≠ed.on:=fun x hx e=>by
    have:Uh p.2 L=true:=waits_iff.2 ⟨x,hx,ed,TO.2 he,hb,e.symm⟩
    rw [hw] at this;cases this
   rcases h2 with h2 | h2
   ·exact hno q hq h2.symm
   ·rw [h.down ed.on hno q hq] at h2;cases h2
theorem Rem.drop {L:List (Nat×Oper)} (h:Rem all ms L) {p:Nat×Oper} (hp:p∈L) (hw:Uh p.2 L=false):Rem all ms (YP p.1 L) where
 pw:=ZlS h.pw
 msk:=fun q hq=>h.msk q (YW hq)
 apart:=fun a ha b hb=>h.apart a (YW ha) b (YW hb)
 down:=fun j hj q hq=>by
  by_cases hjp:j=p.1
  ·subst hjp;exact h.noanc hp hw q (YW hq)
  ·refine h.down j (fun x hx e=>?_) q (YW hq)
   exact hj x ((WS h.pw x).2 ⟨hx,fun e2=>hjp (e.symm.trans e2)⟩) e
theorem Zat {o:Oper} {i:Nat} {L:List (Nat×Oper)} (h:Uh o L=false):Uh o (YP i L)=false:=by
 cases hw:Uh o (YP i L) with
 | false=>rfl
 | true =>
  obtain ⟨p,hp,hr⟩:=waits_iff.1 hw
  rw [waits_iff.2 ⟨p,YW hp,hr⟩] at h;cases h
theorem Zo8 {L:List (Nat×Oper)} (h:L.Pairwise (fun a b=>a.1≠b.1)) {p q:Nat×Oper} (hp:p∈L) (hq:q∈L) (he:p.1=q.1):p=q:=by
 induction L with
 | nil=>cases hp
 | cons x l ih =>
  have h1:=List.pairwise_cons.1 h
  rcases Tv.1 hp with hp1 | hp1 <;> rcases Tv.1 hq with hq1 | hq1
  ·rw [hp1,hq1]
  ·exact absurd (hp1 ▸ he) (h1.1 q hq1)
  ·exact absurd (hq1 ▸ he.symm) (h1.1 p hp1)
  ·exact ih h1.2 hp1 hq1
theorem Zo9 (hM:CxMono C):∀(k:Nat),(∀(L:List (Nat×Oper)),L.length=k+1→Rem all ms L→∀p∈L,Uh p.2 L=false→∀ctx f σ,Uv C all ms Q (k+1) L ctx f σ→Ut C all ms Q p.1 p.2 ctx f σ (Uv C all ms Q k (YP p.1 L))) ∧
  (∀(L:List (Nat×Oper)),L.length=k+1→Rem all ms L→∀p∈L,X7 p.2.op=false→Uh p.2 L=false→∀ctx f σ,Ut C all ms Q p.1 p.2 ctx f σ (Uv C all ms Q k (YP p.1 L))→Uv C all ms Q (k+1) L ctx f σ):=by
 intro k
 induction k with
 | zero =>
  have one:∀(L:List (Nat×Oper)),L.length=0+1→∀p∈L,L=[p]:=fun L hl p hp=>by
   cases L with
   | nil=>cases hp
   | cons x l =>
    cases l with
    | nil=>rw [Sv.1 hp]
    | cons y l=>simp at hl
  refine ⟨fun L hl hR p hp hw ctx f σ h=>?_,fun L hl hR p hp he hw ctx f σ h=>?_⟩
  ·obtain rfl:=one L hl p hp
   unfold Uv at h
   split at h
   ·rename_i i o hpk
    have:=(UC hpk).1
    simp at this
    subst this
    exact h
   ·exact (conjE_iff.1 h) p hp hw
  ·obtain rfl:=one L hl p hp
   unfold Uv
   split
   ·rename_i i o hpk
    have:=(UC hpk).1
    simp at this
    subst this
    exact h
   ·rename_i hpk
    have:=ZcG hpk p hp he
    rw [hw] at this;cases this
 | succ k ih =>
  obtain ⟨ihA,ihB⟩:=ih
  refine ⟨fun L hl hR p hp hw ctx f σ h=>?_,fun L hl hR p hp he hw ctx f σ h=>?_⟩
  ·cases L with
   | nil=>cases hp
   | cons x l =>
   unfold Uv at h
   split at h
   ·rename_i j q hpk
    obtain ⟨g1,g2,g3⟩:=UC hpk
    by_cases hj:j=p.1
    ·have:=Zo8 hR.pw g1 hp hj
     subst this
     exact h
    ·have hpd:p∈YP j (x::l):=(WS hR.pw p).2 ⟨hp,fun e=>hj e.symm⟩
     have hjd:(j,q)∈YP p.1 (x::l):=(WS hR.pw (j,q)).2 ⟨g1,hj⟩
     have hlen:(YP j (x::l)).length=k+1:=by have:=UD g1;omega
     have hlen2:(YP p.1 (x::l)).length=k+1:=by have:=UD (o:=p.2) hp;omega
     have h2:=Zas hM (fun c f σ hk=>ihA _ hlen (hR.drop g1 g3) p hpd (Zat hw) c f σ hk) h
     have h3:=ZB4 hM (fun c c' f σ=>ZbS hM k _ c c' f σ) g2 (hR.apart _ g1 _ hp hj g2 (hR.noanc hp hw _ g1) (hR.noanc g1 g3 _ hp)) (hR.noanc hp hw _ g1) h2
     rw [ZcH] at h3
     exact Zas hM (fun c f σ hk=>ihB _ hlen2 (hR.drop hp hw) (j,q) hjd g2 (Zat g3) c f σ hk) h3
   ·exact (conjE_iff.1 h) p hp hw
  ·cases L with
   | nil=>cases hp
   | cons x l =>
   unfold Uv
   split
   ·rename_i j q hpk
    obtain ⟨g1,g2,g3⟩:=UC hpk
    by_cases hj:j=p.1
    ·have:=Zo8 hR.pw g1 hp hj
     subst this
     exact h
    ·have hpd:p∈YP j (x::l):=(WS hR.pw p).2 ⟨hp,fun e=>hj e.symm⟩
     have hjd:(j,q)∈YP p.1 (x::l):=(WS hR.pw (j,q)).2 ⟨g1,hj⟩
     have hlen:(YP j (x::l)).length=k+1:=by have:=UD g1;omega
     have hlen2:(YP p.1 (x::l)).length=k+1:=by have:=UD (o:=p.2) hp;omega
     have h2:=Zas hM (fun c f σ hk=>ihA _ hlen2 (hR.drop hp hw) (j,q) hjd (Zat g3) c f σ hk) h
     have h3:=ZB4 hM (fun c c' f σ=>ZbS hM k _ c c' f σ) he (hR.apart _ hp _ g1 (fun e=>hj e.symm) he (hR.noanc g1 g3 _ hp) (hR.noanc hp hw _ g1)) (hR.noanc g1 g3 _ hp) h2
     rw [ZcH] at h3
     exact Zas hM (fun c f σ hk=>ihB _ hlen (hR.drop g1 g3) p hpd he (Zat hw) c f σ hk) h3
   ·rename_i hpk
    have:=ZcG hpk p hp he
    rw [hw] at this;cases this
end
def Zuz (i:Nat) (l:List Edge):Bool:=l.all fun ed=>!(Region.binds .any ed) || Nat.ble (ed.on+1) i
def Zr1 (all:List Oper) (ms:List Nat) (L:List (Nat×Oper)):Bool :=
 L.all fun p=>L.all fun q=>Nat.beq p.1 q.1 || X7 p.2.op || anc ms p.1 q.1 || anc ms q.1 p.1 || Zdj all p.2 q.2
def ZuA (ops:List Oper):Bool :=
 let ms:=Us ops []
 let L:=ZS 0 ops
 ZcD ms L && (L.all fun p=>Zuz p.1 p.2.after.toList) && Zr1 ops ms L
theorem Zeu:∀{l:List Oper} {i:Nat},(ZS i l).Pairwise (fun a b=>a.1≠b.1)
 | [],_=>List.Pairwise.nil
 | o::l,i=>List.Pairwise.cons (fun p hp=>by have:=(WO hp).1;simp only;omega) Zeu
theorem Zdm:∀{l:List Oper} {i:Nat},(ZS i l).length=l.length
 | [],_=>rfl
 | o::l,i=>by simp [ZS,Zdm (l:=l)]
theorem Zdn:∀{l:List Oper} {i k:Nat} {o:Oper},l[k]?=some o→(i+k,o)∈ZS i l
 | [],_,_,_,h=>by simp at h
 | x::l,i,k,o,h=>by
  unfold ZS
  cases k with
  | zero=>simp at h;subst h;simp
  | succ k =>
   have:=Zdn (l:=l) (i:=i+1) (k:=k) (o:=o) (by simpa using h)
   rw [show i+(k+1)=i+1+k by omega]
   exact Tp _ this
section
variable {G:GE} {C:Cx} {e0 e:Env} {σ0 σ:St} {w0 w:World} {a:Act} {f:Frame} {Q:PQ} {ro:Option Nat} {n:Nat} {ds:Nat×List Deferred×Bool} {N:Nat} {Z:Array Value→Prop}
theorem Zpa (hC:CxOK G C ro e0 σ0 w0) (hM:CxMono C) {ops:Array Oper} (hd:∀o,o∈ops→∀d,o.dst=some d→d<N∧∀t v,Z t→Z (t.setIfInBounds d v)) {ms:List Nat} :
  ∀(k:Nat) (L:List (Nat×Oper)),L.length=k→Rem ops.toList ms L→(∀p∈L,ops[p.1]?=some p.2)→(∀p∈L,∀ed∈p.2.after,Region.binds .any ed=true→ed.on<p.1) →
  ∀{listed:Array Bool},listed.size=ops.size→(∀k,k<ops.size→(listed.getD k false=true↔∀p∈L,p.1≠k)) →
  ∀{ctx:List Ld} {e:Env} {σ:St} {w:World} {a:Act} {f:Frame},SRel G e σ w→FRel G e σ w f a.tmps→Later e0 σ0 w0 e σ w→a.tmps.size=N→Marks ds e σ w a.defers→Z a.tmps→Uv C ops.toList ms Q k L ctx f σ →
  wpAnyIn (fw ro) n G.P .any ops (Z9 G e0 σ0 w0 ds N Z Q) k listed a w
 | 0,L,hl,hR,hget,hed,listed,hsz,hli,ctx,e,σ,w,a,f,hS,hF,hL,hN,hds,hZ,h=>by
  have hl0:L=[]:=SD.1 hl
  exact m53
 | k+1,L,hl,hR,hget,hed,listed,hsz,hli,ctx,e,σ,w,a,f,hS,hF,hL,hN,hds,hZ,h=>by
  have hgd:∀i b,i<ops.size→listed.getD i b=listed.getD i false:=fun i b hi=>by
   exact m78
  have hnl:∀p∈L,listed.getD p.1 true=false:=fun p hp=>by
   have hlt:=(Tq.1 (hget p hp)).1
   rw [hgd _ _ hlt]
   cases hv:listed.getD p.1 false with
   | false=>rfl
   | true=>exact absurd rfl ((hli p.1 hlt).1 hv p hp)
  refine ⟨fun hr=>?_,fun i hi=>?_⟩
  ·exfalso
   have:∀(m:Nat),∀p∈L,p.1≤m→False:=by
    intro m
    induction m with
    | zero =>
     intro p hp hm
     have hlt:=(Tq.1 (hget p hp)).1
     have:p.1∈Region.ready .any ops listed:=mem_ready.2 ⟨hnl p hp,p.2,hget p hp,fun ed he hb=>by have:=hed p hp ed he hb;omega⟩
     rw [hr] at this;cases this
    | succ m ih =>
     intro p hp hm
     have hlt:=(Tq.1 (hget p hp)).1
     have:p.1∈Region.ready .any ops listed:=mem_ready.2 ⟨hnl p hp,p.2,hget p hp,fun ed he hb=>(hli ed.on (by have:=hed p hp ed he hb;omega)).2 fun q hq e=>by
      have:=hed p hp ed he hb
      exact ih q hq (by omega)⟩
     rw [hr] at this;cases this
   cases L with
   | nil=>simp at hl
   | cons x l=>exact this x.1 x (by simp) (Tr _)
  ·obtain ⟨h1,o,ho,hall⟩:=mem_ready.1 hi
   have hlt:=(Tq.1 ho).1
   rw [hgd _ _ hlt] at h1
   have hmem:∃p∈L,p.1=i:=by
    exact m129
   obtain ⟨p,hpl,rfl⟩:=hmem
   have hpo:p.2=o:=by have:=hget p hpl;rw [ho] at this;exact (Option.some.inj this).symm
   subst hpo
   have hw:Uh p.2 L=false:=by
    cases hv:Uh p.2 L with
    | false=>rfl
    | true =>
     obtain ⟨q,hq,ed,he,hb,hon⟩:=waits_iff.1 hv
     have hq2:=(Tq.1 (hget q hq)).1
     have:=(hli q.1 hq2).1 (by rw [← hon];exact hall ed he hb)
     exact absurd rfl (this q hq)
   have hfront:=(Zo9 hM k).1 L hl hR p hpl hw ctx f σ h
   have hstep:=Jb (ro:=ro) (n:=n) hC hS hF hL hN hds hZ (ops:=ops) (hd p.2 (Sg ho)) hfront
   have hlen:(YP p.1 L).length=k:=by have:=UD (o:=p.2) hpl;omega
   have next:∀a' w',KRel G e0 σ0 w0 ds N Z (fun f' σ'=>∃c,Uv C ops.toList ms Q k (YP p.1 L) c f' σ') a' w'→wpAnyIn (fw ro) n G.P .any ops (Z9 G e0 σ0 w0 ds N Z Q) k (listed.setIfInBounds p.1 true) a' w':=fun a' w' ⟨f',e',σ',⟨c,hk1⟩,h2,h3,h4,h5,h6,h7⟩=>by
    refine Zpa hC hM hd k (YP p.1 L) hlen (hR.drop hpl hw) (fun x hx=>hget x (YW hx)) (fun x hx=>hed x (YW hx)) (by simpa using hsz) (fun k hk=>?_) h2 h3 h4 h5 h6 h7 hk1
    by_cases hki:k=p.1
    ·subst hki
     have hlt':p.1<listed.size:=by rw [hsz];exact hlt
     have:(listed.setIfInBounds p.1 true).getD p.1 false=true:=by simp [Array.getD,hlt']
     simp only [this,true_iff]
     exact fun x hx=>((WS hR.pw x).1 hx).2
    ·have:(listed.setIfInBounds p.1 true).getD k false=listed.getD k false:=getD_set_ne false (Ne.symm hki)
     rw [this,hli k hk]
     constructor
     ·exact fun hh x hx=>hh x (YW hx)
     ·intro hh x hx hxk
      exact hh x ((WS hR.pw x).2 ⟨hx,fun e2=>hki (hxk.symm.trans e2)⟩) hxk
   have hK:∀a' w',KRel G e0 σ0 w0 ds N Z (fun f' σ'=>match X7 p.2.op with | true=>ZrS ms p.1 σ.bx σ'.bx ctx (Uv C ops.toList ms Q k (YP p.1 L) ctx f' σ') | false=>Uv C ops.toList ms Q k (YP p.1 L) (U7 C.T p.2 p.1 f ctx) f' σ') a' w' →
     KRel G e0 σ0 w0 ds N Z (fun f' σ'=>∃c,Uv C ops.toList ms Q k (YP p.1 L) c f' σ') a' w':=fun a' w' ⟨f',e',σ',hk,hrest⟩=>by
    refine ⟨f',e',σ',?_,hrest⟩
    cases hE:X7 p.2.op with
    | true=>rw [hE] at hk;exact ⟨_,(chkL_iff.1 hk).2⟩
    | false=>rw [hE] at hk;exact ⟨_,hk⟩
   exact m79
theorem Zpb (hC:CxOK G C ro e0 σ0 w0) (hM:CxMono C) {ops:Array Oper} (hd:∀o,o∈ops→∀d,o.dst=some d→d<N∧∀t v,Z t→Z (t.setIfInBounds d v)) (hok:ZuA ops.toList=true)
  (hS:SRel G e σ w) (hF:FRel G e σ w f a.tmps) (hL:Later e0 σ0 w0 e σ w) (hN:a.tmps.size=N) (hds:Marks ds e σ w a.defers) (hZ:Z a.tmps) (h:Uv C ops.toList (Us ops.toList []) Q ops.toList.length (ZS 0 ops.toList) [] f σ) :
  wpAnyIn (fw ro) n G.P .any ops (Z9 G e0 σ0 w0 ds N Z Q) ops.size (Array.replicate ops.size false) a w:=by
 simp only [ZuA,Tj] at hok
 obtain ⟨⟨k1,k2⟩,k3⟩:=hok
 have hget:∀p∈ZS 0 ops.toList,ops[p.1]?=some p.2:=fun p hp=>by
  have:=(WO hp).2
  rw [← Tx];simpa using this
 have hcov:∀k,k<ops.size→∃p∈ZS 0 ops.toList,p.1=k:=fun k hk=>⟨_,Zdn (i:=0) (k:=k) (o:=ops[k]) (by rw [Tx,TE hk]),by simp⟩
 have hlen:ops.toList.length=ops.size:=Si
 rw [hlen] at h
 refine Zpa hC hM hd ops.size (ZS 0 ops.toList) (by rw [Zdm,hlen]) ⟨Zeu,V4 k1,fun p hp q hq hne he h1 h2=>?_,fun j hj q hq=>?_⟩ hget (fun p hp ed he hb=>?_) (by simp) (fun k hk=>?_) hS hF hL hN hds hZ h
 ·have:=Tl.1 (Tl.1 k3 p hp) q hq
  simp only [Sn] at this
  rcases this with (((h | h) | h) | h) | h
  ·exact absurd (Tn h) hne
  ·rw [he] at h;cases h
  ·rw [h1] at h;cases h
  ·rw [h2] at h;cases h
  ·exact h
 ·by_cases hj':j<ops.size
  ·obtain ⟨p,hp,he⟩:=hcov j hj'
   exact absurd he (hj p hp)
  ·exact m62
 ·have:=Tl.1 (Tl.1 k2 p hp) ed (TO.1 he)
  rw [hb] at this
  exact Tb (by simpa using this)
 ·exact m101
end
end Go.PM
end
