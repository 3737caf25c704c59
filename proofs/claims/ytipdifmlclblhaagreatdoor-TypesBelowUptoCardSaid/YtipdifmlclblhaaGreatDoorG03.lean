/- A part of the proof: plain logic, contracts and laws over the given program. -/
import Derived.Scope
import Derived.RangeFuncRecord
import Derived.RangeFuncCalls
import Derived.Test.YtipdifmlclblhaaGreatDoorG02
set_option linter.unusedVariables false
set_option linter.unusedSimpArgs false
set_option linter.all false
set_option maxRecDepth 100000
set_option maxHeartbeats 16000000
section
namespace Go.PM
def ZfA (n i:Nat):List Edge->Bool
 | []=>true
 | e::l=>(match Region.binds .any e with | true=>Nat.ble (e.on+1) n && !(Nat.beq e.on i) | false=>true) && ZfA n i l
def Zb4 (j:Nat):List Edge->Bool
 | []=>true
 | e::l=>(match Region.binds .any e with | true=>!(Nat.beq e.on j) | false=>true) && Zb4 j l
def Zj4 (all:List Oper) (ms:List Nat) (i:Nat) (o:Oper):List (Nat×Oper)->Bool
 | []=>true
 | (j,p)::l=>!(Nat.beq i j) && Zb4 j o.after.toList && (anc ms i j || (!(Yx o.op) && Zbo all o p)) && Zj4 all ms i o l
def ZgZ (all:List Oper) (ms:List Nat) (n:Nat):List (Nat×Oper)->Bool
 | []=>true
 | (i,o)::l=>Zj4 all ms i o l && ZfA n i o.after.toList && ZgZ all ms n l
def Zg0 (cs:List (Nat×Oper)):Nat->Bool
 | 0=>true
 | n+1=>cs.any (fun p=>Nat.beq p.1 n) && Zg0 cs n
def ZaB (ms:List Nat):List (Nat×Oper)->Bool
 | []=>true
 | (i,o)::l=>Nat.beq (ms.getD i 0) (UW ms o.after.toList 0) && ZaB ms l
def ZnI (ops:List Oper):Bool :=
 let ms:=Xs ops []
 let cs:=Zcm ops
 Nat.beq cs.length ops.length && ZgZ ops ms ops.length cs && Zg0 cs ops.length && ZaB ms cs
theorem Zbp {n i:Nat}:∀{l:List Edge},ZfA n i l=true->∀e∈l,Region.binds .any e=true->e.on<n/\e.on≠i
 | [],_,e,he,_=>by cases he
 | x::l,h,e,he,hb=>by
  simp only [ZfA,Tl] at h;rcases Tr.1 he with rfl | he
  ·have h1:=h.1;rw [hb] at h1;simp only [Tl,SF,T2] at h1;exact ⟨h1.1,fun e=>by rw [e] at h1;simp at h1⟩
  exact Zbp h.2 e he hb
theorem JS {j:Nat}:∀{l:List Edge},Zb4 j l=true->∀e∈l,Region.binds .any e=true->e.on≠j
 | [],_,e,he,_=>by cases he
 | x::l,h,e,he,hb=>by
  simp only [Zb4,Tl] at h;rcases Tr.1 he with rfl | he
  ·have h1:=h.1;rw [hb] at h1;simp only [T2] at h1;exact fun e=>by rw [e] at h1;simp at h1
  exact JS h.2 e he hb
def ZrH (all:List Oper) (ms:List Nat) (x y:Nat×Oper):Prop :=
 x.1≠y.1/\(∀e∈x.2.after.toList,Region.binds .any e=true->e.on≠y.1)/\(anc ms x.1 y.1=true\/(Yx x.2.op=false/\Zbo all x.2 y.2=true))
theorem ZcB {all:List Oper} {ms:List Nat} {i:Nat} {o:Oper}:∀{l:List (Nat×Oper)},Zj4 all ms i o l=true->∀p∈l,ZrH all ms (i,o) p
 | [],_,p,hp=>by cases hp
 | (j,x)::l,h,p,hp=>by
  simp only [Zj4,Tl,So,T2] at h;rcases Tr.1 hp with rfl | hp
  ·exact ⟨fun (e:i=j)=>by have:=h.1.1.1;rw [e] at this;simp at this,JS h.1.1.2,h.1.2⟩
  exact ZcB h.2 p hp
theorem Wl {all:List Oper} {ms:List Nat} {n:Nat}:∀{l:List (Nat×Oper)},ZgZ all ms n l=true->l.Pairwise (ZrH all ms)/\∀p∈l,∀e∈p.2.after.toList,Region.binds .any e=true->e.on<n/\e.on≠p.1
 | [],_=>⟨List.Pairwise.nil,fun p hp=>by cases hp⟩
 | (i,o)::l,h=>by
  simp only [ZgZ,Tl] at h;obtain ⟨h1,h2⟩:=Wl h.2;refine ⟨List.Pairwise.cons (ZcB h.1.1) h1,fun p hp=>?_⟩;rcases Tr.1 hp with rfl | hp
  ·exact Zbp h.1.2
  exact h2 p hp
theorem Jl {cs:List (Nat×Oper)}:∀{n:Nat},Zg0 cs n=true->∀k,k<n->∃p∈cs,p.1=k
 | 0,_,k,hk=>oM
 | n+1,h,k,hk=>by
  simp only [Zg0,Tl,List.any_eq_true] at h
  by_cases t7:k=n
  ·obtain ⟨p,hp,hb⟩:=h.1;exact ⟨p,hp,by rw [t7];exact Ti hb⟩
  exact Jl h.2 k oM
theorem WK {ms:List Nat}:∀{l:List (Nat×Oper)},ZaB ms l=true->∀p∈l,ms.getD p.1 0=UW ms p.2.after.toList 0
 | [],_,p,hp=>by cases hp
 | (i,o)::l,h,p,hp=>by
  simp only [ZaB,Tl] at h;rcases Tr.1 hp with rfl | hp
  ·exact Ti h.1
  exact WK h.2 p hp
theorem Va {ms:List Nat} {x:Nat}:∀{l:List Edge} {s:Nat},(UW ms l s).testBit x=true->s.testBit x=true\/∃e∈l,Region.binds .any e=true/\(e.on=x\/anc ms x e.on=true)
 | [],s,h=>.inl h
 | e::l,s,h=>by
  unfold UW at h
  cases hb:Region.binds .any e with
  | true =>
   rw [hb] at h;rcases Va h with h1 | ⟨e',zp,h1⟩
   ·rw [Nat.testBit_or,Nat.testBit_or,So,So] at h1;rcases h1 with (h1 | h1) | h1
    ·exact .inl h1
    ·rw [Nat.testBit_two_pow] at h1;exact .inr ⟨e,sM,hb,.inl (by simpa using h1)⟩
    exact .inr ⟨e,sM,hb,.inr h1⟩
   exact .inr ⟨e',Tu _ zp,h1⟩
  | false =>
  rw [hb] at h;rcases Va h with h1 | ⟨e',zp,h1⟩
  ·exact .inl h1
  exact .inr ⟨e',Tu _ zp,h1⟩
theorem Zg1 {left:List (Nat×Oper)}:∀{l:List (Nat×Oper)} {p:Nat×Oper},Zfs left l=some p->p∈l
 | [],p,h=>by cases h
 | (i,o)::l,p,h=>by
  unfold Zfs at h
  split at h
  ·cases h;simp
  exact Tu _ (Zg1 h)
theorem Yt {i:Nat}:∀{l:List (Nat×Oper)} {p:Nat×Oper},p∈Yk i l->p∈l
 | [],p,h=>by cases h
 | (j,o)::l,p,h=>by
  unfold Yk at h
  split at h
  ·exact Tu _ h
  rcases Tr.1 h with rfl | h
  ·simp
  exact Tu _ (Yt h)
theorem UE:∀{n:Nat} {l:List (Nat×Oper)} {p:Nat×Oper},p∈W5 n l->p∈l
 | 0,l,p,h=>h
 | n+1,[],p,h=>by cases h
 | n+1,x::l,p,h=>by
  unfold W5 at h
  split at h
  ·rename_i i o hp
   rcases Tr.1 h with rfl | h
   ·exact Zg1 hp
   exact Yt (UE h)
  rcases Tr.1 h with rfl | h
  ·simp
  exact Tu _ (UE h)
theorem XH:∀{l:List Oper} {i:Nat} {p:Nat×Oper},p∈Zx i l->i<=p.1/\l[p.1 - i]?=some p.2
 | [],i,p,h=>by cases h
 | o::l,i,p,h=>by
  unfold Zx at h
  rcases Tr.1 h with rfl | h
  ·simp
  obtain ⟨h1,h2⟩:=XH h;refine ⟨oM,?_⟩;rw [show p.1 - i=(p.1 - (i+1))+1 by omega];simpa using h2
theorem ZnJ {ops:List Oper} {p:Nat×Oper} (h:p∈Zcm ops):ops[p.1]?=some p.2:=by
 have:=XH (UE h);simpa using this.2
section
variable {G:GE} {C:Cx} {e0 e:Env} {σ0 σ:St} {w0 w:World} {a:Act} {f:Frame} {Q:PQ} {ro:Option Nat} {n:Nat} {ds:Nat×List Deferred×Bool} {N:Nat} {Z:Array Value->Prop}
theorem Zg2 (hC:CxOK G C ro e0 σ0 w0) (hM:CxMono C) {ops:Array Oper} (hd:∀o,o∈ops->∀d,o.dst=some d->d<N/\∀t v,Z t->Z (t.setIfInBounds d v)) {ms:List Nat} (vf:∀i o,ops[i]?=some o->ms.getD i 0=UW ms o.after.toList 0) :
  ∀(k:Nat) (l:List (Nat×Oper)),l.length=k->(∀p∈l,ops[p.1]?=some p.2)->l.Pairwise (ZrH ops.toList ms)->(∀p∈l,∀e∈p.2.after.toList,Region.binds .any e=true->e.on<ops.size/\e.on≠p.1) ->
  ∀{listed:Array Bool},listed.size=ops.size->(∀k,k<ops.size->(listed.getD k false=true↔∀p∈l,p.1≠k))->(∀j,(∀p∈l,p.1≠j)->∀p∈l,anc ms p.1 j=false) ->
  ∀{ctx:List Ld} {e:Env} {σ:St} {w:World} {a:Act} {f:Frame},SRel G e σ w->FRel G e σ w f a.tmps->Later e0 σ0 w0 e σ w->a.tmps.size=N->Marks ds e σ w a.defers->Z a.tmps->X4 C ops.toList ms Q l ctx f σ ->
  wpAnyIn (fw ro) n G.P .any ops (ZD G e0 σ0 w0 ds N Z Q) k listed a w
 | 0,l,hl,cf,hp,hed,listed,hsz,dg,hdown,ctx,e,σ,w,a,f,hS,hF,hL,hN,bl,hZ,h=>by
  have mj:l=[]:=List.length_eq_zero_iff.1 hl;exact m56
 | k+1,l,hl,cf,hp,hed,listed,hsz,dg,hdown,ctx,e,σ,w,a,f,hS,hF,hL,hN,bl,hZ,h=>by
  have jk:∀i b,i<ops.size->listed.getD i b=listed.getD i false:=fun i b hi=>by
   exact m79
  refine ⟨fun hr=>?_,fun i hi=>?_⟩
  ·cases l with
   | nil=>simp at hl
   | cons x l =>
   exfalso;have hx:=cf x sM;have ai:=(Tn.1 hx).1;have:x.1∈Region.ready .any ops listed:=by
    refine mem_ready.2 ⟨?_,x.2,hx,fun ed gm hb=>?_⟩
    ·rw [jk _ _ ai]
     cases hv:listed.getD x.1 false with
     | false=>rfl
     | true=>exact absurd rfl ((dg x.1 ai).1 hv x sM)
    have h1:=hed x sM ed (TE.1 gm) hb;refine (dg ed.on h1.1).2 fun p gf=>?_
    exact m119
   rw [hr] at this;cases this
  obtain ⟨h1,o,ho,cd⟩:=mem_ready.1 hi;have ai:=(Tn.1 ho).1;rw [jk _ _ ai] at h1;have cg:∃p∈l,p.1=i:=by
   exact m129
  obtain ⟨p,iu,rfl⟩:=cg;have rx:p.2=o:=by have:=cf p iu;rw [ho] at this;exact (Option.some.inj this).symm
  obtain ⟨pre,post,rfl⟩:=List.append_of_mem iu;obtain ⟨i,o'⟩:=p;dsimp only at rx ho ai h1 hi;subst rx;have n8:=List.pairwise_append.1 hp;have fg:=(List.pairwise_cons.1 n8.2.1)
  have fh:∀x∈pre++(i,o')::post,anc ms x.1 i=false:=fun x hx=>by
   cases ry:anc ms x.1 i with
   | false=>rfl
   | true =>
   exfalso;unfold anc at ry
   rw [vf i o' ho] at ry;rcases Va ry with h2 | ⟨ed,gm,hb,h2⟩
   ·simp at h2
   have rz:=cd ed (TE.2 gm) hb;have ao:=(dg ed.on (hed _ iu ed gm hb).1).1 rz;rcases h2 with h2 | h2
   ·exact ao x hx h2.symm
   rw [hdown ed.on ao x hx] at h2;cases h2
  have gp:=ZiI hM pre (fun x hx=>by
   have hA:=n8.2.2 x hx (i,o') sM;have vg:=fh x (by simp [hx]);rcases hA.2.2 with h2 | h2
   ·rw [vg] at h2;cases h2
   exact ⟨h2.1,h2.2,vg⟩) ctx f σ h
  have bo:=Vv (ro:=ro) (n:=n) hC hS hF hL hN bl hZ (ops:=ops) (hd o' (Sa ho)) gp;have r7:∀x∈pre++post,x.1≠i:=fun x hx=>by
   exact m144
  have bv:∀x,x∈pre++post->x∈pre++(i,o')::post:=fun x hx=>by
   rcases TN.1 hx with hx | hx <;> simp [hx]
  have next:∀a' w',KRel G e0 σ0 w0 ds N Z (fun f' σ'=>∃c,X4 C ops.toList ms Q (pre++post) c f' σ') a' w'->wpAnyIn (fw ro) n G.P .any ops (ZD G e0 σ0 w0 ds N Z Q) k (listed.setIfInBounds i true) a' w':=fun a' w' ⟨f',e',σ',⟨c,d7⟩,h2,h3,h4,h5,h6,h7⟩=>by
   refine Zg2 hC hM hd vf k (pre++post) (by simp at hl |-;omega) (fun x hx=>cf x (bv x hx)) (List.pairwise_append.2 ⟨n8.1,fg.2,fun x hx y hy=>n8.2.2 x hx y (Tu _ hy)⟩)
    (fun x hx=>hed x (bv x hx)) (by simpa using hsz) (fun k hk=>?_) (fun j hj x hx=>?_) h2 h3 h4 h5 h6 h7 d7
   ·by_cases mz:k=i
    ·subst mz;have fd:k<listed.size:=by rw [hsz];exact ai
     have:(listed.setIfInBounds k true).getD k false=true:=by simp [Array.getD,fd]
     simp only [this,true_iff];exact r7
    have:(listed.setIfInBounds i true).getD k false=listed.getD k false:=getD_set_ne false (Ne.symm mz);rw [this,dg k hk]
    constructor
    ·exact fun hh x hx=>hh x (bv x hx)
    intro hh x hx
    rcases TN.1 hx with hx | hx
    ·exact hh x (by simp [hx])
    rcases Tr.1 hx with rfl | hx
    ·exact fun e=>mz e.symm
    exact hh x (by simp [hx])
   by_cases xr:j=i
   ·subst xr;exact fh x (bv x hx)
   refine hdown j (fun y hy=>?_) x (bv x hx);exact m114
  have hK:∀a' w',KRel G e0 σ0 w0 ds N Z (fun f' σ'=>match Yx o'.op with | true=>Znc ms i σ.bx σ'.bx ctx (X4 C ops.toList ms Q (pre++post) ctx f' σ') | false=>X4 C ops.toList ms Q (pre++post) (Wg C.T o' i f ctx) f' σ') a' w' ->
    KRel G e0 σ0 w0 ds N Z (fun f' σ'=>∃c,X4 C ops.toList ms Q (pre++post) c f' σ') a' w':=fun a' w' ⟨f',e',σ',hk,an⟩=>by
   refine ⟨f',e',σ',?_,an⟩
   cases hE:Yx o'.op with
   | true=>rw [hE] at hk;exact ⟨_,(chkL_iff.1 hk).2⟩
   | false=>rw [hE] at hk;exact ⟨_,hk⟩
  exact m80
theorem ZlQ (hC:CxOK G C ro e0 σ0 w0) (hM:CxMono C) {ops:Array Oper} (hd:∀o,o∈ops->∀d,o.dst=some d->d<N/\∀t v,Z t->Z (t.setIfInBounds d v)) (az:ZnI ops.toList=true)
  (hS:SRel G e σ w) (hF:FRel G e σ w f a.tmps) (hL:Later e0 σ0 w0 e σ w) (hN:a.tmps.size=N) (bl:Marks ds e σ w a.defers) (hZ:Z a.tmps) (h:X4 C ops.toList (Xs ops.toList []) Q (Zcm ops.toList) [] f σ) :
  wpAnyIn (fw ro) n G.P .any ops (ZD G e0 σ0 w0 ds N Z Q) ops.size (Array.replicate ops.size false) a w:=by
 simp only [ZnI,Tl] at az;obtain ⟨⟨⟨h1,h2⟩,h3⟩,h4⟩:=az;have aa:(Zcm ops.toList).length=ops.size:=by simpa using Ti h1
 have i9:∀k,k<ops.size->∃p∈Zcm ops.toList,p.1=k:=fun k hk=>Jl h3 k (by simpa using hk)
 have cf:∀p∈Zcm ops.toList,ops[p.1]?=some p.2:=fun p hp=>by have:=ZnJ hp;simpa using this
 refine Zg2 hC hM hd (ms:=Xs ops.toList []) (fun i o ho=>?_) _ (Zcm ops.toList) aa cf (Wl h2).1 (fun p hp e he hb=>by have:=(Wl h2).2 p hp e he hb;simpa using this) sM (fun k hk=>?_) (fun j hj p hp=>?_) hS hF hL hN bl hZ h
 ·obtain ⟨p,hp,rfl⟩:=i9 i (Tn.1 ho).1;have:=cf p hp;rw [ho] at this
  cases this
  exact WK h4 p hp
 ·exact m104
 by_cases lx:j<ops.size
 ·obtain ⟨q,hq,he⟩:=i9 j lx;exact absurd he (hj q hq)
 exact m63
end
end Go.PM
end

section
namespace Go.PM
section
variable {G:GE} {e e':Env} {σ σ':St} {w w':World}
inductive NV (n:Nat) (as:List (Option Nat)):PV->PV->Prop
 | sl (t e:Nat) (rows:List (List D)) (j:Nat) (h:as[j]?=some (some t)):NV n as (.sl t e rows) (.sl j e rows)
 | nils (e j:Nat) (h:as[j]?=some none):NV n as (.nils e) (.sl j e [])
 | cl (v:PV) (h:bnd n v=true):NV n as v (clean v)
 | un (v:PV) (h:bnd n v=false):NV n as v .undef
 | clN (v:PV) (h:bnd n v=true):NV n as v (cleanN v)
structure NInv (S tk:List Nat) (as:List (Option Nat)):Prop where
 sub:∀t,t∈tk->t∈S
 mem:∀(i t:Nat),as[i]?=some (some t)->t∈S/\t∉tk
 inj:∀(i j t:Nat),as[i]?=some (some t)->as[j]?=some (some t)->i=j
theorem NV.ext {n:Nat} {as as':List (Option Nat)} {x y:PV} (h:NV n as x y) (hx:∃m,as'=as++m):NV n as' x y:=by
 obtain ⟨m,rfl⟩:=hx;have:∀(j:Nat) (q:Option Nat),as[j]?=some q->(as++m)[j]?=some q:=fun j q hq=>by
  rw [TG (Th.1 hq).1];exact hq
 cases h with
 | sl t e rows j h=>exact .sl t e rows j (this _ _ h)
 | nils e j h=>exact .nils e j (this _ _ h)
 | cl _ h=>exact .cl _ h
 | un _ h=>exact .un _ h
 | clN _ h=>exact .clN _ h
theorem Wm {t x:Nat}:∀{l:List Nat},x∈UV t l->x∈l/\x≠t
 | [],h=>by simp [UV] at h
 | y::l,h=>by
  simp only [UV] at h;split at h
  ·exact ⟨Tu _ (Wm h).1,(Wm h).2⟩
  rename_i hb
  rcases Tr.1 h with rfl | h
  ·exact ⟨sM,fun e=>by subst e;simp at hb⟩
  exact ⟨Tu _ (Wm h).1,(Wm h).2⟩
theorem V7 {as as' as'':List (Option Nat)} (h:∃m,as'=as++m) (h':∃m,as''=as'++m):∃m,as''=as++m:=by
 obtain ⟨m,rfl⟩:=h;obtain ⟨m',rfl⟩:=h';exact ⟨m++m',by rw [Tk]⟩
theorem NInv.add {S tk:List Nat} {as:List (Option Nat)} (h:NInv S tk as) {t:Nat} (ht:t∈tk):NInv S (UV t tk) (as++[some t]):=by
 have key:∀(i s:Nat),(as++[some t])[i]?=some (some s)->(as[i]?=some (some s))\/(i=as.length/\s=t):=fun i s hi=>by
  by_cases ai:i<as.length
  ·rw [TG ai] at hi;exact .inl hi
  rw [TS oM] at hi;have:=(Th.1 hi).1;simp only [Tz] at this;have h0:i - as.length=0:=oM;rw [h0] at hi;simp at hi;exact .inr ⟨oM,hi.symm⟩
 refine ⟨fun x hx=>h.sub x (Wm hx).1,fun i s hi=>?_,fun i j s hi hj=>?_⟩
 ·rcases key i s hi with h1 | ⟨_,rfl⟩
  ·exact ⟨(h.mem i s h1).1,fun hm=>(h.mem i s h1).2 (Wm hm).1⟩
  exact ⟨h.sub _ ht,fun hm=>(Wm hm).2 rfl⟩
 rcases key i s hi with h1 | ⟨h1,rfl⟩ <;> rcases key j s hj with h2 | ⟨h2,h3⟩
 ·exact h.inj i j s h1 h2
 ·subst h3;exact absurd ht (h.mem i _ h1).2
 ·exact absurd ht (h.mem j _ h2).2
 omega
theorem NInv.nil {S tk:List Nat} {as:List (Option Nat)} (h:NInv S tk as):NInv S tk (as++[none]):=by
 have key:∀(i s:Nat),(as++[none])[i]?=some (some s)->(as[i]?=some (some s)):=fun i s hi=>by
  by_cases ai:i<as.length
  ·rw [TG ai] at hi;exact hi
  rw [TS oM] at hi;have:=(Th.1 hi).1;simp only [Tz] at this;have h0:i - as.length=0:=oM;rw [h0] at hi;simp at hi
 exact ⟨h.sub,fun i s hi=>h.mem i s (key i s hi),fun i j s hi hj=>h.inj i j s (key i s hi) (key j s hj)⟩
theorem ZuJ {n:Nat} {S tk:List Nat} {as:List (Option Nat)} (hI:NInv S tk as) {v:PV} {K:PV->List Nat->Nat->Prop} (h:ZrB n tk as.length v K) :
  ∃v' tk' as',K v' tk' as'.length/\(∃m,as'=as++m)/\NInv S tk' as'/\NV n as' v v':=by
 have gen:∀v,(match bnd n v with | true=>Jd (clean v) fun v=>K v tk as.length | false=>K .undef tk as.length:Prop)->∃v' tk' as',K v' tk' as'.length/\(∃m,as'=as++m)/\NInv S tk' as'/\NV n as' v v':=fun v h=>by
  split at h
  ·rename_i hb;rw [ZF] at h;exact ⟨_,tk,as,h,⟨[],sM⟩,hI,.cl v hb⟩
  rename_i hb;exact ⟨_,tk,as,h,⟨[],sM⟩,hI,.un v hb⟩
 cases v with
 | sl t el rows =>
  simp only [ZrB] at h;exact m86
 | nils el=>exact ⟨_,tk,as++[none],by simpa [ZrB] using h,⟨[none],rfl⟩,hI.nil,.nils el _ sM⟩
 | _=>exact gen _ h
theorem ZcC {n:Nat} {S:List Nat}:∀{vs:List PV} {tk:List Nat} {as:List (Option Nat)} (_:NInv S tk as) {K:List PV->List Nat->Nat->Prop},ZrC n vs tk as.length K ->
  ∃vs' tk' as',K vs' tk' as'.length/\(∃m,as'=as++m)/\NInv S tk' as'/\vs'.length=vs.length/\∀(i:Nat) (x y:PV),vs[i]?=some x->vs'[i]?=some y->NV n as' x y
 | [],tk,as,hI,K,h=>⟨[],tk,as,h,⟨[],sM⟩,hI,rfl,fun i x y hx=>by simp at hx⟩
 | v::vs,tk,as,hI,K,h=>by
  obtain ⟨v',tk1,as1,h1,dk,kq,hv⟩:=ZuJ hI h;obtain ⟨vs',tk2,as2,h2,ce,fx,hl,bz⟩:=ZcC kq h1;exact m45
theorem Zj5 {n:Nat} {S tk:List Nat} {as:List (Option Nat)} (hI:NInv S tk as) {v:PV} {K:PV->List Nat->Nat->Prop} (h:Zco n tk as.length v K) :
  ∃v' tk' as',K v' tk' as'.length/\(∃m,as'=as++m)/\NInv S tk' as'/\NV n as' v v':=by
 have gen:∀v,(match bnd n v with | true=>Jd (cleanN v) fun v=>K v tk as.length | false=>K .undef tk as.length:Prop)->∃v' tk' as',K v' tk' as'.length/\(∃m,as'=as++m)/\NInv S tk' as'/\NV n as' v v':=fun v h=>by
  split at h
  ·rename_i hb;rw [ZF] at h;exact ⟨_,tk,as,h,⟨[],sM⟩,hI,.clN v hb⟩
  rename_i hb;exact ⟨_,tk,as,h,⟨[],sM⟩,hI,.un v hb⟩
 cases v with
 | sl t el rows =>
  simp only [Zco] at h;exact m86
 | nils el=>exact ⟨_,tk,as++[none],by simpa [Zco] using h,⟨[none],rfl⟩,hI.nil,.nils el _ sM⟩
 | _=>exact gen _ h
theorem ZfB {n:Nat} {S:List Nat}:∀{vs:List PV} {tk:List Nat} {as:List (Option Nat)} (_:NInv S tk as) {K:List PV->List Nat->Nat->Prop},Zit n vs tk as.length K ->
  ∃vs' tk' as',K vs' tk' as'.length/\(∃m,as'=as++m)/\NInv S tk' as'/\vs'.length=vs.length/\∀(i:Nat) (x y:PV),vs[i]?=some x->vs'[i]?=some y->NV n as' x y
 | [],tk,as,hI,K,h=>⟨[],tk,as,h,⟨[],sM⟩,hI,rfl,fun i x y hx=>by simp at hx⟩
 | v::vs,tk,as,hI,K,h=>by
  obtain ⟨v',tk1,as1,h1,dk,kq,hv⟩:=Zj5 hI h;obtain ⟨vs',tk2,as2,h2,ce,fx,hl,bz⟩:=ZfB kq h1;exact m45
inductive NB (n:Nat) (as:List (Option Nat)):Box->Box->Prop
 | cells (t:TypeId) (cs cs':List PV) (hl:cs'.length=cs.length) (h:∀(i:Nat) (x y:PV),cs[i]?=some x->cs'[i]?=some y->NV n as x y):NB n as (.cells t cs) (.cells t cs')
 | iter (s:List UInt8) (p:Nat):NB n as (.iter s p) (.iter s p)
 | loop (st:LoopState) (pd:Option Code) (r:Loop):NB n as (.loop st pd r) (.loop st pd r)
 | dmap (m:List (List UInt8×MV)):NB n as (.dmap m) (.dmap m)
 | map (cs cs':List PV) (bn:List Nat) (ck:Nat) (hl:cs'.length=cs.length) (h:∀(i:Nat) (x y:PV),cs[i]?=some x->cs'[i]?=some y->NV n as x y):NB n as (.map cs bn ck) (.map cs' bn ck)
theorem NB.ext {n:Nat} {as as':List (Option Nat)} {x y:Box} (h:NB n as x y) (hx:∃m,as'=as++m):NB n as' x y:=by
 cases h with
 | cells t cs cs' hl h=>exact .cells t cs cs' hl fun i x y h1 h2=>(h i x y h1 h2).ext hx
 | iter s p=>exact .iter s p
 | loop st pd r=>exact .loop st pd r
 | dmap m=>exact .dmap m
 | map cs cs' bn ck hl h=>exact .map cs cs' bn ck hl fun i x y h1 h2=>(h i x y h1 h2).ext hx
theorem Vx {n:Nat} {S:List Nat}:∀{m:Nat} {bs:List Box} {tk:List Nat} {as:List (Option Nat)} (_:NInv S tk as) {K:List Box->List Nat->Nat->Prop},ZbR n m bs tk as.length K ->
  ∃bs' tk' as',K bs' tk' as'.length/\(∃m,as'=as++m)/\NInv S tk' as'/\bs'.length=m/\m<=bs.length/\∀(i:Nat) (x y:Box),bs[i]?=some x->bs'[i]?=some y->NB n as' x y
 | 0,bs,tk,as,hI,K,h=>⟨[],tk,as,by simpa [ZbR] using h,⟨[],sM⟩,hI,rfl,T6 _,fun i x y _ hy=>by simp at hy⟩
 | m+1,[],tk,as,hI,K,h=>h.elim
 | m+1,.cells t cs::bs,tk,as,hI,K,h=>by
  obtain ⟨cs',tk1,as1,h1,dk,kq,cn,hv⟩:=ZcC hI h;obtain ⟨bs',tk2,as2,h2,ce,fx,hl,hm,bz⟩:=Vx kq h1;refine ⟨.cells t cs'::bs',tk2,as2,h2,V7 dk ce,fx,by simp [hl],sO,fun i x y hx hy=>?_⟩
  cases i with
  | zero=>simp at hx hy;subst hx;subst hy;exact .cells t cs cs' cn fun i x y h1 h2=>(hv i x y h1 h2).ext ce
  | succ i=>exact bz i x y (by simpa using hx) (by simpa using hy)
 | m+1,.iter s p::bs,tk,as,hI,K,h=>by
  obtain ⟨bs',tk2,as2,h2,ce,fx,hl,hm,bz⟩:=Vx hI (K:=fun l tk k=>K (.iter s p::l) tk k) h;refine ⟨.iter s p::bs',tk2,as2,h2,ce,fx,by simp [hl],sO,fun i x y hx hy=>?_⟩
  cases i with
  | zero=>simp at hx hy;subst hx;subst hy;exact .iter s p
  | succ i=>exact bz i x y (by simpa using hx) (by simpa using hy)
 | m+1,.loop st pd r::bs,tk,as,hI,K,h=>by
  obtain ⟨bs',tk2,as2,h2,ce,fx,hl,hm,bz⟩:=Vx hI (K:=fun l tk k=>K (.loop st pd r::l) tk k) h;refine ⟨.loop st pd r::bs',tk2,as2,h2,ce,fx,by simp [hl],sO,fun i x y hx hy=>?_⟩
  cases i with
  | zero=>simp at hx hy;subst hx;subst hy;exact .loop st pd r
  | succ i=>exact bz i x y (by simpa using hx) (by simpa using hy)
 | m+1,.dmap c::bs,tk,as,hI,K,h=>by
  obtain ⟨bs',tk2,as2,h2,ce,fx,hl,hm,bz⟩:=Vx hI (K:=fun l tk k=>K (.dmap c::l) tk k) h;refine ⟨.dmap c::bs',tk2,as2,h2,ce,fx,by simp [hl],sO,fun i x y hx hy=>?_⟩
  cases i with
  | zero=>simp at hx hy;subst hx;subst hy;exact .dmap c
  | succ i=>exact bz i x y (by simpa using hx) (by simpa using hy)
 | m+1,.map cs bn ck::bs,tk,as,hI,K,h=>by
  obtain ⟨cs',tk1,as1,h1,dk,kq,cn,hv⟩:=ZcC hI h;obtain ⟨bs',tk2,as2,h2,ce,fx,hl,hm,bz⟩:=Vx kq h1;refine ⟨.map cs' bn ck::bs',tk2,as2,h2,V7 dk ce,fx,by simp [hl],sO,fun i x y hx hy=>?_⟩
  cases i with
  | zero=>simp at hx hy;subst hx;subst hy;exact .map cs cs' bn ck cn fun i x y h1 h2=>(hv i x y h1 h2).ext ce
  | succ i=>exact bz i x y (by simpa using hx) (by simpa using hy)
structure Drop (n:Nat) (e:Env) (σ:St) (e':Env) (σ':St):Prop where
 le:n<=σ.bx.length
 len:σ'.bx.length=n
 beta:e'.β=e.β
 X:e'.X=e.X
 okc:∀b off,okc e σ b off->okc e' σ' b off
 tok:∀t,t∈σ'.tk->∀p,e'.M t=some p->∃t0,t0∈σ.tk/\e.M t0=some p
theorem Later.drop {e1:Env} {σ1:St} {w1:World} {n:Nat} (h:Later e1 σ1 w1 e σ w) (hd:Drop n e σ e' σ') (hn:σ1.bx.length<=n):Later e1 σ1 w1 e' σ' w where
 len:=by rw [hd.len];exact hn
 beta:=by rw [hd.beta];exact h.beta
 X:=by rw [hd.X];exact h.X
 pres:=fun b off u hu ho=>let ⟨h1,h2⟩:=h.pres b off u hu ho;⟨hd.okc b off h1,h2⟩
 blocks:=h.blocks
 size:=h.size
 os:=h.os
 tape:=h.tape
 output:=h.output
 fresh:=fun i h1 h2=>by rw [hd.len] at h2;rw [hd.beta];exact h.fresh i h1 (TD h2 hd.le)
 ftok:=fun t ht p hp=>let ⟨t0,h0,h1⟩:=hd.tok t ht p hp;h.ftok t0 h0 p h1
theorem Marks.drop {lo:Nat×List Deferred×Bool} {n:Nat} {l:List Deferred} (h:Marks lo e σ w l) (hd:Drop n e σ e' σ'):Marks lo e' σ' w l:=by
 obtain ⟨h0,rs,h1,eg,h2,h3⟩:=h;refine ⟨h0,rs,h1,eg,h2,fun r hr=>?_⟩;obtain ⟨g1,g2,g3,g4⟩:=h3 r hr;refine ⟨g1,g2,fun i hi=>?_,fun t ht p hp=>?_⟩
 ·rw [hd.beta];rw [hd.len] at hi;exact g3 i (TD hi hd.le)
 obtain ⟨t0,h0,qx⟩:=hd.tok t ht p hp;exact g4 t0 h0 p qx
theorem mem_toks {t:Nat}:∀{k:Nat},t∈toks k↔t<k
 | 0=>by simp [toks]
 | k+1=>by simp only [toks,Tr,mem_toks];omega
def Env.re (e:Env) (as:List (Option Nat)):Env:={ e with M:=fun j=>(as[j]?.join).bind e.M }
theorem ZaC {as:List (Option Nat)} {j:Nat} {p:Nat×Nat} (h:(e.re as).M j=some p):∃t,as[j]?=some (some t)/\e.M t=some p:=by
 simp only [Env.re] at h
 cases hj:as[j]? with
 | none=>rw [hj] at h;simp at h
 | some q =>
 cases q with
 | none=>rw [hj] at h;simp at h
 | some t=>rw [hj] at h;exact ⟨t,rfl,by simpa using h⟩
theorem ZcD {n:Nat} (hn:n<=σ.bx.length) {as:List (Option Nat)} {tk:List Nat} (hI:NInv σ.tk tk as) {bs:List Box} (hb:bs.length=n):Drop n e σ (e.re as) ⟨bs,toks as.length,as.length⟩ where
 le:=hn
 len:=hb
 beta:=rfl
 X:=rfl
 okc:=fun b off ho=>⟨ho.1,fun i hi=>ho.2.1 i (TD hi (by rw [show (St.mk bs (toks as.length) as.length).bx.length=n from hb];exact hn)),fun t ht p hp rq=>by
  obtain ⟨t0,h1,h2⟩:=ZaC hp;exact ho.2.2 t0 (hI.mem _ _ h1).1 p h2 rq⟩
 tok:=fun t ht p hp=>by
  obtain ⟨t0,h1,h2⟩:=ZaC hp;exact ⟨t0,(hI.mem _ _ h1).1,h2⟩
theorem NV.rel {n:Nat} (hn:n<=σ.bx.length) {as:List (Option Nat)} {tk:List Nat} (hI:NInv σ.tk tk as) {bs:List Box} (hb:bs.length=n) {x y:PV} {v:Value} (h:NV n as x y) (hv:VRel G e σ w x v) :
  VRel G (e.re as) ⟨bs,toks as.length,as.length⟩ w y v:=by
 have hd:=ZcD (e:=e) hn hI hb;have ai:∀(j:Nat) (q:Option Nat),as[j]?=some q->j<as.length:=fun j q hq=>(Th.1 hq).1
 cases h with
 | sl t el rows j h =>
  cases hv with
  | sl _ _ _ _ gy ca ht =>
  refine .sl j el rows v (ai _ _ h) (ca.mono fun b off u hu ho=>⟨hd.okc b off ho,hu⟩) fun _=>?_
  have hM:(e.re as).M j=e.M t:=by simp [Env.re,h]
  rcases ht (hI.mem _ _ h).1 with ⟨h1,h2,h3⟩ | ⟨sz,h1,h2,h3,b,off,cap,cs,ty,fz,h4,h5,h6,h7,h8,h9,h10⟩
  ·exact .inl ⟨h1,h2,hM.trans h3⟩
  exact .inr ⟨sz,h1,h2,h3,b,off,cap,cs,ty,fz,h4,h5,h6,h7,h8,h9,hM.trans h10⟩
 | nils el j h =>
  cases hv with
  | nils =>
  refine .sl j el [] _ (ai _ _ h) .slnil fun _=>.inl ⟨rfl,rfl,?_⟩
  simp [Env.re,h]
 | cl _ h=>exact VRel.clean (e:=e) (e':=e.re as) (σ:=σ) (σ':=⟨bs,toks as.length,as.length⟩) (w:=w) (w':=w) (n:=n) (by show n<=bs.length;omega) (fun _ _=>rfl) (fun b off u hu ho=>⟨hd.okc b off ho,hu⟩) hv h
 | un _=>exact .undef v
 | clN _ h=>exact VRel.cleanN (e:=e) (e':=e.re as) (σ:=σ) (σ':=⟨bs,toks as.length,as.length⟩) (w:=w) (w':=w) (n:=n) (by show n<=bs.length;omega) (fun _ _=>rfl) (fun b off u hu ho=>⟨hd.okc b off ho,hu⟩) hv h
theorem ZfC {n:Nat} (hS:SRel G e σ w) (hn:n<=σ.bx.length) {as:List (Option Nat)} {tk:List Nat} (hI:NInv σ.tk tk as) {bs:List Box} (hb:bs.length=n)
  (kj:∀(i:Nat) (x y:Box),σ.bx[i]?=some x->bs[i]?=some y->NB n as x y):SRel G (e.re as) ⟨bs,toks as.length,as.length⟩ w where
 inj:=fun i j hi hj h=>hS.inj i j (by simp only at hi;omega) (by simp only at hj;omega) h
 box:=fun i y hy=>by
  have hi:=(Th.1 hy).1;simp only at hi;have hx:σ.bx[i]?=some σ.bx[i]:=Te oM;have hB:=hS.box i _ hx;have hN:=kj i _ y hx hy;generalize σ.bx[i]=x at hB hN
  cases hN with
  | cells t cs cs' hl h =>
   obtain ⟨vs,h1,h2,h3⟩:=hB;refine ⟨vs,h1,by rw [hl];exact h2,fun k z u hz hu=>?_⟩;have hk:=(Th.1 hz).1;have hx:cs[k]?=some cs[k]:=Te oM;exact ⟨(h k _ z hx hz).rel hn hI hb (h3 k _ u hx hu).1,(h3 k _ u hx hu).2⟩
  | iter s p=>exact hB
  | loop st pd r=>exact hB
  | dmap m=>exact hB.dmapTo rfl fun d v hv=>by have q:VRel G _ _ _ (.d d) v:=(NV.cl (n:=n) (as:=as) (.d d) rfl).rel hn hI hb (VRel.d d v hv);cases q;assumption
  | map cs cs' bn ck hl h=>exact hB.mapTo rfl hl fun i x y hx hy=>⟨fun v hv=>(h i x y hx hy).rel hn hI hb hv,fun d hd=>by subst hd;cases h i _ y hx hy with | cl _ _=>rfl | clN _ _=>rfl | un _ hu=>cases hu⟩
 low:=fun i hi=>hS.low i (by simp only at hi;omega)
 tkn:=fun t ht=>mem_toks.1 ht
 own:=fun t ht p hp=>by
  obtain ⟨t0,h1,h2⟩:=ZaC hp;obtain ⟨h3,h4,h5⟩:=hS.own t0 (hI.mem _ _ h1).1 p h2;exact ⟨h3,fun i hi=>h4 i (by simp only at hi;omega),h5⟩
 dis:=fun t t' ht ma ao p p' hp gf=>by
  obtain ⟨t0,h1,h2⟩:=ZaC hp;obtain ⟨t1,h3,h4⟩:=ZaC gf;exact hS.dis t0 t1 (hI.mem _ _ h1).1 (hI.mem _ _ h3).1 (fun h=>ao (hI.inj _ _ _ h1 (by rw [h];exact h3))) p p' h2 h4
 xlt:=hS.xlt
 xown:=fun t ht p hp=>by
  obtain ⟨t0,h1,h2⟩:=ZaC hp;exact hS.xown t0 (hI.mem _ _ h1).1 p h2
 glob:=hS.glob
 big:=hS.big
theorem ZDn (S:List Nat) (tk:List Nat) (h:∀t,t∈tk->t∈S):NInv S tk []:=⟨h,fun i t h=>by simp at h,fun i j t h=>by simp at h⟩
theorem Zj6 (hS:SRel G e σ w) {n:Nat} {vs:List PV} {K:List PV->St->Prop} (h:ZlF n vs σ K) :
  ∃vs' σ' e',K vs' σ'/\SRel G e' σ' w/\Drop n e σ e' σ'/\vs'.length=vs.length/\∀(i:Nat) (x y:PV) (u:Value),vs[i]?=some x->vs'[i]?=some y->VRel G e σ w x u->VRel G e' σ' w y u:=by
 obtain ⟨vs',tk1,as1,h1,dk,kq,hl,hv⟩:=ZcC (as:=[]) (ZDn σ.tk σ.tk fun _ h=>h) h;obtain ⟨bs,tk2,as2,h2,ce,fx,cq,hn,kj⟩:=Vx kq h1;exact ⟨vs',⟨bs,toks as2.length,as2.length⟩,e.re as2,h2,ZfC hS hn fx cq kj,ZcD hn fx cq,hl,fun i x y u hx hy hr=>((hv i x y hx hy).ext ce).rel hn fx cq hr⟩
inductive NVA (n:Nat) (as:List (Option Nat)):PV->PV->Prop
 | one (x y:PV) (h:NV n as x y):NVA n as x y
 | agg (cs cs':List PV) (hl:cs'.length=cs.length) (h:∀(i:Nat) (x y:PV),cs[i]?=some x->cs'[i]?=some y->NV n as x y):NVA n as (.agg cs) (.agg cs')
theorem NVA.ext {n:Nat} {as as':List (Option Nat)} {x y:PV} (h:NVA n as x y) (hx:∃m,as'=as++m):NVA n as' x y:=by
 cases h with
 | one _ _ h=>exact .one _ _ (h.ext hx)
 | agg cs cs' hl h=>exact .agg cs cs' hl fun i x y h1 h2=>(h i x y h1 h2).ext hx
theorem NVA.rel {n:Nat} (hn:n<=σ.bx.length) {as:List (Option Nat)} {tk:List Nat} (hI:NInv σ.tk tk as) {bs:List Box} (hb:bs.length=n) {x y:PV} {v:Value} (h:NVA n as x y) (hv:VRel G e σ w x v) :
  VRel G (e.re as) ⟨bs,toks as.length,as.length⟩ w y v:=by
 cases h with
 | one _ _ h=>exact h.rel hn hI hb hv
 | agg cs cs' hl h =>
 cases hv with
 | agg _ vs hs h2 h1 =>
 refine .agg cs' vs (by rw [hs,hl]) (fun i y u hy hu=>?_) h1;have hi:=(Th.1 hy).1;rw [hl] at hi;have hx:=Te hi;exact (h i _ y hx hy).rel hn hI hb (h2 i _ u hx hu)
theorem ZrI {n:Nat} {S tk:List Nat} {as:List (Option Nat)} (hI:NInv S tk as) {v:PV} {K:PV->List Nat->Nat->Prop} (h:ZgN n tk as.length v K) :
  ∃v' tk' as',K v' tk' as'.length/\(∃m,as'=as++m)/\NInv S tk' as'/\NVA n as' v v':=by
 have gen:Zco n tk as.length v K->∃v' tk' as',K v' tk' as'.length/\(∃m,as'=as++m)/\NInv S tk' as'/\NVA n as' v v':=fun h=>by
  obtain ⟨v',tk',as',h1,h2,h3,h4⟩:=Zj5 hI h;exact ⟨v',tk',as',h1,h2,h3,.one _ _ h4⟩
 cases v with
 | agg cs =>
  simp only [ZgN] at h;obtain ⟨cs',tk',as',h1,h2,h3,h4,h5⟩:=ZfB hI h;exact ⟨_,tk',as',h1,h2,h3,.agg cs cs' h4 h5⟩
 | _=>exact gen h
theorem ZfD {n:Nat} {S:List Nat}:∀{vs:List PV} {tk:List Nat} {as:List (Option Nat)} (_:NInv S tk as) {K:List PV->List Nat->Nat->Prop},Ziu n vs tk as.length K ->
  ∃vs' tk' as',K vs' tk' as'.length/\(∃m,as'=as++m)/\NInv S tk' as'/\vs'.length=vs.length/\∀(i:Nat) (x y:PV),vs[i]?=some x->vs'[i]?=some y->NVA n as' x y
 | [],tk,as,hI,K,h=>⟨[],tk,as,h,⟨[],sM⟩,hI,rfl,fun i x y hx=>by simp at hx⟩
 | v::vs,tk,as,hI,K,h=>by
  obtain ⟨v',tk1,as1,h1,dk,kq,hv⟩:=ZrI hI h;obtain ⟨vs',tk2,as2,h2,ce,fx,hl,bz⟩:=ZfD kq h1;exact m45
theorem ZrJ {md n:Nat} {S:List Nat} {vs:List PV} {tk:List Nat} {as:List (Option Nat)} (hI:NInv S tk as) {K:List PV->List Nat->Nat->Prop} (h:Znd md n vs tk as.length K) :
  ∃vs' tk' as',K vs' tk' as'.length/\(∃m,as'=as++m)/\NInv S tk' as'/\vs'.length=vs.length/\∀(i:Nat) (x y:PV),vs[i]?=some x->vs'[i]?=some y->NVA n as' x y:=by
 unfold Znd at h
 split at h
 ·obtain ⟨a,b,c,h1,h2,h3,h4,h5⟩:=ZcC hI h;exact ⟨a,b,c,h1,h2,h3,h4,fun i x y h6 h7=>.one _ _ (h5 i x y h6 h7)⟩
 ·obtain ⟨a,b,c,h1,h2,h3,h4,h5⟩:=ZfB hI h;exact ⟨a,b,c,h1,h2,h3,h4,fun i x y h6 h7=>.one _ _ (h5 i x y h6 h7)⟩
 exact ZfD hI h
theorem ZcE (hS:SRel G e σ w) {ag:Bool} {n:Nat} {vs:List PV} {K:List PV->St->Prop} (h:VT ag n vs σ K) :
  ∃vs' σ' e',K vs' σ'/\SRel G e' σ' w/\Drop n e σ e' σ'/\vs'.length=vs.length/\∀(i:Nat) (x y:PV) (u:Value),vs[i]?=some x->vs'[i]?=some y->VRel G e σ w x u->VRel G e' σ' w y u:=by
 cases ag with
 | false=>exact Zj6 hS h
 | true =>
 obtain ⟨vs',tk1,as1,h1,dk,kq,hl,hv⟩:=ZfD (as:=[]) (ZDn σ.tk σ.tk fun _ h=>h) h;obtain ⟨bs,tk2,as2,h2,ce,fx,cq,hn,kj⟩:=Vx kq h1;exact ⟨vs',⟨bs,toks as2.length,as2.length⟩,e.re as2,h2,ZfC hS hn fx cq kj,ZcD hn fx cq,hl,fun i x y u hx hy hr=>((hv i x y hx hy).ext ce).rel hn fx cq hr⟩
end
end Go.PM
end

section
namespace Go.PM
theorem Flat.front {ok:Nat->Nat->Prop} {w:World} {r1 r2:List (List D)} {sz:Nat} {xs:List Value} (h:Flat ok w (r1++r2) sz xs):Flat ok w r1 sz (xs.take (r1.length * sz)):=by
 have hl:=h.len;rw [Tb,Si] at hl;refine ⟨by rw [List.length_take];omega,fun r hr=>h.wid r (TN.2 (.inl hr)),fun a b y u hb hy hu=>?_⟩;have ha:a<r1.length:=by
  apply Classical.byContradiction
  intro hn
  rw [Sj oM] at hy;cases hy
 refine h.rel a b y u hb (by rw [TG ha];exact hy) ?_;rw [List.getElem?_take] at hu;split at hu
 ·exact hu
 cases hu
section
variable {G:GE} {T:Tab} {e:Env} {σ:St} {w:World}
theorem ZiJ (hT:TabOK T G.P) (hS:SRel G e σ w) {t tx el ty:Nat} (ld:(T.get t).kind=.slice el) (cz:(T.get el).kind≠.other) (ay:0<(T.get el).size)
  {rows:List (List D)} {z:List D} {v vx:Value} {px:PV} (hD:DRel (okc e σ) w (.sl rows) v) (tk0:List Nat) (bv:∀x,x∈tk0->x∈σ.tk)
  (hO:(v=.slice none 0 0/\rows=[])\/∃tok,tok∈σ.tk/\tok∉tk0/\Owned G e w tok el rows v)
  (hm:X2 T tx el px=some [z]) (hx:VRel G e σ w px vx) (hw:z.length=(T.get el).size)
  (iw:(rows.length+1) * (T.get el).bytes<=2 ^ 47) (aa:rows.length+1<=2 ^ 47) :
  ∃w1 b off cap e1,(Builtin.append_ #[t,tx] ty #[v,vx]).run G.P w=.ok (.slice (some ⟨b,off,none⟩) (rows.length+1) cap) w1/\rows.length+1<=cap /\
   Stepped e σ w e1 { σ with tk:=σ.nx::tk0,nx:=σ.nx+1 } w1/\SRel G e1 { σ with tk:=σ.nx::tk0,nx:=σ.nx+1 } w1 /\
   VRel G e1 { σ with tk:=σ.nx::tk0,nx:=σ.nx+1 } w1 (.sl σ.nx el rows) (.slice (some ⟨b,off,none⟩) rows.length cap):=by
 obtain ⟨news,jp,dt⟩:=ZtE hT hm hx (fun r hr=>by simp at hr;rw [hr];exact hw) ay rfl;obtain ⟨uz,lr,ff⟩:=Jj hT hS cz tk0 hO;obtain ⟨v',w1,ah,oy,jr,i5,ct,be,f6,i6⟩:=Zew (ty:=ty) (more:=[z]) hT hS ld cz ay hD lr uz jp dt iw aa;rcases i6 with ⟨_,h⟩ | ⟨b,off,cap,cs,tyb,fz,rfl,hb,hc,hh,dj,ji,io,xs,xg,hxc⟩
 ·simp at h
 obtain ⟨e1,h1,h2,h3⟩:=UB (more:=[]) (v':=.slice (some ⟨b,off,none⟩) rows.length cap) hT hS cz ay hD tk0 bv lr (fun r h=>by cases h) ff oy jr i5 ct be f6
  (.inr ⟨b,off,cap,cs,tyb,fz,sM,hb,by simp at hc |-;omega,hh,dj,ji,io,xs.take (rows.length * (T.get el).size),by rw [TU];exact xg.front,fun k u hk=>hxc k u (by
   rw [List.getElem?_take] at hk;split at hk
   ·exact hk
   cases hk)⟩)
 rw [TU] at h3;exact ⟨w1,b,off,cap,e1,by rw [ah];simp,by simpa using hc,h1,h2,h3⟩
theorem ZnK (hT:TabOK T G.P) (hS:SRel G e σ w) {el tok b off cap:Nat} (cz:(T.get el).kind≠.other) (ay:0<(T.get el).size)
  {rows:List (List D)} {row:List D} {us:List Value} (hV:VRel G e σ w (.sl tok el rows) (.slice (some ⟨b,off,none⟩) rows.length cap)) (bw:tok∈σ.tk) (hcap:rows.length+1<=cap)
  (dt:Flat (okc e σ) w [row] (T.get el).size us) :
  (∀j,j<us.length->(w.cell? ⟨b,off+rows.length * (T.get el).size+j,none⟩).isSome=true)/\(∀j,j<us.length->w.frozen? ⟨b,off+rows.length * (T.get el).size+j,none⟩=false) /\
  (∀i,i<σ.bx.length->e.β i≠b) /\
  ∃e1,Stepped e σ w e1 { σ with tk:=σ.nx::UV tok σ.tk,nx:=σ.nx+1 } (w.setCells b (off+rows.length * (T.get el).size) us)/\SRel G e1 { σ with tk:=σ.nx::UV tok σ.tk,nx:=σ.nx+1 } (w.setCells b (off+rows.length * (T.get el).size) us) /\
   VRel G e1 { σ with tk:=σ.nx::UV tok σ.tk,nx:=σ.nx+1 } (w.setCells b (off+rows.length * (T.get el).size) us) (.sl σ.nx el (rows++[row])) (.slice (some ⟨b,off,none⟩) (rows.length+1) cap):=by
 cases hV with
 | sl _ _ _ _ hn hD lu =>
 have bv:∀x,x∈UV tok σ.tk->x∈σ.tk:=fun x hx=>((WJ _ _ _).1 hx).1
 have hnt:tok∉UV tok σ.tk:=fun h=>((WJ _ _ _).1 h).2 rfl
 obtain ⟨uz,lr,ff⟩:=Jj hT hS cz (UV tok σ.tk) (.inr ⟨tok,bw,hnt,lu bw⟩);rcases uz with ⟨h,_⟩ | ⟨b',off',cap',cs,tyb,fz,he,hb,hc,hh,dj,ji,pu⟩
 ·cases h
 cases he
 obtain ⟨olds,av,aj,bq,fu⟩:=ZDm lr ay hD;have xj:us.length=(T.get el).size:=by rw [dt.len];simp
 have vh:(rows.length+1) * (T.get el).size<=cap * (T.get el).size:=TZ _ hcap;rw [Si] at vh;have be:∀k,k<cs.size->(w.cell? ⟨b,k,none⟩).isSome=true:=fun k hk=>by simp [World.cell?,hh,hk]
 obtain ⟨r1,r2,r3,r4⟩:=YK b us (off+rows.length * (T.get el).size) w;obtain ⟨cs',q1,q2,q3⟩:=Y6 b us (off+rows.length * (T.get el).size) w cs tyb fz hh;refine ⟨fun j hj=>be _ (by have:=dj.1;omega),fun j hj=>?_,pu,?_⟩
 ·simp only [World.frozen?,hh];have h1:=ji.2 (off+rows.length * (T.get el).size+j) oM
  by_cases h2:fz.1<=off+rows.length * (T.get el).size+j
  ·have:=h1 h2;simp;intro _;omega
  simp;omega
 refine UB (v:=.slice (some ⟨b,off,none⟩) rows.length cap) hT hS cz ay hD (UV tok σ.tk) bv lr (fun r h=>by simp at h;rw [h];exact dt.wid _ sM) ff r1 r2 r3 (by rw [Xz];exact Tq _)
  (fun b' o' u hu ho=>?_) (fun b' iz hn=>r4 b' (hn b off cap rfl)) (.inr ⟨b,off,cap,cs',tyb,fz,sM,hb,by simpa using hcap,q1,⟨by rw [q2];exact dj.1,dj.2.1,dj.2.2.1,dj.2.2.2⟩,ji,.inl ⟨cap,rfl⟩,olds++us,av.append dt,fun k u hk=>?_⟩)
 ·by_cases kh:b'=b
  ·subst kh
   by_cases zh:off+rows.length * (T.get el).size<=o'
   ·exact .inr ⟨b',off,cap,rfl,rfl,zh⟩
   left
   rw [World.cell?_setCells_out b' us _ w ⟨b',o',none⟩ (fun _ _=>.inl (by show o'<_;omega))];exact hu
  left;simpa [World.cell?,r4 b' kh] using hu
 by_cases d7:k<olds.length
 ·rw [TG d7] at hk;rw [World.cell?_setCells_out b us _ w ⟨b,off+k,none⟩ (fun _ _=>.inl (by show off+k<_;rw [<- av.len];omega))];exact aj k u hk
 rw [TS oM] at hk;have t7:=(Th.1 hk).1;have:=World.cell?_setCells_in b us (off+rows.length * (T.get el).size) w (fun j hj=>be _ (by have:=dj.1;omega)) (k - olds.length) t7;exact m126
end
structure Hole4 (ops:Array Oper) (m:Nat) (I S F H:Oper):Prop where
 size:ops.size=m+5
 oI:ops[m+1]?=some I
 oS:ops[m+2]?=some S
 oF:ops[m+3]?=some F
 oH:ops[m+4]?=some H
 gI:I.guard=none
 gS:S.guard=none
 gF:F.guard=none
 gH:H.guard=none
 nI:∀c,I.op≠.defer c
 nS:∀c,S.op≠.defer c
 nF:∀c,F.op≠.defer c
 nH:∀c,H.op≠.defer c
 eI:∀ed∈I.after,Region.binds .any ed=true->ed.on<=m
 eF:∀ed∈F.after,Region.binds .any ed=true->ed.on<=m
 eS:∀ed∈S.after,Region.binds .any ed=true->ed.on<=m+1
 eH:∀ed∈H.after,Region.binds .any ed=true->ed.on<=m\/ed.on=m+3
 eSI:∃ed∈S.after,Region.binds .any ed=true/\ed.on=m+1
 eHF:∃ed∈H.after,Region.binds .any ed=true/\ed.on=m+3
def cnt (i s f h:Bool):Nat:=(!i).toNat+(!s).toNat+(!f).toNat+(!h).toNat
theorem ZcF {P:Program} {ro:Option Nat} {n:Nat} {ops:Array Oper} {Q:Exit->Act->World->Prop} {i:Nat} {o:Oper} {K:Act->World->Prop} {a:Act} {w w':World} {v:Value} (ho:ops[i]?=some o) (hg:o.guard=none) (gx:∀c,o.op≠.defer c)
  (ah:(execOp a.eval o).run P w=.ok (.value v) w'\/((execOp a.eval o).run P w=.ok .skip w'/\v=Go.undef)) (hk:K (a.put o.dst v) w'):wpOpIn (fw ro) n P ops Q i K a w:=by
 unfold wpOpIn
 rw [ho];dsimp only;have hw:Region.wanted o (yielded ops a.tmps)=true:=by simp [Region.wanted,hg]
 rw [Tj hw];refine ⟨fun _ _=>trivial,?_⟩;rw [show (fw ro).round=ro from rfl,Oper.semAt_eq _ _ _ gx];rcases ah with hr | ⟨hr,rfl⟩
 ·rw [hr];exact hk
 rw [hr];exact hk
theorem ZAD {P:Program} {ro:Option Nat} {n:Nat} {ops:Array Oper} {m:Nat} {I S F H:Oper} (h4:Hole4 ops m I S F H) {Q:Exit->Act->World->Prop} {A:Bool->Bool->Act} {W:Bool->Bool->World} {vI vF:Value}
  (rI:∀f h,(h=true->f=true)->(execOp (A false f).eval I).run P (W false h)=.ok (.value vI) (W false h)) (pI:∀f,(A false f).put I.dst vI=A true f)
  (rF:∀i s,(s=true->i=true)->(execOp (A i false).eval F).run P (W s false)=.ok (.value vF) (W s false)) (pF:∀i,(A i false).put F.dst vF=A i true)
  (rS:∀f h,(h=true->f=true)->(execOp (A true f).eval S).run P (W false h)=.ok .skip (W true h)) (pS:∀f,(A true f).put S.dst Go.undef=A true f)
  (rH:∀i s,(s=true->i=true)->(execOp (A i true).eval H).run P (W s false)=.ok .skip (W s true)) (pH:∀i,(A i true).put H.dst Go.undef=A i true)
  (hQ:Q .normal (A true true) (W true true)) :
  ∀(k:Nat) (i s f h:Bool),cnt i s f h=k->(s=true->i=true)->(h=true->f=true)->∀(listed:Array Bool),listed.size=ops.size ->
   (∀j,j<ops.size->(listed.getD j false=true↔(j=m+1->i=true)/\(j=m+2->s=true)/\(j=m+3->f=true)/\(j=m+4->h=true))) ->
   wpAnyIn (fw ro) n P .any ops Q k listed (A i f) (W s h):=by
 intro k
 induction k with
 | zero =>
  intro i s f h hc ua ub listed hsz dg
  obtain ⟨rfl,rfl,rfl,rfl⟩:i=true/\s=true/\f=true/\h=true:=by
   revert hc;cases i <;> cases s <;> cases f <;> cases h <;> simp [cnt]
  refine ⟨?_,hQ⟩;rw [List.eq_nil_iff_forall_not_mem];intro j hj
  obtain ⟨h1,o,ho,_⟩:=mem_ready.1 hj;have ai:=(Tn.1 ho).1;have:=(dg j ai).2 ⟨fun _=>rfl,fun _=>rfl,fun _=>rfl,fun _=>rfl⟩;have fd:j<listed.size:=by rw [hsz];exact ai
  simp [Array.getD,fd] at this h1;rw [this] at h1;cases h1
 | succ k ih =>
 intro i s f h hc ua ub listed hsz dg
 have jk:∀i b,i<ops.size->listed.getD i b=listed.getD i false:=fun i b hi=>by
  exact m79
 have zq:=h4.size;have o5:∀(j:Nat) (i' s' f' h':Bool),j<ops.size->(∀q,q<ops.size->((q=m+1->i'=true)/\(q=m+2->s'=true)/\(q=m+3->f'=true)/\(q=m+4->h'=true)↔q=j\/((q=m+1->i=true)/\(q=m+2->s=true)/\(q=m+3->f=true)/\(q=m+4->h=true)))) ->
   ∀q,q<ops.size->((listed.setIfInBounds j true).getD q false=true↔(q=m+1->i'=true)/\(q=m+2->s'=true)/\(q=m+3->f'=true)/\(q=m+4->h'=true)):=fun j i' s' f' h' hj hh q hq=>by
  rw [hh q hq]
  by_cases zt:q=j
  ·subst zt;have fd:q<listed.size:=by rw [hsz];exact hq
   simp [Array.getD,fd]
  have:(listed.setIfInBounds j true).getD q false=listed.getD q false:=getD_set_ne false (Ne.symm zt);rw [this,dg q hq]
  constructor
  ·exact fun h=>.inr h
  rintro (h | h)
  ·exact absurd h zt
  exact h
 refine ⟨fun hr=>?_,fun j hj=>?_⟩
 ·exfalso;have rdy:∀j o,ops[j]?=some o->listed.getD j false=false->(∀ed∈o.after,Region.binds .any ed=true->listed.getD ed.on false=true)->False:=fun j o ho hl he=>by
   have:j∈Region.ready .any ops listed:=mem_ready.2 ⟨by rw [jk _ _ (Tn.1 ho).1];exact hl,o,ho,he⟩;rw [hr] at this;cases this
  have fls:∀j,j<ops.size->¬((j=m+1->i=true)/\(j=m+2->s=true)/\(j=m+3->f=true)/\(j=m+4->h=true))->listed.getD j false=false:=fun j hj hn=>by
   cases hv:listed.getD j false with
   | false=>rfl
   | true=>exact absurd ((dg j hj).1 hv) hn
  cases i with
  | false=>exact rdy (m+1) I h4.oI (fls _ oM (fun hh=>by have:=hh.1 rfl;cases this)) fun ed he hb=>(dg _ (by have:=h4.eI ed he hb;omega)).2 (by have:=h4.eI ed he hb;exact ⟨oM,oM,oM,oM⟩)
  | true =>
  cases s with
  | false=>exact rdy (m+2) S h4.oS (fls _ oM (fun hh=>by have:=hh.2.1 rfl;cases this)) fun ed he hb=>(dg _ (by have:=h4.eS ed he hb;omega)).2 (by have:=h4.eS ed he hb;exact ⟨fun _=>rfl,oM,oM,oM⟩)
  | true =>
  cases f with
  | false=>exact rdy (m+3) F h4.oF (fls _ oM (fun hh=>by have:=hh.2.2.1 rfl;cases this)) fun ed he hb=>(dg _ (by have:=h4.eF ed he hb;omega)).2 (by have:=h4.eF ed he hb;exact ⟨fun _=>rfl,fun _=>rfl,oM,oM⟩)
  | true =>
  cases h with
  | false=>exact rdy (m+4) H h4.oH (fls _ oM (fun hh=>by have:=hh.2.2.2 rfl;cases this)) fun ed he hb=>(dg _ (by have:=h4.eH ed he hb;omega)).2 (by have:=h4.eH ed he hb;exact ⟨fun _=>rfl,fun _=>rfl,fun _=>rfl,oM⟩)
  | true=>simp [cnt] at hc
 obtain ⟨h1,o,ho,cd⟩:=mem_ready.1 hj;have ai:=(Tn.1 ho).1;rw [jk _ _ ai] at h1;have hn:¬((j=m+1->i=true)/\(j=m+2->s=true)/\(j=m+3->f=true)/\(j=m+4->h=true)):=fun hh=>by
  rw [(dg j ai).2 hh] at h1;cases h1
 have l6:(listed.setIfInBounds j true).size=ops.size:=by simpa using hsz
 by_cases j1:j=m+1
 ·subst j1;have hi:i=false:=by cases i with | false=>rfl | true=>exact absurd ⟨fun _=>rfl,oM,oM,oM⟩ hn
  subst hi;have hs:s=false:=by cases s with | false=>rfl | true=>cases ua rfl
  subst hs;rw [h4.oI] at ho;cases ho;refine ZcF h4.oI h4.gI h4.nI (.inl (rI f h ub)) ?_;rw [pI];exact ih true false f h (by simp [cnt] at hc |-;omega) (fun h=>by cases h) ub _ l6 (o5 _ _ _ _ _ ai fun q hq=>by
   by_cases gk:q=m+1
   ·subst gk;simp
   simp [gk])
 by_cases j2:j=m+2
 ·subst j2;have hs:s=false:=by cases s with | false=>rfl | true=>exact absurd ⟨oM,fun _=>rfl,oM,oM⟩ hn
  subst hs;rw [h4.oS] at ho;cases ho;obtain ⟨ed,he,hb,o6⟩:=h4.eSI;have hi:i=true:=by
   have:=cd ed he hb;rw [o6] at this;exact ((dg _ oM).1 this).1 rfl
  subst hi;refine ZcF h4.oS h4.gS h4.nS (.inr ⟨rS f h ub,rfl⟩) ?_;rw [pS];exact ih true true f h (by simp [cnt] at hc |-;omega) (fun _=>rfl) ub _ l6 (o5 _ _ _ _ _ ai fun q hq=>by
   by_cases gk:q=m+2
   ·subst gk;simp
   simp [gk])
 by_cases j3:j=m+3
 ·subst j3;have hf:f=false:=by cases f with | false=>rfl | true=>exact absurd ⟨oM,oM,fun _=>rfl,oM⟩ hn
  subst hf;have hh:h=false:=by cases h with | false=>rfl | true=>cases ub rfl
  subst hh;rw [h4.oF] at ho;cases ho;refine ZcF h4.oF h4.gF h4.nF (.inl (rF i s ua)) ?_;rw [pF];exact ih i s true false (by simp [cnt] at hc |-;omega) ua (fun h=>by cases h) _ l6 (o5 _ _ _ _ _ ai fun q hq=>by
   by_cases gk:q=m+3
   ·subst gk;simp
   simp [gk])
 by_cases j4:j=m+4
 ·subst j4;have hh:h=false:=by cases h with | false=>rfl | true=>exact absurd ⟨oM,oM,oM,fun _=>rfl⟩ hn
  subst hh;rw [h4.oH] at ho;cases ho;obtain ⟨ed,he,hb,o6⟩:=h4.eHF;have hf:f=true:=by
   have:=cd ed he hb;rw [o6] at this;exact ((dg _ oM).1 this).2.2.1 rfl
  subst hf;refine ZcF h4.oH h4.gH h4.nH (.inr ⟨rH i s ua,rfl⟩) ?_;rw [pH];exact ih i s true true (by simp [cnt] at hc |-;omega) ua (fun _=>rfl) _ l6 (o5 _ _ _ _ _ ai fun q hq=>by
   by_cases gk:q=m+4
   ·subst gk;simp
   simp [gk])
 exact absurd ⟨fun e=>absurd e j1,fun e=>absurd e j2,fun e=>absurd e j3,fun e=>absurd e j4⟩ hn
theorem ZDp {F:Fence} {n:Nat} {P:Program} {o:Oper} {a:Act} {w:World} {K:Act->World->Prop} {Q Q':Exit->Act->World->Prop} (hQ:∀x a w,x≠.normal->Q x a w->Q' x a w) (h:o.wpIn F n P a w K Q):o.wpIn F n P a w K Q':=by
 unfold Oper.wpIn at *
 refine ⟨h.1,?_⟩;have h:=h.2;generalize (o.semAt F.round a.eval).run P w=r at *
 cases r with
 | ok x w' =>
  cases x <;> simp only [Oper.uponIn] at h |- <;> first
   | exact h
   | exact h.elim
   | (refine ⟨h.1, h.2.mono fun en w'' he => ?_⟩
      cases en <;> simp only at he |- <;> first
       | exact he
       | exact hQ _ _ _ sM he
       | (obtain ⟨a0,w0,hq⟩:=he;exact ⟨a0,w0,hQ _ _ _ sM hq⟩))
 | halt hh w' =>
 cases hh <;> simp only [Oper.uponIn] at h |- <;> first
  | exact h.elim
  | exact hQ _ _ _ sM h
section
variable {G:GE} {C:Cx} {e0 e:Env} {σ0 σ:St} {w0 w:World} {a:Act} {f:Frame} {Q:PQ} {ro:Option Nat} {n:Nat} {ds:Nat×List Deferred×Bool} {N:Nat} {Z:Array Value->Prop}
theorem ZeE {m t:Nat} {QQ:Exit->Act->World->Prop} (hC:CxOK G C ro e0 σ0 w0) (hM:CxMono C) {ops:Array Oper} (hd:∀o,o∈ops->∀d,o.dst=some d->d<N/\∀t v,Z t->Z (t.setIfInBounds d v)) {ms:List Nat} (vf:∀i o,i<m->ops[i]?=some o->ms.getD i 0=UW ms o.after.toList 0)
  (hm:ops.size=m+t) (fi:∀j o,m<=j->ops[j]?=some o->(∀p,p<m->∃ed∈o.after,Region.binds .any ed=true/\ed.on=p)\/(∃ed∈o.after,Region.binds .any ed=true/\m<=ed.on/\ed.on<ops.size))
  (vi:∀x a w,x≠.normal->ZD G e0 σ0 w0 ds N Z Q x a w->QQ x a w)
  (eb:∀(listed:Array Bool) a w,listed.size=ops.size->(∀k,k<ops.size->(listed.getD k false=true↔k<m))->ZD G e0 σ0 w0 ds N Z Q .normal a w->wpAnyIn (fw ro) n G.P .any ops QQ t listed a w) :
  ∀(k:Nat) (l:List (Nat×Oper)),l.length=k->(∀p∈l,p.1<m)->(∀p∈l,ops[p.1]?=some p.2)->l.Pairwise (ZrH ops.toList ms)->(∀p∈l,∀e∈p.2.after.toList,Region.binds .any e=true->e.on<m/\e.on≠p.1) ->
  ∀{listed:Array Bool},listed.size=ops.size->(∀k,k<ops.size->(listed.getD k false=true↔k<m/\∀p∈l,p.1≠k))->(∀j,j<m->(∀p∈l,p.1≠j)->∀p∈l,anc ms p.1 j=false) ->
  ∀{ctx:List Ld} {e:Env} {σ:St} {w:World} {a:Act} {f:Frame},SRel G e σ w->FRel G e σ w f a.tmps->Later e0 σ0 w0 e σ w->a.tmps.size=N->Marks ds e σ w a.defers->Z a.tmps->X4 C ops.toList ms Q l ctx f σ ->
  wpAnyIn (fw ro) n G.P .any ops QQ (k+t) listed a w
 | 0,l,hl,hlm,cf,hp,hed,listed,hsz,dg,hdown,ctx,e,σ,w,a,f,hS,hF,hL,hN,bl,hZ,h=>by
  have mj:l=[]:=List.length_eq_zero_iff.1 hl;subst mj;rw [T5];exact eb listed a w hsz (fun k hk=>by rw [dg k hk];simp) ⟨.normal,f,e,σ,h,rfl,hS,hF,hL,hN,bl,hZ⟩
 | k+1,l,hl,hlm,cf,hp,hed,listed,hsz,dg,hdown,ctx,e,σ,w,a,f,hS,hF,hL,hN,bl,hZ,h=>by
  have jk:∀i b,i<ops.size->listed.getD i b=listed.getD i false:=fun i b hi=>by
   exact m79
  rw [show k+1+t=(k+t)+1 by omega];refine ⟨fun hr=>?_,fun i hi=>?_⟩
  ·cases l with
   | nil=>simp at hl
   | cons x l =>
   exfalso;have hx:=cf x sM;have ai:=(Tn.1 hx).1;have:x.1∈Region.ready .any ops listed:=by
    refine mem_ready.2 ⟨?_,x.2,hx,fun ed gm hb=>?_⟩
    ·rw [jk _ _ ai]
     cases hv:listed.getD x.1 false with
     | false=>rfl
     | true=>exact absurd rfl (((dg x.1 ai).1 hv).2 x sM)
    have h1:=hed x sM ed (TE.1 gm) hb;refine (dg ed.on oM).2 ⟨h1.1,fun p gf=>?_⟩;exact m119
   rw [hr] at this;cases this
  obtain ⟨h1,o,ho,cd⟩:=mem_ready.1 hi;have ai:=(Tn.1 ho).1;rw [jk _ _ ai] at h1;have zu:i<m:=by
   apply Classical.byContradiction
   intro kg
   rcases fi i o oM ho with h2 | ⟨ed,he,hb,kg,gd⟩
   ·cases l with
    | nil=>simp at hl
    | cons x l =>
    obtain ⟨ed,he,hb,o6⟩:=h2 x.1 (hlm x sM);have h3:=cd ed he hb;rw [o6] at h3;exact ((dg x.1 (by have:=hlm x sM;omega)).1 h3).2 x sM rfl
   have:=((dg ed.on gd).1 (cd ed he hb)).1;omega
  have cg:∃p∈l,p.1=i:=by
   apply Classical.byContradiction
   intro i7
   have:=(dg i ai).2 ⟨zu,fun p hp e=>i7 ⟨p,hp,e⟩⟩;rw [h1] at this;cases this
  obtain ⟨p,iu,rfl⟩:=cg;have rx:p.2=o:=by have:=cf p iu;rw [ho] at this;exact (Option.some.inj this).symm
  obtain ⟨pre,post,rfl⟩:=List.append_of_mem iu;obtain ⟨i,o'⟩:=p;dsimp only at rx ho ai h1 hi;subst rx;have n8:=List.pairwise_append.1 hp;have fg:=(List.pairwise_cons.1 n8.2.1)
  have fh:∀x∈pre++(i,o')::post,anc ms x.1 i=false:=fun x hx=>by
   cases ry:anc ms x.1 i with
   | false=>rfl
   | true =>
   exfalso;unfold anc at ry
   rw [vf i o' zu ho] at ry;rcases Va ry with h2 | ⟨ed,gm,hb,h2⟩
   ·simp at h2
   have rz:=cd ed (TE.2 gm) hb;have ao:=((dg ed.on (by have:=(hed _ iu ed gm hb).1;omega)).1 rz).2;rcases h2 with h2 | h2
   ·exact ao x hx h2.symm
   rw [hdown ed.on (hed _ iu ed gm hb).1 ao x hx] at h2;cases h2
  have gp:=ZiI hM pre (fun x hx=>by
   have hA:=n8.2.2 x hx (i,o') sM;have vg:=fh x (by simp [hx]);rcases hA.2.2 with h2 | h2
   ·rw [vg] at h2;cases h2
   exact ⟨h2.1,h2.2,vg⟩) ctx f σ h
  have bo:=Vv (ro:=ro) (n:=n) hC hS hF hL hN bl hZ (ops:=ops) (hd o' (Sa ho)) gp;have r7:∀x∈pre++post,x.1≠i:=fun x hx=>by
   exact m144
  have bv:∀x,x∈pre++post->x∈pre++(i,o')::post:=fun x hx=>by
   rcases TN.1 hx with hx | hx <;> simp [hx]
  have next:∀a' w',KRel G e0 σ0 w0 ds N Z (fun f' σ'=>∃c,X4 C ops.toList ms Q (pre++post) c f' σ') a' w'->wpAnyIn (fw ro) n G.P .any ops QQ (k+t) (listed.setIfInBounds i true) a' w':=fun a' w' ⟨f',e',σ',⟨c,d7⟩,h2,h3,h4,h5,h6,h7⟩=>by
   refine ZeE hC hM hd vf hm fi vi eb k (pre++post) (by simp at hl |-;omega) (fun x hx=>hlm x (bv x hx)) (fun x hx=>cf x (bv x hx)) (List.pairwise_append.2 ⟨n8.1,fg.2,fun x hx y hy=>n8.2.2 x hx y (Tu _ hy)⟩)
    (fun x hx=>hed x (bv x hx)) (by simpa using hsz) (fun k hk=>?_) (fun j vj hj x hx=>?_) h2 h3 h4 h5 h6 h7 d7
   ·by_cases mz:k=i
    ·subst mz;have fd:k<listed.size:=by rw [hsz];exact ai
     have:(listed.setIfInBounds k true).getD k false=true:=by simp [Array.getD,fd]
     simp only [this,true_iff];exact ⟨zu,r7⟩
    have:(listed.setIfInBounds i true).getD k false=listed.getD k false:=getD_set_ne false (Ne.symm mz);rw [this,dg k hk]
    constructor
    ·exact fun hh=>⟨hh.1,fun x hx=>hh.2 x (bv x hx)⟩
    intro hh
    refine ⟨hh.1,fun x hx=>?_⟩;rcases TN.1 hx with hx | hx
    ·exact hh.2 x (by simp [hx])
    rcases Tr.1 hx with rfl | hx
    ·exact fun e=>mz e.symm
    exact hh.2 x (by simp [hx])
   by_cases xr:j=i
   ·subst xr;exact fh x (bv x hx)
   refine hdown j vj (fun y hy=>?_) x (bv x hx);exact m114
  have hK:∀a' w',KRel G e0 σ0 w0 ds N Z (fun f' σ'=>match Yx o'.op with | true=>Znc ms i σ.bx σ'.bx ctx (X4 C ops.toList ms Q (pre++post) ctx f' σ') | false=>X4 C ops.toList ms Q (pre++post) (Wg C.T o' i f ctx) f' σ') a' w' ->
    KRel G e0 σ0 w0 ds N Z (fun f' σ'=>∃c,X4 C ops.toList ms Q (pre++post) c f' σ') a' w':=fun a' w' ⟨f',e',σ',hk,an⟩=>by
   refine ⟨f',e',σ',?_,an⟩
   cases hE:Yx o'.op with
   | true=>rw [hE] at hk;exact ⟨_,(chkL_iff.1 hk).2⟩
   | false=>rw [hE] at hk;exact ⟨_,hk⟩
  unfold wpOpIn
  rw [ho];dsimp only;split at bo
  ·rename_i hw
   rw [Tj hw];exact ZDp vi (Oper.wpIn_mono (fun a w h=>next a w (hK a w h)) bo)
  rename_i hw
  rw [Tg hw];exact ⟨fun _ _=>trivial,next _ _ (hK _ _ bo)⟩
end
def Jm (o:Oper):Bool:=match o.guard with | none=>true | _=>false
def ZcG (x:Operand) (ds:List Nat):Bool:=match x with | .tmp t=>!(ZdU t ds) | _=>true
def ZlR (x:Operand) (d:Nat):Bool:=match x with | .tmp t=>Nat.beq t d | _=>false
def V8 (m:Nat) (l:List Edge):Bool:=l.all fun ed=>!(Region.binds .any ed) || Nat.ble ed.on m
def Jn (m:Nat) (l:List Edge):Bool:=l.any fun ed=>Region.binds .any ed && Nat.beq ed.on m
def Zj7:Nat->List Edge->Bool
 | 0,_=>true
 | n+1,l=>Jn n l && Zj7 n l
structure HoleD where
 s:Operand
 z:Operand
 t:Nat
 tx:Nat
 ti:Nat
 ix:Operand
 ts:Nat
 x:Operand
 sf:Nat
 xf:Operand
 kf:Nat
 th:Nat
 da:Nat
 di:Nat
 df:Nat
def ZlS (h:Hole):Option HoleD:=match h.A.op,h.I.op,h.S.op,h.F.op,h.H.op with
 | .call { callee:=.builtin .append,args,argTypes },.indexAddr ti xi ix,.store ts xs x,.fieldAddr sf xf kf,.store th xh yh=>match argTypes.toList,args.toList,h.A.dst,h.I.dst,h.F.dst,h.S.dst,h.H.dst with
  | [t,tx],[s,z],some da,some di,some df,none,none =>
   match ZlR xi da && Nat.beq ti t && ZlR xs di && ZlR xh df && ZlR yh da && ZcG ix [da,di,df] && ZcG x [da,di,df] && ZcG xf [da,di,df] && !(Nat.beq da di) && !(Nat.beq da df) && !(Nat.beq di df) with
   | true=>some ⟨s,z,t,tx,ti,ix,ts,x,sf,xf,kf,th,da,di,df⟩
   | false=>none
  | _,_,_,_,_,_,_=>none
 | _,_,_,_,_=>none
def ZnL (ops:List Oper) (h:Hole):Bool :=
 let m:=h.pre.length
 let ms:=Xs ops []
 let cs:=W5 m (Zx 0 h.pre)
 (match ZlS h with | some _=>true | none=>false) && Jm h.A && Jm h.I && Jm h.S && Jm h.F && Jm h.H &&
 V8 m h.I.after.toList && V8 m h.F.after.toList && V8 (m+1) h.S.after.toList && (h.H.after.toList.all fun ed=>!(Region.binds .any ed) || (Nat.ble ed.on m || Nat.beq ed.on (m+3))) &&
 Jn (m+1) h.S.after.toList && Jn (m+3) h.H.after.toList && Jn m h.I.after.toList && Jn m h.F.after.toList && Zj7 m h.A.after.toList && (match m with | 0=>true | k+1=>V8 k h.A.after.toList) && Nat.ble 1 m &&
 Nat.beq cs.length m && ZgZ ops ms m cs && Zg0 cs m && ZaB ms cs
theorem ZiK {ops:Array Oper} {h:Hole} (hh:Zbi ops.toList=some h):ops.toList=h.pre++[h.A,h.I,h.S,h.F,h.H]:=by
 unfold Zbi at hh
 split at hh
 ·rename_i H F S I A pre hr
  split at hh
  ·cases hh
   have:ops.toList=(H::F::S::I::A::pre).reverse:=by rw [<- hr,List.reverse_reverse]
   rw [this];simp
  cases hh
 cases hh
theorem ZaD {h:Hole} {d:HoleD} (hd:ZlS h=some d):∃(args:Array Operand) (at':Array Nat),args.toList=[d.s,d.z]/\at'.toList=[d.t,d.tx]/\h.A.op=.call { callee:=.builtin .append,args:=args,argTypes:=at' } /\
  h.I.op=.indexAddr d.t (.tmp d.da) d.ix/\h.S.op=.store d.ts (.tmp d.di) d.x/\h.F.op=.fieldAddr d.sf d.xf d.kf/\h.H.op=.store d.th (.tmp d.df) (.tmp d.da) /\
  h.A.dst=some d.da/\h.I.dst=some d.di/\h.F.dst=some d.df/\h.S.dst=none/\h.H.dst=none/\ZcG d.ix [d.da,d.di,d.df]=true/\ZcG d.x [d.da,d.di,d.df]=true/\ZcG d.xf [d.da,d.di,d.df]=true/\d.da≠d.di/\d.da≠d.df/\d.di≠d.df:=by
 have tmp:∀{x:Operand} {d:Nat},ZlR x d=true->x=.tmp d:=fun {x d} h=>by
  unfold ZlR at h
  split at h
  ·rw [Ti h]
  cases h
 have ne:∀{a b:Nat},(!(Nat.beq a b))=true->a≠b:=fun {a b} h e=>by subst e;simp at h
 unfold ZlS at hd
 split at hd
 ·rename_i args at' ti xi ix ts xs x sf xf kf th xh yh h1 h2 h3 h4 h5
  split at hd
  ·rename_i t tx s z da di df g1 g2 g3 g4 g5 g6 g7
   split at hd
   ·rename_i hb
    cases hd
    simp only [Tl] at hb;obtain ⟨⟨⟨⟨⟨⟨⟨⟨⟨⟨b1,b2⟩,b3⟩,b4⟩,b5⟩,b6⟩,b7⟩,b8⟩,b9⟩,b10⟩,b11⟩:=hb;have:=tmp b1;subst this;have:=Ti b2;subst this;have:=tmp b3;subst this;have:=tmp b4;subst this;have:=tmp b5;subst this;exact ⟨args,at',g2,g1,h1,h2,h3,h4,h5,g3,g4,g5,g6,g7,b6,b7,b8,ne b9,ne b10,ne b11⟩
   cases hd
  cases hd
 cases hd
theorem Zg3 (w:World) {b1 b2:Nat} (h:b1≠b2) (o1 o2:Nat) (v1 v2:Value):(w.setCell ⟨b1,o1,none⟩ v1).setCell ⟨b2,o2,none⟩ v2=(w.setCell ⟨b2,o2,none⟩ v2).setCell ⟨b1,o1,none⟩ v1:=by
 unfold World.setCell
 simp only [World.mk.injEq,and_self,and_true,true_and]
 apply Array.ext_getElem?
 intro i
 simp only [Array.getElem?_modify]
 by_cases h1:b1=i
 ·subst h1;simp [Ne.symm h]
 by_cases h2:b2=i
 ·subst h2;simp [h]
 simp [h1,h2]
theorem XI {b1 b2:Nat} (h:b1≠b2) (o1:Nat) (v1:Value):∀(l:List Value) (o2:Nat) (w:World),(w.setCell ⟨b1,o1,none⟩ v1).setCells b2 o2 l=(w.setCells b2 o2 l).setCell ⟨b1,o1,none⟩ v1
 | [],_,_=>rfl
 | v::l,o2,w=>by
  rw [World.setCells,World.setCells,Zg3 w h,XI h o1 v1 l]
theorem JT {b1 b2:Nat} (h:b1≠b2):∀(l1:List Value) (o1:Nat) (l2:List Value) (o2:Nat) (w:World),(w.setCells b1 o1 l1).setCells b2 o2 l2=(w.setCells b2 o2 l2).setCells b1 o1 l1
 | [],_,_,_,_=>rfl
 | v::l1,o1,l2,o2,w=>by
  rw [World.setCells,World.setCells,JT h l1,XI h]
section
variable {G:GE} {T:Tab} {e:Env} {σ:St} {w:World}
theorem Vy (hT:TabOK T G.P) {t:Nat} (hk:(T.get t).kind≠.other) {v:Value} {b off:Nat} (aa:v.cells.size=(T.get t).size) (hc:∀j,j<v.cells.toList.length->(w.cell? ⟨b,off+j,none⟩).isSome=true)
  (hf:∀j,j<v.cells.toList.length->w.frozen? ⟨b,off+j,none⟩=false) (jo:∀u∈v.cells.toList,u.oneCell'=true) {ρ':Operand->Value} {o:Oper} {p x:Operand} (ho:o.op=.store t p x) (hp:ρ' p=.pointer (some ⟨b,off,none⟩)) (hx:ρ' x=v) :
  (execOp ρ' o).run G.P w=.ok .skip (w.setCells b off v.cells.toList):=by
 obtain ⟨i,d,z,hi,hd,hs,dm,aw,hz,cx,_⟩:=(hT.get hk).ex;have ah:=run_storeCells_cells (P:=G.P) b off v.cells.toList 0 w (by simpa using hc) (by simpa using hf) jo;simp only [SC] at ah;have:(Instr.storeAt t (.pointer (some ⟨b,off,none⟩)) v).run G.P w=.ok () (w.setCells b off v.cells.toList):=by
  have mq:v.cells.size=i.size:=by rw [aa,hs]
  exact m68
 unfold execOp
 simp only [ho,hp,hx,Sem.run_bind,this,Result.andThen,Sem.run_pure]
theorem ZiL (hT:TabOK T G.P) {s i off t:Nat} {fs:List (Nat×Nat)} (hk:(T.get s).kind=.struct fs) (ra:fs[i]?=some (off,t)) {ρ':Operand->Value} {o:Oper} {x:Operand} (ho:o.op=.fieldAddr s x i) {b oo:Nat} (hv:ρ' x=.pointer (some ⟨b,oo,none⟩)) (w:World) :
  (execOp ρ' o).run G.P w=.ok (.value (.pointer (some ⟨b,oo+off,none⟩))) w:=by
 obtain ⟨ti,d,z,hi,hd,hs,dm,aw,hz,cx,_⟩:=(hT.get (t:=s) (by rw [hk];simp)).ex;rw [hk] at aw;obtain ⟨gs,rfl,hf⟩:=aw;obtain ⟨f,j,hg,cm,ht,hj,rf⟩:=hf.get ra;have ov:gs[i]?=some f:=by simpa using hg
 have xo:(fieldPlace ⟨b,oo,none⟩ f).run G.P w=.ok ⟨b,oo+off,none⟩ w:=by
  exact m127
 unfold execOp
 simp [ho,hv,Instr.fieldAt,Za hd,ov,Instr.sureAddr,xo]
theorem ZiM (hT:TabOK T G.P) {t el:Nat} (hk:(T.get t).kind=.slice el) (bj:(T.get el).kind≠.other) {ρ':Operand->Value} {o:Oper} {x i:Operand} (ho:o.op=.indexAddr t x i) {b off n cap:Nat} {k:IntKind} {m:Int} (hv:ρ' x=.slice (some ⟨b,off,none⟩) n cap)
  (hi:ρ' i=.int k m) (h0:0<=m) (hn:m<n) (w:World):(execOp ρ' o).run G.P w=.ok (.value (.pointer (some ⟨b,off+m.toNat * (T.get el).size,none⟩))) w:=by
 obtain ⟨ti,d,z,l8,hd,hs,dm,aw,hz,cx,_⟩:=(hT.get (t:=t) (by rw [hk];simp)).ex;rw [hk] at aw;cases aw;obtain ⟨i2,d2,z2,af,ca,ew,_,bm,_,_,_⟩:=(hT.get bj).ex;unfold execOp
 simp [ho,hv,hi,Instr.indexAt,XG,Za hd,h0,hn,Zq af,ZR,ew]
theorem ZrK {x:PV} {v:Value} {row:List D} (hx:VRel G e σ w x v) (hr:ZgK x=some row):Flat (okc e σ) w [row] row.length v.cells.toList/\∀u∈v.cells.toList,u.oneCell'=true:=by
 unfold ZgK at hr
 split at hr
 ·rename_i l hl
  obtain ⟨cy,cu⟩:=W7 hx hl;obtain ⟨dq,ca⟩:=UC (ok:=okc e σ) hr;refine ⟨⟨by simp [cy,dq],fun r hr=>by simp at hr;rw [hr],fun a b y u hb hy hu=>?_⟩,fun u hu=>?_⟩
  ·cases a with
   | zero =>
    simp only [Sq,Option.bind_some] at hy;simp only [Nat.zero_mul,T5,Tt] at hu;have h1:b<l.length:=oM;exact Wi (ca b l[b] y (Te h1) hy) (cu b l[b] u (Te h1) hu).1
   | succ a=>simp at hy
  obtain ⟨j,hj,rfl⟩:=Se hu;have h1:j<l.length:=by simp [cy] at hj;exact hj
  exact (cu j l[j] _ (Te h1) (by rw [<- Tt,Te hj])).2
 cases hr
end
theorem Zg4 {t:Nat}:∀{l:List Nat},t∉l->UV t l=l
 | [],_=>rfl
 | x::l,h=>by
  have h1:x≠t:=fun e=>h (by simp [e])
  have h2:=Zg4 (t:=t) (l:=l) (fun hm=>h (by simp [hm]));unfold UV
  split
  ·rename_i hb;exact absurd (Ti hb) h1
  rw [h2]
theorem ZlT {T:Tab} {h:Hole} {d:HoleD} {f:Frame} {σ:St} {K:Frame->St->Prop} (hd:ZlS h=some d) (hA:ZgO T h f σ K) :
  ∃el rows zr row k tk0,(T.get d.t).kind=.slice el/\(T.get el).kind≠.other/\1<=(T.get el).size/\d.ts=el/\X2 T d.tx el (ev f d.z)=some [zr]/\ZgK (ev f d.x)=some row/\ev f d.ix=.d (.int k (rows.length:Nat)) /\
   zr.length=(T.get el).size/\row.length=(T.get el).size/\(rows.length+1) * (T.get el).bytes<=2 ^ 47/\rows.length+1<=2 ^ 47 /\
   ((∃e2,ev f d.s=.nils e2/\rows=[]/\tk0=σ.tk)\/∃tok,ev f d.s=.sl tok el rows/\tok∈σ.tk/\tk0=UV tok σ.tk) /\
   K (Yf (Yf f (some d.da) (.sl (σ.nx+1) el (rows++[row]))) (some d.di) .undef) ⟨σ.bx,(σ.nx+1)::tk0,σ.nx+2⟩:=by
 obtain ⟨args,at',a1,a2,a3,a4,a5,a6,a7,a8,a9,_⟩:=ZaD hd;unfold ZgO at hA
 simp only [a3,a4,a5,a1,a2,a8,a9,ZC,ZT] at hA;split at hA
 ·rename_i el hk
  split at hA
  ·exact hA.elim
  rename_i bj
  split at hA
  ·rename_i zr row k n h1 h2 h3 h4 h5
   split at hA
   ·rename_i h6 h7
    have e1:=Ta h1;have e2:=Ti h2;have e6:=Ti h6;have e7:=Ti h7;split at hA
    ·rename_i e0 hs
     obtain ⟨rfl,hb,hK⟩:=hA;exact ⟨el,[],zr,row,k,σ.tk,hk,fun h0=>bj h0,e1,e2,h3,h4,h5,e6,e7,hb,sM,.inl ⟨e0,hs,rfl,rfl⟩,hK⟩
    ·rename_i tok e0 rows hs
     split at hA
     ·rename_i g1 g2
      have:=Ti g2;subst this;obtain ⟨rfl,hb,fy,hK⟩:=hA;exact ⟨e0,rows,zr,row,k,UV tok σ.tk,hk,fun h0=>bj h0,e1,e2,h3,h4,h5,e6,e7,hb,fy,.inr ⟨tok,hs,(YA _ _).1 g1,rfl⟩,hK⟩
     exact hA.elim
    exact hA.elim
   exact hA.elim
  exact hA.elim
 exact hA.elim
section
theorem Vb {x:Operand} {ds:List Nat} (h:ZcG x ds=true) {a:Act} {d:Nat} (hd:d∈ds) (v:Value):(a.put (some d) v).eval x=a.eval x:=by
 cases x with
 | tmp t =>
  have:d≠t:=fun e=>by
   subst e;simp only [ZcG,T2] at h;rw [(YA _ _).2 hd] at h;cases h
  simp [Act.put,Act.eval,Array.getD_eq_getD_getElem?,TV,this]
 | _=>rfl
theorem Zj8 {x:Operand} {ds:List Nat} (h:ZcG x ds=true) {f:Frame} {d:Nat} (hd:d∈ds) (v:PV):ev (Yf f (some d) v) x=ev f x:=by
 cases x with
 | tmp t =>
  have:d≠t:=fun e=>by
   subst e;simp only [ZcG,T2] at h;rw [(YA _ _).2 hd] at h;cases h
  exact Xg f v this
 | _=>rfl
theorem Zbq {a:Act} {d:Nat} (h:d<a.tmps.size) (v:Value):(a.put (some d) v).eval (.tmp d)=v:=by
 simp [Act.put,Act.eval,TV,h]
theorem ZcH {a:Act} {d k:Nat} (h:d≠k) (v:Value):(a.put (some d) v).eval (.tmp k)=a.eval (.tmp k):=by
 simp [Act.put,Act.eval,Array.getD_eq_getD_getElem?,TV,h]
theorem ZrL {a:Act} {d k:Nat} (h:d≠k) (v u:Value):(a.put (some d) v).put (some k) u=(a.put (some k) u).put (some d) v:=by
 simp only [Act.put,Act.mk.injEq,and_true]
 apply Array.ext_getElem?
 intro i
 simp only [TV,Array.size_setIfInBounds]
 by_cases h1:d=i
 ·subst h1;simp [Ne.symm h]
 by_cases h2:k=i
 ·subst h2;simp [h]
 simp [h1,h2]
def ZAE (a:Act) (di df:Nat) (vI vF:Value) (i f:Bool):Act :=
 let b:=match i with | true=>a.put (some di) vI | false=>a
 match f with | true=>b.put (some df) vF | false=>b
variable {G:GE} {C:Cx} {e0:Env} {σ0:St} {w0:World} {Q:PQ} {ro:Option Nat} {n:Nat} {ds:Nat×List Deferred×Bool} {N:Nat} {Z:Array Value->Prop}
theorem ZrM (hC:CxOK G C ro e0 σ0 w0) {ops:Array Oper} (hd:∀o,o∈ops->∀d,o.dst=some d->d<N/\∀t v,Z t->Z (t.setIfInBounds d v)) {h:Hole} {D:HoleD} (hD:ZlS h=some D) {m:Nat} (h4:Hole4 ops m h.I h.S h.F h.H) (oA:ops[m]?=some h.A) (gA:h.A.guard=none)
  (eA:∀ed∈h.A.after,Region.binds .any ed=true->ed.on<m) (eIA:∃ed∈h.I.after,Region.binds .any ed=true/\ed.on=m) (eFA:∃ed∈h.F.after,Region.binds .any ed=true/\ed.on=m)
  {listed:Array Bool} {a:Act} {w:World} (hsz:listed.size=ops.size) (dg:∀k,k<ops.size->(listed.getD k false=true↔k<m)) (hp:ZD G e0 σ0 w0 ds N Z (ZgP C ops.toList h Q) .normal a w) :
  wpAnyIn (fw ro) n G.P .any ops (ZD G e0 σ0 w0 ds N Z Q) 5 listed a w:=by
 have hT:=hC.tab;have zq:=h4.size;obtain ⟨pe,f,e,σ,hq,hx,hS,hF,hL,hN,bl,hZ⟩:=hp
 cases pe with
 | exit i=>cases hx
 | goto i=>cases hx
 | ret=>cases hx
 | panic p=>obtain ⟨_,hx,_⟩:=hx;cases hx
 | normal =>
 obtain ⟨args,at',a1,a2,a3,a4,a5,a6,a7,a8,a9,a10,a11,a12,b1,b2,b3,n1,n2,n3⟩:=ZaD hD;obtain ⟨el,rows,zr,row,kk,tk0,c1,c2,c3,c4,c5,c6,c7,c8,c9,c10,c11,c12,hK⟩:=ZlT hD hq;have ja:∀(j:Nat) (o:Oper) (d:Nat),ops[j]?=some o->o.dst=some d->d<N:=fun j o d ho nc=>(hd o (Sa ho) d nc).1
 have zw:∀(j:Nat) (o:Oper) (d:Nat),ops[j]?=some o->o.dst=some d->∀t v,Z t->Z (t.setIfInBounds d v):=fun j o d ho nc=>(hd o (Sa ho) d nc).2
 have dA:=ja m _ _ oA a8;have dI:=ja _ _ _ h4.oI a9;have dF:=ja _ _ _ h4.oF a10;have hρ:∀x,VRel G e σ w (ev f x) (a.eval x):=fun x=>Zbl hF x
 obtain ⟨hDR,hO,bv,adi⟩:DRel (okc e σ) w (.sl rows) (a.eval D.s)/\((a.eval D.s=.slice none 0 0/\rows=[])\/∃tok,tok∈σ.tk/\tok∉tk0/\Owned G e w tok el rows (a.eval D.s))/\(∀x,x∈tk0->x∈σ.tk)/\True:=by
  have hs:=hρ D.s;rcases c12 with ⟨e2,h1,rfl,rfl⟩ | ⟨tok,h1,h2,rfl⟩
  ·rw [h1] at hs;generalize a.eval D.s=v at hs
   cases hs with
   | nils _=>exact ⟨.slnil,.inl ⟨rfl,rfl⟩,fun _ h=>h,trivial⟩
  rw [h1] at hs;generalize a.eval D.s=v at hs
  cases hs with
  | sl _ _ _ _ hn hd ht=>exact ⟨hd,.inr ⟨tok,h2,fun hm=>((WJ _ _ _).1 hm).2 rfl,ht h2⟩,fun x hx=>((WJ _ _ _).1 hx).1,trivial⟩
 obtain ⟨w1,bb,off,cap,e1,vl,hcap,st1,S1,V1⟩:=ZiJ (ty:=h.A.type) hT hS c1 c2 c3 hDR tk0 bv hO c5 (hρ D.z) c8 c10 c11;have zx:VRel G e1 _ w1 (ev f D.x) (a.eval D.x):=(hρ D.x).step st1;obtain ⟨eg,jo⟩:=ZrK zx c6;rw [c9] at eg;obtain ⟨q1,q2,q3,e2,st2,S2,V2⟩:=ZnK hT S1 c2 c3 V1 sM hcap eg;have fe:=hK;rw [Y3] at fe;simp only [Xd,h4.gF] at fe;unfold XS at fe
 simp only [a6,Yx,Zfr,ZgJ,qop,ZT] at fe;rw [Zj8 b3 sM,Zj8 b3 sM] at fe;split at fe;rotate_left
 ·exact fe.elim
 rename_i fs dz
 split at fe;rotate_left
 ·exact fe.elim
 rename_i fo ft hfs
 split at fe;rotate_left
 ·rename_i r oo bu
  rw [Y3] at fe;simp only [Xd,h4.gH] at fe;unfold XS at fe
  simp only [a7,Yx,eop,a10] at fe;have:ev (Yf (Yf (Yf f (some D.da) (.sl (σ.nx+1) el (rows++[row]))) (some D.di) .undef) (some D.df) (.elem r (oo+fo))) (.tmp D.df)=.elem r (oo+fo):=Ys _ _ _;rw [this] at fe;exact fe.elim
 ·exact fe.elim
 rename_i b oo zy
 rw [Y3] at fe;simp only [Xd,h4.gH] at fe;unfold XS at fe
 simp only [a7,Yx,eop,a10,ZC,ZT] at fe;generalize zz:Yf (Yf (Yf f (some D.da) (.sl (σ.nx+1) el (rows++[row]))) (some D.di) .undef) (some D.df) (.ptr b (oo+fo))=f4 at fe;have k1:ev f4 (.tmp D.df)=.ptr b (oo+fo):=by rw [<- zz];exact Ys _ _ _
 have k2:ev f4 (.tmp D.da)=.sl (σ.nx+1) el (rows++[row]):=by
  rw [<- zz];show V0 (V0 (V0 f D.da _) D.di _) D.df _ D.da=_;rw [Xg _ _ (Ne.symm n2),Xg _ _ (Ne.symm n1),Ys]
 rw [k1,k2] at fe;simp only [PV.cells] at fe;split at fe;rotate_left
 ·exact fe.elim
 rename_i ty cs fq
 split at fe
 ·exact fe.elim
 rotate_left
 ·exact fe.elim
 rename_i l1 l2 l3
 rw [a12] at fe;have z4:(C.T.get D.th).size=1:=(Ti l1).symm;have mo:oo+fo+1<=cs.length:=Ta l2;have z6:=hρ D.xf;rw [zy] at z6;generalize hvx:a.eval D.xf=vx at z6
 cases z6 with
 | ptr _ _ cq =>
 have uc:e1.β b=e.β b:=st1.beta b cq;have kh:e.β b≠bb:=by rw [<- uc];exact q3 b cq
 obtain ⟨vs,lp,oq,_⟩:=S1.box b _ fq;rw [uc] at lp
 let v':Value:=.slice (some ⟨bb,off,none⟩) (rows.length+1) cap
 let oS:=off+rows.length * (C.T.get el).size
 let us:=(a.eval D.x).cells.toList
 let vI:Value:=.pointer (some ⟨bb,oS,none⟩)
 let vF:Value:=.pointer (some ⟨e.β b,oo+fo,none⟩)
 let WW:Bool->Bool->World:=fun s g =>
  let u:=match s with | true=>w1.setCells bb oS us | false=>w1
  match g with | true=>u.setCells (e.β b) (oo+fo) [v'] | false=>u
 have vn:D.da<a.tmps.size:=by rw [hN];exact dA
 have z7:∀v:Value,D.di<(a.put (some D.da) v).tmps.size:=fun v=>by rw [YB,hN];exact dI
 let A0:=a.put (some D.da) v'
 let AA:=ZAE A0 D.di D.df vI vF
 have evA:∀i g,(AA i g).eval (.tmp D.da)=v':=fun i g=>by
  cases i <;> cases g
  ·exact Zbq vn v'
  ·exact (ZcH (Ne.symm n2) vF).trans (Zbq vn v')
  ·exact (ZcH (Ne.symm n1) vI).trans (Zbq vn v')
  exact (ZcH (Ne.symm n2) vF).trans ((ZcH (Ne.symm n1) vI).trans (Zbq vn v'))
 have evX:∀x,ZcG x [D.da,D.di,D.df]=true->∀i g,(AA i g).eval x=a.eval x:=fun x hx i g=>by
  have h1:=Vb hx (a:=a) (d:=D.da) sM v'
  cases i <;> cases g
  ·exact h1
  ·exact (Vb hx (d:=D.df) sM vF).trans h1
  ·exact (Vb hx (d:=D.di) sM vI).trans h1
  exact (Vb hx (d:=D.df) sM vF).trans ((Vb hx (d:=D.di) sM vI).trans h1)
 have evI:∀g,(AA true g).eval (.tmp D.di)=vI:=fun g=>by
  cases g
  ·exact Zbq (z7 v') vI
  exact (ZcH (Ne.symm n3) vF).trans (Zbq (z7 v') vI)
 have evF:∀i,(AA i true).eval (.tmp D.df)=vF:=fun i=>by
  cases i
  ·exact Zbq (by rw [YB,hN];exact dF) vF
  exact Zbq (by rw [YB,YB,hN];exact dF) vF
 have z8:a.eval D.ix=.int kk (rows.length:Nat):=by
  have:=hρ D.ix;rw [c7] at this;exact this.dint
 have huw:∀(u:World),(∀k,k≠e.β b->u.heap[k]?=w1.heap[k]?)->(∀j,j<us.length->(u.cell? ⟨bb,oS+j,none⟩).isSome=true)/\(∀j,j<us.length->u.frozen? ⟨bb,oS+j,none⟩=false):=fun u hu=>by
  have h1:=hu bb (Ne.symm kh);exact ⟨fun j hj=>by have:=q1 j hj;simpa [World.cell?,h1] using this,fun j hj=>by have:=q2 j hj;simpa [World.frozen?,h1] using this⟩
 have hfw:∀(u:World),(∀k,k≠bb->u.heap[k]?=w1.heap[k]?)->(∀j,j<v'.cells.toList.length->(u.cell? ⟨e.β b,oo+fo+j,none⟩).isSome=true)/\(∀j,j<v'.cells.toList.length->u.frozen? ⟨e.β b,oo+fo+j,none⟩=false):=fun u hu=>by
  have h1:=(hu (e.β b) kh).trans lp;refine ⟨fun j hj=>?_,fun j hj=>by simp [World.frozen?,h1]⟩;have:j<1:=hj;have:oo+fo+j<vs.size:=oM;simp [World.cell?,h1,this]
 have bi:=(YK bb us oS w1).2.2.2;have f5:=(YK (e.β b) [v'] (oo+fo) w1).2.2.2;have rS:∀f' h',(h'=true->f'=true)->(execOp (AA true f').eval h.S).run G.P (WW false h')=.ok .skip (WW true h'):=fun f' h' _=>by
  have hx:(AA true f').eval D.x=a.eval D.x:=evX _ b2 _ _
  cases h' with
  | false =>
   obtain ⟨g1,g2⟩:=huw w1 (fun _ _=>rfl);exact Vy hT (by rw [c4];exact c2) (by rw [c4];simpa using eg.len) g1 g2 jo a5 (evI f') hx
  | true =>
  obtain ⟨g1,g2⟩:=huw (WW false true) f5;have:=Vy (w:=WW false true) hT (by rw [c4];exact c2) (by rw [c4];simpa using eg.len) g1 g2 jo a5 (evI f') hx;rw [this];show Result.ok Next.skip ((w1.setCells (e.β b) (oo+fo) [v']).setCells bb oS us)=.ok .skip ((w1.setCells bb oS us).setCells (e.β b) (oo+fo) [v']);rw [JT kh]
 have rH:∀i s,(s=true->i=true)->(execOp (AA i true).eval h.H).run G.P (WW s false)=.ok .skip (WW s true):=fun i s _=>by
  cases s with
  | false =>
   obtain ⟨g1,g2⟩:=hfw w1 (fun _ _=>rfl);exact Vy hT (fun h0=>l3 h0) (by rw [z4];rfl) g1 g2 (fun u hu=>by simp [v',Value.cells] at hu;subst hu;rfl) a7 (evF i) (evA i true)
  | true =>
  obtain ⟨g1,g2⟩:=hfw (WW true false) bi;exact Vy (w:=WW true false) hT (fun h0=>l3 h0) (by rw [z4];rfl) g1 g2 (fun u hu=>by simp [v',Value.cells] at hu;subst hu;rfl) a7 (evF i) (evA i true)
 have rI:∀f' h',(h'=true->f'=true)->(execOp (AA false f').eval h.I).run G.P (WW false h')=.ok (.value vI) (WW false h'):=fun f' h' _=>by
  have:=ZiM hT c1 c2 a4 (evA false f') ((evX _ b1 false f').trans z8) oM oM (WW false h');rw [this];simp [vI,oS]
 have rF:∀i s,(s=true->i=true)->(execOp (AA i false).eval h.F).run G.P (WW s false)=.ok (.value vF) (WW s false):=fun i s _ =>
  ZiL hT dz hfs a6 ((evX _ b3 i false).trans hvx) (WW s false)
 have pI:∀f',(AA false f').put h.I.dst vI=AA true f':=fun f'=>by
  rw [a9]
  cases f'
  ·rfl
  exact ZrL (Ne.symm n3) vF vI
 have pF:∀i,(AA i false).put h.F.dst vF=AA i true:=fun i=>by rw [a10];rfl
 have pS:∀f',(AA true f').put h.S.dst Go.undef=AA true f':=fun f'=>by rw [a11];rfl
 have pH:∀i,(AA i true).put h.H.dst Go.undef=AA i true:=fun i=>by rw [a12];rfl
 have dl:ZD G e0 σ0 w0 ds N Z Q .normal (AA true true) (WW true true):=by
  have vo:e2.β b=e.β b:=(st2.beta b (by exact cq)).trans uc;have F1:=(hF.step st1).step st2;have F2:=FRel.put (a:=a) (d:=some D.da) F1 V2 (fun i hi=>by cases hi;exact vn);have F3:=FRel.put (a:=a.put (some D.da) v') (d:=some D.di) F2 (.undef vI) (fun i hi=>by cases hi;exact z7 v');have F4:=FRel.put (a:=(a.put (some D.da) v').put (some D.di) vI) (d:=some D.df) (x:=.ptr b (oo+fo)) (v:=vF) F3 (by
   have:=VRel.ptr (G:=G) (e:=e2) (σ:=⟨σ.bx,(σ.nx+1)::UV σ.nx (σ.nx::tk0),σ.nx+1+1⟩) (w:=w1.setCells bb oS us) b (oo+fo) cq;rw [vo] at this;exact this) (fun i hi=>by cases hi;rw [YB,YB,hN];exact dF)
  have bw:UV σ.nx (σ.nx::tk0)=tk0:=by
   have aaa:σ.nx∉tk0:=fun hm=>by have:=hS.tkn _ (bv _ hm);omega
   unfold UV
   split
   ·exact Zg4 aaa
   rename_i hb;simp at hb
  have xu:(⟨σ.bx,(σ.nx+1)::UV σ.nx (σ.nx::tk0),σ.nx+1+1⟩:St)=⟨σ.bx,(σ.nx+1)::tk0,σ.nx+2⟩:=by rw [bw]
  obtain ⟨w4,qd,st4,S4⟩:=Ji (x:=.sl (σ.nx+1) el (rows++[row])) (v:=v') (t:=D.th) hT S2 fq V2 rfl (by rw [z4];rfl) mo (fun h0=>l3 h0);have n9:w4=WW true true:=by
   have h1:=rH true true (fun _=>rfl);unfold execOp at h1
   rw [vo] at qd;have h2:(AA true true).eval (.tmp D.df)=.pointer (some ⟨e.β b,oo+fo,none⟩):=evF true;have h3:(AA true true).eval (.tmp D.da)=v':=evA true true;have sa:(Instr.storeAt D.th (.pointer (some ⟨e.β b,oo+fo,none⟩)) v').run G.P (WW true false)=.ok () w4:=qd;simp only [a7,h2,h3,Sem.run_bind,sa,Result.andThen,Sem.run_pure] at h1
   cases h1;rfl
  subst n9;refine ⟨.normal,_,e2,_,fe,rfl,by rw [<- xu];exact S4,?_,(((hL.trans st1.toLater).trans st2.toLater).trans (by rw [<- xu];exact st4.toLater)),?_,?_,?_⟩
  ·have F5:=F4.step st4;rw [xu] at F5;rw [<- zz];exact F5
  ·show (((a.put (some D.da) v').put (some D.di) vI).put (some D.df) vF).tmps.size=N;rw [YB,YB,YB,hN]
  ·show Marks ds _ _ _ (((a.put (some D.da) v').put (some D.di) vI).put (some D.df) vF).defers;rw [Xt,Xt,Xt,<- xu];exact ((bl.later st1.toLater).later st2.toLater).later st4.toLater
  exact zw _ _ _ h4.oF a10 _ _ (zw _ _ _ h4.oI a9 _ _ (zw _ _ _ oA a8 _ _ hZ))
 have jk:∀i b,i<ops.size->listed.getD i b=listed.getD i false:=fun i b hi=>by
  exact m79
 have sb:∀k,k<ops.size->m<=k->listed.getD k false=false:=fun k hk hm=>by
  cases hv:listed.getD k false with
  | false=>rfl
  | true=>have:=(dg k hk).1 hv;omega
 refine ⟨fun hr=>?_,fun j hj=>?_⟩
 ·exfalso;have:m∈Region.ready .any ops listed:=mem_ready.2 ⟨by rw [jk _ _ oM];exact sb m oM (Tq _),h.A,oA,fun ed he hb=>(dg _ (by have:=eA ed he hb;omega)).2 (eA ed he hb)⟩;rw [hr] at this;cases this
 obtain ⟨h1,o,ho,cd⟩:=mem_ready.1 hj;have ai:=(Tn.1 ho).1;rw [jk _ _ ai] at h1;have vj:j=m:=by
  have kg:m<=j:=by
   apply Classical.byContradiction
   intro hn
   rw [(dg j ai).2 oM] at h1;cases h1
  have no:∀(o':Oper) (q:Nat),o=o'->(∃ed∈o'.after,Region.binds .any ed=true/\ed.on=q)->m<=q->q<ops.size->False:=fun o' q cm fj gk n7=>by
   subst cm;obtain ⟨ed,he,hb,o6⟩:=fj;have:=cd ed he hb;rw [o6,sb q n7 gk] at this;cases this
  apply Classical.byContradiction
  intro ao
  have:j=m+1\/j=m+2\/j=m+3\/j=m+4:=oM;rcases this with rfl | rfl | rfl | rfl
  ·rw [h4.oI] at ho;exact no h.I m (Option.some.inj ho).symm eIA (Tq _) oM
  ·rw [h4.oS] at ho;exact no h.S (m+1) (Option.some.inj ho).symm h4.eSI oM oM
  ·rw [h4.oF] at ho;exact no h.F m (Option.some.inj ho).symm eFA (Tq _) oM
  rw [h4.oH] at ho;exact no h.H (m+3) (Option.some.inj ho).symm h4.eHF oM oM
 subst vj;have aab:∀c,h.A.op≠.defer c:=fun c hc=>by rw [a3] at hc;cases hc
 have aac:(execOp a.eval h.A).run G.P w=.ok (.value v') w1:=by
  have am:args=#[D.s,D.z]:=by rw [<- Array.toArray_toList (xs:=args),a1]
  have aad:at'=#[D.t,D.tx]:=by rw [<- Array.toArray_toList (xs:=at'),a2]
  subst am;subst aad;unfold execOp
  simp only [a3,resolve,invoke,builtin,Sem.run_bind,Sem.run_pure,Result.andThen];rw [show Array.map a.eval #[D.s,D.z]=#[a.eval D.s,a.eval D.z] from sM,vl]
 refine ZcF oA gA aab (.inl aac) ?_;rw [a8];refine ZAD h4 (A:=AA) (W:=WW) rI pI rF pF rS pS rH pH dl 4 false false false false rfl (fun h=>by cases h) (fun h=>by cases h) _ (by simpa using hsz) fun q hq=>?_
 by_cases hqm:q=j
 ·subst hqm;have fd:q<listed.size:=by rw [hsz];exact hq
  simp [Array.getD,fd]
 have:(listed.setIfInBounds j true).getD q false=listed.getD q false:=getD_set_ne false (Ne.symm hqm);rw [this,dg q hq]
 constructor
 ·intro h;exact ⟨oM,oM,oM,oM⟩
 rintro ⟨x1,x2,x3,x4⟩
 have g1:q≠j+1:=fun e=>by cases x1 e
 have g2:q≠j+2:=fun e=>by cases x2 e
 have g3:q≠j+3:=fun e=>by cases x3 e
 have g4:q≠j+4:=fun e=>by cases x4 e
 omega
theorem XJ {m:Nat} {l:List Edge} (h:Jn m l=true):∃ed∈l,Region.binds .any ed=true/\ed.on=m:=by
 simp only [Jn,List.any_eq_true,Tl] at h;obtain ⟨ed,h1,h2,h3⟩:=h;exact ⟨ed,h1,h2,Ti h3⟩
theorem ZcI {l:List Edge}:∀{n:Nat},Zj7 n l=true->∀p,p<n->∃ed∈l,Region.binds .any ed=true/\ed.on=p
 | 0,_,p,hp=>oM
 | n+1,h,p,hp=>by
  simp only [Zj7,Tl] at h
  by_cases hpn:p=n
  ·subst hpn;exact XJ h.1
  exact ZcI h.2 p oM
theorem XA {m:Nat} {l:List Edge} (h:V8 m l=true):∀ed∈l,Region.binds .any ed=true->ed.on<=m:=fun ed he hb=>by
 have:=Tm.1 h ed he;rw [hb] at this;exact Ta (by simpa using this)
theorem XK {o:Oper} (h:Jm o=true):o.guard=none:=by
 unfold Jm at h
 split at h
 ·assumption
 cases h
theorem ZlU (hC:CxOK G C ro e0 σ0 w0) (hM:CxMono C) {ops:Array Oper} (hd:∀o,o∈ops->∀d,o.dst=some d->d<N/\∀t v,Z t->Z (t.setIfInBounds d v)) {h:Hole} (hh:Zbi ops.toList=some h) (az:ZnL ops.toList h=true)
  {e:Env} {σ:St} {w:World} {a:Act} {f:Frame} (hS:SRel G e σ w) (hF:FRel G e σ w f a.tmps) (hL:Later e0 σ0 w0 e σ w) (hN:a.tmps.size=N) (bl:Marks ds e σ w a.defers) (hZ:Z a.tmps)
  (hW:X4 C ops.toList (Xs ops.toList []) (ZgP C ops.toList h Q) (W5 h.pre.length (Zx 0 h.pre)) [] f σ) :
  wpAnyIn (fw ro) n G.P .any ops (ZD G e0 σ0 w0 ds N Z Q) ops.size (Array.replicate ops.size false) a w:=by
 have jb:=ZiK hh;simp only [ZnL,Tl] at az;obtain ⟨⟨⟨⟨⟨⟨⟨⟨⟨⟨⟨⟨⟨⟨⟨⟨⟨⟨⟨⟨k1,k2⟩,k3⟩,k4⟩,k5⟩,k6⟩,k7⟩,k8⟩,k9⟩,k10⟩,k11⟩,k12⟩,k13⟩,k14⟩,k15⟩,k16⟩,k17⟩,k18⟩,k19⟩,k20⟩,k21⟩:=az
 cases hD:ZlS h with
 | none=>rw [hD] at k1;cases k1
 | some D =>
 obtain ⟨args,at',a1,a2,a3,a4,a5,a6,a7,a8,a9,a10,a11,a12,b1,b2,b3,n1,n2,n3⟩:=ZaD hD;generalize hm:h.pre.length=m at *;have ct:ops.size=m+5:=by rw [<- T4,jb];simp [hm]
 have at5:∀k,k<5->ops[m+k]?=[h.A,h.I,h.S,h.F,h.H][k]?:=fun k hk=>by
  rw [<- Tt,jb,TS oM,hm];simp
 have oA:ops[m]?=some h.A:=at5 0 oM;have h4:Hole4 ops m h.I h.S h.F h.H:={
  size:=ct
  oI:=at5 1 oM
  oS:=at5 2 oM
  oF:=at5 3 oM
  oH:=at5 4 oM
  gI:=XK k3
  gS:=XK k4
  gF:=XK k5
  gH:=XK k6
  nI:=fun c hc=>by rw [a4] at hc;cases hc
  nS:=fun c hc=>by rw [a5] at hc;cases hc
  nF:=fun c hc=>by rw [a6] at hc;cases hc
  nH:=fun c hc=>by rw [a7] at hc;cases hc
  eI:=fun ed he hb=>XA k7 ed (TE.1 he) hb
  eF:=fun ed he hb=>XA k8 ed (TE.1 he) hb
  eS:=fun ed he hb=>XA k9 ed (TE.1 he) hb
  eH:=fun ed he hb=>by
   have:=Tm.1 k10 ed (TE.1 he);rw [hb] at this;simp only [Bool.not_true,Bool.false_or,So] at this;rcases this with h | h
   ·exact .inl (Ta h)
   exact .inr (Ti h)
  eSI:=let ⟨ed,h1,h2⟩:=XJ k11;⟨ed,TE.2 h1,h2⟩
  eHF:=let ⟨ed,h1,h2⟩:=XJ k12;⟨ed,TE.2 h1,h2⟩ }
 have eIA:∃ed∈h.I.after,Region.binds .any ed=true/\ed.on=m:=let ⟨ed,h1,h2⟩:=XJ k13;⟨ed,TE.2 h1,h2⟩;have eFA:∃ed∈h.F.after,Region.binds .any ed=true/\ed.on=m:=let ⟨ed,h1,h2⟩:=XJ k14;⟨ed,TE.2 h1,h2⟩;have oz:1<=m:=Ta k17;have eA:∀ed∈h.A.after,Region.binds .any ed=true->ed.on<m:=fun ed he hb=>by
  cases m with
  | zero=>omega
  | succ k=>have:=XA k16 ed (TE.1 he) hb;omega
 have cg:∀p∈W5 m (Zx 0 h.pre),p.1<m/\ops[p.1]?=some p.2:=fun p hp=>by
  have h1:=(XH (UE hp)).2;simp only [Nat.sub_zero] at h1;have h2:=(Th.1 h1).1;rw [hm] at h2;exact ⟨h2,by rw [<- Tt,jb,TG oM];exact h1⟩
 have i9:∀k,k<m->∃p∈W5 m (Zx 0 h.pre),p.1=k:=fun k hk=>Jl k20 k hk
 have aa:(W5 m (Zx 0 h.pre)).length=m:=Ti k18;have:=ZeE (n:=n) hC hM hd (m:=m) (t:=5) (QQ:=ZD G e0 σ0 w0 ds N Z Q) (ms:=Xs ops.toList []) (fun i o hi ho=>by
   obtain ⟨p,hp,rfl⟩:=i9 i hi;have:=(cg p hp).2;rw [ho] at this
   cases this
   exact WK k21 p hp) ct (fun j o hj ho=>by
   have ai:=(Tn.1 ho).1;have:j=m\/j=m+1\/j=m+2\/j=m+3\/j=m+4:=oM;rcases this with rfl | rfl | rfl | rfl | rfl
   ·rw [oA] at ho;cases ho;exact .inl fun p hp=>let ⟨ed,h1,h2⟩:=ZcI k15 p hp;⟨ed,TE.2 h1,h2⟩
   ·rw [h4.oI] at ho;cases ho;obtain ⟨ed,h1,h2,h3⟩:=eIA;exact .inr ⟨ed,h1,h2,oM,oM⟩
   ·rw [h4.oS] at ho;cases ho;obtain ⟨ed,h1,h2,h3⟩:=h4.eSI;exact .inr ⟨ed,h1,h2,oM,oM⟩
   ·rw [h4.oF] at ho;cases ho;obtain ⟨ed,h1,h2,h3⟩:=eFA;exact .inr ⟨ed,h1,h2,oM,oM⟩
   rw [h4.oH] at ho;cases ho;obtain ⟨ed,h1,h2,h3⟩:=h4.eHF;exact .inr ⟨ed,h1,h2,oM,oM⟩)
  (fun x a w hx hp=>by
   cases x with
   | normal=>exact absurd rfl hx
   | _ =>
   obtain ⟨pe,f',e',σ',hq,ga,an⟩:=hp;refine ⟨pe,f',e',σ',?_,ga,an⟩
   cases pe <;> first | exact hq | (cases ga;done) | (obtain ⟨_,ga,_⟩:=ga;cases ga))
  (fun listed a w hsz dg hp=>ZrM hC hd hD h4 oA (XK k2) eA eIA eFA hsz dg hp)
  m (W5 m (Zx 0 h.pre)) aa (fun p hp=>(cg p hp).1) (fun p hp=>(cg p hp).2) (Wl k19).1 (fun p hp e he hb=>(Wl k19).2 p hp e he hb)
  (listed:=Array.replicate ops.size false) sM (fun k hk=>by
   have:(Array.replicate ops.size false).getD k false=false:=by simp [Array.getD]
   rw [this];simp only [Tp,false_iff]
   rintro ⟨hkm,hh⟩
   obtain ⟨p,hp,he⟩:=i9 k hkm;exact hh p hp he) (fun j vj hj p hp=>by
   obtain ⟨q,hq,he⟩:=i9 j vj;exact absurd he (hj q hq)) hS hF hL hN bl hZ hW
 rw [ct] at this |-;exact this
end
end Go.PM
end

section
namespace Go.PM
theorem waits_iff {o:Oper}:∀{left:List (Nat×Oper)},WU o left=true↔∃p∈left,∃ed∈o.after,Region.binds .any ed=true/\ed.on=p.1
 | []=>by simp [WU]
 | (i,p)::l=>by
  unfold WU
  rw [So,waits_iff (left:=l)]
  constructor
  ·rintro (h | ⟨q,hq,h⟩)
   ·simp only [List.any_eq_true,Tl] at h;obtain ⟨ed,h1,h2,h3⟩:=h;exact ⟨(i,p),sM,ed,TE.2 h1,h2,Ti h3⟩
   exact ⟨q,by simp [hq],h⟩
  rintro ⟨q,hq,ed,h1,h2,h3⟩
  rcases Tr.1 hq with rfl | hq
  ·left
   simp only [List.any_eq_true,Tl];exact ⟨ed,TE.1 h1,h2,by simp at h3;subst h3;simp⟩
  exact .inr ⟨q,hq,ed,h1,h2,h3⟩
theorem Vc {left:List (Nat×Oper)}:∀{l:List (Nat×Oper)} {p:Nat×Oper},Zfs left l=some p->p∈l/\Yx p.2.op=false/\WU p.2 left=false
 | [],p,h=>by cases h
 | (i,o)::l,p,h=>by
  unfold Zfs at h
  split at h
  ·rename_i h1 h2;cases h;exact ⟨sM,h1,h2⟩
  obtain ⟨h1,h2⟩:=Vc h;exact ⟨Tu _ h1,h2⟩
theorem ZaE {left:List (Nat×Oper)}:∀{l:List (Nat×Oper)},Zfs left l=none->∀p∈l,Yx p.2.op=false->WU p.2 left=true
 | [],h,p,hp,_=>by cases hp
 | (i,o)::l,h,p,hp,he=>by
  unfold Zfs at h
  split at h
  ·cases h
  rename_i i7
  rcases Tr.1 hp with rfl | hp
  ·cases hw:WU o left with
   | true=>rfl
   | false=>exact (i7 he hw).elim
  exact ZaE h p hp he
theorem conjE_iff {left:List (Nat×Oper)} {X:Nat->Oper->Prop}:∀{l:List (Nat×Oper)},ZlE left l X↔∀p∈l,WU p.2 left=false->X p.1 p.2
 | []=>by simp [ZlE]
 | (i,o)::l=>by
  unfold ZlE
  cases hw:WU o left with
  | true => simp only [conjE_iff (l := l)]; constructor
            ·intro h p hp oa
             rcases Tr.1 hp with rfl | hp
             ·simp only at oa;rw [hw] at oa;cases oa
             exact h p hp oa
            exact fun h p hp=>h p (Tu _ hp)
  | false => simp only [conjE_iff (l := l)]; constructor
             ·rintro ⟨h1,h2⟩ p hp oa
              rcases Tr.1 hp with rfl | hp
              ·exact h1
              exact h2 p hp oa
             exact fun h=>⟨h (i,o) sM hw,fun p hp=>h p (Tu _ hp)⟩
theorem XL {i:Nat}:∀{l:List (Nat×Oper)},l.Pairwise (fun a b=>a.1≠b.1)->∀p,p∈Yk i l↔p∈l/\p.1≠i
 | [],_,p=>by simp [Yk]
 | (j,o)::l,hp,p=>by
  have h1:=List.pairwise_cons.1 hp;unfold Yk
  split
  ·rename_i hb
   have:=Ti hb;subst this
   constructor
   ·exact fun h=>⟨Tu _ h,fun e=>h1.1 p h e.symm⟩
   rintro ⟨h,ao⟩
   rcases Tr.1 h with rfl | h
   ·exact absurd rfl ao
   exact h
  rename_i hb
  have ao:i≠j:=fun e=>by subst e;simp at hb
  rw [Tr,Tr,XL h1.2]
  constructor
  ·rintro (rfl | h)
   ·exact ⟨.inl rfl,fun e=>ao e.symm⟩
   exact ⟨.inr h.1,h.2⟩
  rintro ⟨rfl | h,h2⟩
  ·exact .inl rfl
  exact .inr ⟨h,h2⟩
theorem Zj9 {i:Nat}:∀{l:List (Nat×Oper)},l.Pairwise (fun a b=>a.1≠b.1)->(Yk i l).Pairwise (fun a b=>a.1≠b.1)
 | [],h=>h
 | (j,o)::l,h=>by
  have h1:=List.pairwise_cons.1 h;unfold Yk
  split
  ·exact h1.2
  exact List.Pairwise.cons (fun p hp=>h1.1 p (Yt hp)) (Zj9 h1.2)
theorem Vd {i:Nat} {o:Oper}:∀{l:List (Nat×Oper)},(i,o)∈l->(Yk i l).length+1=l.length
 | [],h=>by cases h
 | (j,p)::l,h=>by
  unfold Yk
  split
  ·rfl
  rename_i hb
  rcases Tr.1 h with h | h
  ·cases h;simp at hb
  rw [Tc,Vd h];rfl
theorem ZaF {i j:Nat}:∀{l:List (Nat×Oper)},Yk i (Yk j l)=Yk j (Yk i l)
 | []=>rfl
 | (k,o)::l=>by
  by_cases h1:j=k
  ·subst h1
   by_cases h2:i=j
   ·subst h2;rfl
   have hb:Nat.beq i j=false:=by cases h:Nat.beq i j with | false=>rfl | true=>exact absurd (Ti h) h2
   simp [Yk,hb]
  have hb:Nat.beq j k=false:=by cases h:Nat.beq j k with | false=>rfl | true=>exact absurd (Ti h) h1
  by_cases h2:i=k
  ·subst h2;simp [Yk,hb]
  have hc:Nat.beq i k=false:=by cases h:Nat.beq i k with | false=>rfl | true=>exact absurd (Ti h) h2
  simp [Yk,hb,hc,ZaF (l:=l)]
section
variable {C:Cx} {all:List Oper} {ms:List Nat} {Q:PQ} {f:Frame} {σ:St}
theorem UF (hM:CxMono C) {i:Nat} {o:Oper} {ctx:List Ld} {K K':List Ld->Frame->St->Prop} (hK:∀c f σ,K c f σ->K' c f σ) (h:X3 C all ms Q i o ctx f σ K):X3 C all ms Q i o ctx f σ K':=by
 unfold X3 at h |-
 refine Zay hM (fun f' σ' hk=>?_) h;exact m109
theorem JU (hM:CxMono C):∀(n:Nat) (l:List (Nat×Oper)) (c c':List Ld) (f:Frame) (σ:St),(∀d,d∈c'->d∈c)->Wh C all ms Q n l c f σ->Wh C all ms Q n l c' f σ
 | 0,[],_,_,_,_,_,h=>h
 | _+1,[],_,_,_,_,_,h=>h
 | 0,_::_,_,_,_,_,_,h=>h.elim
 | n+1,x::l,c,c',f,σ,hs,h=>by
  unfold Wh at h |-
  split at h
  ·exact ZcA hM hs (fun c c' f σ=>JU hM n _ c c' f σ) h
  rw [conjE_iff] at h |-;exact fun p hp hw=>ZcA hM hs (fun c c' f σ=>JU hM n _ c c' f σ) (h p hp hw)
structure Rem (all:List Oper) (ms:List Nat) (L:List (Nat×Oper)):Prop where
 pw:L.Pairwise (fun a b=>a.1≠b.1)
 msk:∀p∈L,ms.getD p.1 0=UW ms p.2.after.toList 0
 apart:∀p∈L,∀q∈L,p.1≠q.1->Yx p.2.op=false->anc ms p.1 q.1=false->anc ms q.1 p.1=false->Zbo all p.2 q.2=true
 down:∀j,(∀p∈L,p.1≠j)->∀q∈L,anc ms q.1 j=false
theorem Rem.noanc {L:List (Nat×Oper)} (h:Rem all ms L) {p:Nat×Oper} (hp:p∈L) (hw:WU p.2 L=false):∀q∈L,anc ms q.1 p.1=false:=fun q hq=>by
 cases ha:anc ms q.1 p.1 with
 | false=>rfl
 | true =>
 exfalso;unfold anc at ha
 rw [h.msk p hp] at ha;rcases Va ha with h2 | ⟨ed,he,hb,h2⟩
 ·simp at h2
 have i7:∀x∈L,x.1≠ed.on:=fun x hx e=>by
  have:WU p.2 L=true:=waits_iff.2 ⟨x,hx,ed,TE.2 he,hb,e.symm⟩;rw [hw] at this;cases this
 rcases h2 with h2 | h2
 ·exact i7 q hq h2.symm
 rw [h.down ed.on i7 q hq] at h2;cases h2
theorem Rem.drop {L:List (Nat×Oper)} (h:Rem all ms L) {p:Nat×Oper} (hp:p∈L) (hw:WU p.2 L=false):Rem all ms (Yk p.1 L) where
 pw:=Zj9 h.pw
 msk:=fun q hq=>h.msk q (Yt hq)
 apart:=fun a ha b hb=>h.apart a (Yt ha) b (Yt hb)
 down:=fun j hj q hq=>by
  by_cases hjp:j=p.1
  ·subst hjp;exact h.noanc hp hw q (Yt hq)
  refine h.down j (fun x hx e=>?_) q (Yt hq);exact hj x ((XL h.pw x).2 ⟨hx,fun e2=>hjp (e.symm.trans e2)⟩) e
theorem UG {o:Oper} {i:Nat} {L:List (Nat×Oper)} (h:WU o L=false):WU o (Yk i L)=false:=by
 cases hw:WU o (Yk i L) with
 | false=>rfl
 | true =>
 obtain ⟨p,hp,hr⟩:=waits_iff.1 hw;rw [waits_iff.2 ⟨p,Yt hp,hr⟩] at h;cases h
theorem ZnM {L:List (Nat×Oper)} (h:L.Pairwise (fun a b=>a.1≠b.1)) {p q:Nat×Oper} (hp:p∈L) (hq:q∈L) (he:p.1=q.1):p=q:=by
 induction L with
 | nil=>cases hp
 | cons x l ih =>
 have h1:=List.pairwise_cons.1 h;rcases Tr.1 hp with oi | oi <;> rcases Tr.1 hq with gk | gk
 ·rw [oi,gk]
 ·exact absurd (oi ▸ he) (h1.1 q gk)
 ·exact absurd (gk ▸ he.symm) (h1.1 p oi)
 exact ih h1.2 oi gk
theorem ZnN (hM:CxMono C):∀(k:Nat),(∀(L:List (Nat×Oper)),L.length=k+1->Rem all ms L->∀p∈L,WU p.2 L=false->∀ctx f σ,Wh C all ms Q (k+1) L ctx f σ->X3 C all ms Q p.1 p.2 ctx f σ (Wh C all ms Q k (Yk p.1 L))) /\
  (∀(L:List (Nat×Oper)),L.length=k+1->Rem all ms L->∀p∈L,Yx p.2.op=false->WU p.2 L=false->∀ctx f σ,X3 C all ms Q p.1 p.2 ctx f σ (Wh C all ms Q k (Yk p.1 L))->Wh C all ms Q (k+1) L ctx f σ):=by
 intro k
 induction k with
 | zero =>
  have one:∀(L:List (Nat×Oper)),L.length=0+1->∀p∈L,L=[p]:=fun L hl p hp=>by
   cases L with
   | nil=>cases hp
   | cons x l =>
   cases l with
   | nil=>rw [List.mem_singleton.1 hp]
   | cons y l=>simp at hl
  refine ⟨fun L hl hR p hp hw ctx f σ h=>?_,fun L hl hR p hp he hw ctx f σ h=>?_⟩
  ·obtain rfl:=one L hl p hp;unfold Wh at h
   split at h
   ·rename_i i o ki
    have:=(Vc ki).1;simp at this;subst this;exact h
   exact (conjE_iff.1 h) p hp hw
  obtain rfl:=one L hl p hp;unfold Wh
  split
  ·rename_i i o ki
   have:=(Vc ki).1;simp at this;subst this;exact h
  rename_i ki
  have:=ZaE ki p hp he;rw [hw] at this;cases this
 | succ k ih =>
 obtain ⟨ihA,ihB⟩:=ih;refine ⟨fun L hl hR p hp hw ctx f σ h=>?_,fun L hl hR p hp he hw ctx f σ h=>?_⟩
 ·cases L with
  | nil=>cases hp
  | cons x l =>
  unfold Wh at h
  split at h
  ·rename_i j q ki
   obtain ⟨g1,g2,g3⟩:=Vc ki
   by_cases hj:j=p.1
   ·have:=ZnM hR.pw g1 hp hj;subst this;exact h
   have hpd:p∈Yk j (x::l):=(XL hR.pw p).2 ⟨hp,fun e=>hj e.symm⟩;have hjd:(j,q)∈Yk p.1 (x::l):=(XL hR.pw (j,q)).2 ⟨g1,hj⟩;have aa:(Yk j (x::l)).length=k+1:=by have:=Vd g1;omega
   have fk:(Yk p.1 (x::l)).length=k+1:=by have:=Vd (o:=p.2) hp;omega
   have h2:=UF hM (fun c f σ hk=>ihA _ aa (hR.drop g1 g3) p hpd (UG hw) c f σ hk) h;have h3:=ZAC hM (fun c c' f σ=>JU hM k _ c c' f σ) g2 (hR.apart _ g1 _ hp hj g2 (hR.noanc hp hw _ g1) (hR.noanc g1 g3 _ hp)) (hR.noanc hp hw _ g1) h2;rw [ZaF] at h3;exact UF hM (fun c f σ hk=>ihB _ fk (hR.drop hp hw) (j,q) hjd g2 (UG g3) c f σ hk) h3
  exact (conjE_iff.1 h) p hp hw
 cases L with
 | nil=>cases hp
 | cons x l =>
 unfold Wh
 split
 ·rename_i j q ki
  obtain ⟨g1,g2,g3⟩:=Vc ki
  by_cases hj:j=p.1
  ·have:=ZnM hR.pw g1 hp hj;subst this;exact h
  have hpd:p∈Yk j (x::l):=(XL hR.pw p).2 ⟨hp,fun e=>hj e.symm⟩;have hjd:(j,q)∈Yk p.1 (x::l):=(XL hR.pw (j,q)).2 ⟨g1,hj⟩;have aa:(Yk j (x::l)).length=k+1:=by have:=Vd g1;omega
  have fk:(Yk p.1 (x::l)).length=k+1:=by have:=Vd (o:=p.2) hp;omega
  have h2:=UF hM (fun c f σ hk=>ihA _ fk (hR.drop hp hw) (j,q) hjd (UG g3) c f σ hk) h;have h3:=ZAC hM (fun c c' f σ=>JU hM k _ c c' f σ) he (hR.apart _ hp _ g1 (fun e=>hj e.symm) he (hR.noanc g1 g3 _ hp) (hR.noanc hp hw _ g1)) (hR.noanc g1 g3 _ hp) h2;rw [ZaF] at h3;exact UF hM (fun c f σ hk=>ihB _ aa (hR.drop g1 g3) p hpd he (UG hw) c f σ hk) h3
 rename_i ki
 have:=ZaE ki p hp he;rw [hw] at this;cases this
end
def ZuK (i:Nat) (l:List Edge):Bool:=l.all fun ed=>!(Region.binds .any ed) || Nat.ble (ed.on+1) i
def ZrN (all:List Oper) (ms:List Nat) (L:List (Nat×Oper)):Bool :=
 L.all fun p=>L.all fun q=>Nat.beq p.1 q.1 || Yx p.2.op || anc ms p.1 q.1 || anc ms q.1 p.1 || Zbo all p.2 q.2
def ZuL (ops:List Oper):Bool :=
 let ms:=Xs ops []
 let L:=Zx 0 ops
 ZaB ms L && (L.all fun p=>ZuK p.1 p.2.after.toList) && ZrN ops ms L
theorem ZcJ:∀{l:List Oper} {i:Nat},(Zx i l).Pairwise (fun a b=>a.1≠b.1)
 | [],_=>List.Pairwise.nil
 | o::l,i=>List.Pairwise.cons (fun p hp=>by have:=(XH hp).1;simp only;omega) ZcJ
theorem Zbr:∀{l:List Oper} {i:Nat},(Zx i l).length=l.length
 | [],_=>rfl
 | o::l,i=>by simp [Zx,Zbr (l:=l)]
theorem Zbs:∀{l:List Oper} {i k:Nat} {o:Oper},l[k]?=some o->(i+k,o)∈Zx i l
 | [],_,_,_,h=>by simp at h
 | x::l,i,k,o,h=>by
  unfold Zx
  cases k with
  | zero=>simp at h;subst h;simp
  | succ k =>
  have:=Zbs (l:=l) (i:=i+1) (k:=k) (o:=o) (by simpa using h);rw [show i+(k+1)=i+1+k by omega];exact Tu _ this
section
variable {G:GE} {C:Cx} {e0 e:Env} {σ0 σ:St} {w0 w:World} {a:Act} {f:Frame} {Q:PQ} {ro:Option Nat} {n:Nat} {ds:Nat×List Deferred×Bool} {N:Nat} {Z:Array Value->Prop}
theorem ZnO (hC:CxOK G C ro e0 σ0 w0) (hM:CxMono C) {ops:Array Oper} (hd:∀o,o∈ops->∀d,o.dst=some d->d<N/\∀t v,Z t->Z (t.setIfInBounds d v)) {ms:List Nat} :
  ∀(k:Nat) (L:List (Nat×Oper)),L.length=k->Rem ops.toList ms L->(∀p∈L,ops[p.1]?=some p.2)->(∀p∈L,∀ed∈p.2.after,Region.binds .any ed=true->ed.on<p.1) ->
  ∀{listed:Array Bool},listed.size=ops.size->(∀k,k<ops.size->(listed.getD k false=true↔∀p∈L,p.1≠k)) ->
  ∀{ctx:List Ld} {e:Env} {σ:St} {w:World} {a:Act} {f:Frame},SRel G e σ w->FRel G e σ w f a.tmps->Later e0 σ0 w0 e σ w->a.tmps.size=N->Marks ds e σ w a.defers->Z a.tmps->Wh C ops.toList ms Q k L ctx f σ ->
  wpAnyIn (fw ro) n G.P .any ops (ZD G e0 σ0 w0 ds N Z Q) k listed a w
 | 0,L,hl,hR,cf,hed,listed,hsz,dg,ctx,e,σ,w,a,f,hS,hF,hL,hN,bl,hZ,h=>by
  have mj:L=[]:=List.length_eq_zero_iff.1 hl;exact m56
 | k+1,L,hl,hR,cf,hed,listed,hsz,dg,ctx,e,σ,w,a,f,hS,hF,hL,hN,bl,hZ,h=>by
  have jk:∀i b,i<ops.size->listed.getD i b=listed.getD i false:=fun i b hi=>by
   exact m79
  have sb:∀p∈L,listed.getD p.1 true=false:=fun p hp=>by
   have ai:=(Tn.1 (cf p hp)).1;rw [jk _ _ ai]
   cases hv:listed.getD p.1 false with
   | false=>rfl
   | true=>exact absurd rfl ((dg p.1 ai).1 hv p hp)
  refine ⟨fun hr=>?_,fun i hi=>?_⟩
  ·exfalso;have:∀(m:Nat),∀p∈L,p.1<=m->False:=by
    intro m
    induction m with
    | zero =>
     intro p hp hm
     have ai:=(Tn.1 (cf p hp)).1;have:p.1∈Region.ready .any ops listed:=mem_ready.2 ⟨sb p hp,p.2,cf p hp,fun ed he hb=>by have:=hed p hp ed he hb;omega⟩;rw [hr] at this;cases this
    | succ m ih =>
    intro p hp hm
    have ai:=(Tn.1 (cf p hp)).1;have:p.1∈Region.ready .any ops listed:=mem_ready.2 ⟨sb p hp,p.2,cf p hp,fun ed he hb=>(dg ed.on (by have:=hed p hp ed he hb;omega)).2 fun q hq e=>by
     have:=hed p hp ed he hb;exact ih q hq oM⟩
    rw [hr] at this;cases this
   cases L with
   | nil=>simp at hl
   | cons x l=>exact this x.1 x sM (Tq _)
  obtain ⟨h1,o,ho,cd⟩:=mem_ready.1 hi;have ai:=(Tn.1 ho).1;rw [jk _ _ ai] at h1;have cg:∃p∈L,p.1=i:=by
   exact m129
  obtain ⟨p,iu,rfl⟩:=cg;have rx:p.2=o:=by have:=cf p iu;rw [ho] at this;exact (Option.some.inj this).symm
  subst rx;have hw:WU p.2 L=false:=by
   cases hv:WU p.2 L with
   | false=>rfl
   | true =>
   obtain ⟨q,hq,ed,he,hb,o6⟩:=waits_iff.1 hv;have n7:=(Tn.1 (cf q hq)).1;have:=(dg q.1 n7).1 (by rw [<- o6];exact cd ed he hb);exact absurd rfl (this q hq)
  have gp:=(ZnN hM k).1 L hl hR p iu hw ctx f σ h;have bo:=Vv (ro:=ro) (n:=n) hC hS hF hL hN bl hZ (ops:=ops) (hd p.2 (Sa ho)) gp;have aa:(Yk p.1 L).length=k:=by have:=Vd (o:=p.2) iu;omega
  have next:∀a' w',KRel G e0 σ0 w0 ds N Z (fun f' σ'=>∃c,Wh C ops.toList ms Q k (Yk p.1 L) c f' σ') a' w'->wpAnyIn (fw ro) n G.P .any ops (ZD G e0 σ0 w0 ds N Z Q) k (listed.setIfInBounds p.1 true) a' w':=fun a' w' ⟨f',e',σ',⟨c,d7⟩,h2,h3,h4,h5,h6,h7⟩=>by
   refine ZnO hC hM hd k (Yk p.1 L) aa (hR.drop iu hw) (fun x hx=>cf x (Yt hx)) (fun x hx=>hed x (Yt hx)) (by simpa using hsz) (fun k hk=>?_) h2 h3 h4 h5 h6 h7 d7
   by_cases mz:k=p.1
   ·subst mz;have fd:p.1<listed.size:=by rw [hsz];exact ai
    have:(listed.setIfInBounds p.1 true).getD p.1 false=true:=by simp [Array.getD,fd]
    simp only [this,true_iff];exact fun x hx=>((XL hR.pw x).1 hx).2
   have:(listed.setIfInBounds p.1 true).getD k false=listed.getD k false:=getD_set_ne false (Ne.symm mz);rw [this,dg k hk]
   constructor
   ·exact fun hh x hx=>hh x (Yt hx)
   intro hh x hx hxk
   exact hh x ((XL hR.pw x).2 ⟨hx,fun e2=>mz (hxk.symm.trans e2)⟩) hxk
  have hK:∀a' w',KRel G e0 σ0 w0 ds N Z (fun f' σ'=>match Yx p.2.op with | true=>Znc ms p.1 σ.bx σ'.bx ctx (Wh C ops.toList ms Q k (Yk p.1 L) ctx f' σ') | false=>Wh C ops.toList ms Q k (Yk p.1 L) (Wg C.T p.2 p.1 f ctx) f' σ') a' w' ->
    KRel G e0 σ0 w0 ds N Z (fun f' σ'=>∃c,Wh C ops.toList ms Q k (Yk p.1 L) c f' σ') a' w':=fun a' w' ⟨f',e',σ',hk,an⟩=>by
   refine ⟨f',e',σ',?_,an⟩
   cases hE:Yx p.2.op with
   | true=>rw [hE] at hk;exact ⟨_,(chkL_iff.1 hk).2⟩
   | false=>rw [hE] at hk;exact ⟨_,hk⟩
  exact m80
theorem ZnP (hC:CxOK G C ro e0 σ0 w0) (hM:CxMono C) {ops:Array Oper} (hd:∀o,o∈ops->∀d,o.dst=some d->d<N/\∀t v,Z t->Z (t.setIfInBounds d v)) (az:ZuL ops.toList=true)
  (hS:SRel G e σ w) (hF:FRel G e σ w f a.tmps) (hL:Later e0 σ0 w0 e σ w) (hN:a.tmps.size=N) (bl:Marks ds e σ w a.defers) (hZ:Z a.tmps) (h:Wh C ops.toList (Xs ops.toList []) Q ops.toList.length (Zx 0 ops.toList) [] f σ) :
  wpAnyIn (fw ro) n G.P .any ops (ZD G e0 σ0 w0 ds N Z Q) ops.size (Array.replicate ops.size false) a w:=by
 simp only [ZuL,Tl] at az;obtain ⟨⟨k1,k2⟩,k3⟩:=az;have cf:∀p∈Zx 0 ops.toList,ops[p.1]?=some p.2:=fun p hp=>by
  have:=(XH hp).2;rw [<- Tt];simpa using this
 have i9:∀k,k<ops.size->∃p∈Zx 0 ops.toList,p.1=k:=fun k hk=>⟨_,Zbs (i:=0) (k:=k) (o:=ops[k]) (by rw [Tt,Tx hk]),sM⟩
 have aa:ops.toList.length=ops.size:=T4;rw [aa] at h;refine ZnO hC hM hd ops.size (Zx 0 ops.toList) (by rw [Zbr,aa]) ⟨ZcJ,WK k1,fun p hp q hq ao he h1 h2=>?_,fun j hj q hq=>?_⟩ cf (fun p hp ed he hb=>?_) sM (fun k hk=>?_) hS hF hL hN bl hZ h
 ·have:=Tm.1 (Tm.1 k3 p hp) q hq;simp only [So] at this;rcases this with (((h | h) | h) | h) | h
  ·exact absurd (Ti h) ao
  ·rw [he] at h;cases h
  ·rw [h1] at h;cases h
  ·rw [h2] at h;cases h
  exact h
 ·by_cases lx:j<ops.size
  ·obtain ⟨p,hp,he⟩:=i9 j lx;exact absurd he (hj p hp)
  exact m63
 ·have:=Tm.1 (Tm.1 k2 p hp) ed (TE.1 he);rw [hb] at this;exact Ta (by simpa using this)
 exact m104
end
end Go.PM
end

section
namespace Go.PM
theorem Xu {P:Program} {b:Go.Frame} {a:Act} {k:List Item} {cs:List Go.Frame} {w:World} {c:Code} :
  step P (lone (b.atR a (.code (.scope c)::k)) cs w)=.next (lone (b.atR a (.code c::.inScope c::k)) cs w) :=
 step_lone_go (by simp [stepG,stepG.exec,Go.Frame.atR])
theorem ZfE {P:Program} {b:Go.Frame} {a:Act} {k:List Item} {cs:List Go.Frame} {w:World} {c:Code} :
  step P (lone (b.atR a (.inScope c::k)) cs w)=.next (lone (b.atR a k) cs w) :=
 step_lone_go (by simp [stepG,stepG.exec,Go.Frame.atR])
theorem ZlV {F:Fence} {n:Nat} {P:Program} {Q:Exit->Act->World->Prop} {a:Act} {w:World} {c:Code} (h:c.wpIn F n P (Exit.noGoto Q) a w):(Code.scope c).wpIn F n P Q a w:=by
 intro b k cs vp hb hr
 have h0:(lone (b.atR a (.code (.scope c)::k)) cs w).fenced P F:=fenced_calm hb hr rfl;obtain ⟨e,a₁,w₁,hq,ly⟩:=h b (.inScope c::k) cs vp hb hr
 cases e with
 | normal=>exact ⟨.normal,a₁,w₁,hq,.head h0 Xu (StepsIn.trans ly (.one (fenced_calm hb hr rfl) ZfE))⟩
 | exit id =>
  have hx:exitTo id (.inScope c::k)=exitTo id k:=by simp [exitTo]
  exact ⟨.exit id,a₁,w₁,hq,fun k' hk=>.head h0 Xu (ly.1 k' (by rw [hx];exact hk)),
   fun n5 hk=>let ⟨k₁,h1,h2⟩:=ly.2 n5 (by rw [hx];exact hk);⟨k₁,h1,.head h0 Xu h2⟩⟩
 | goto l=>exact hq.elim
 | ret=>exact ⟨_,a₁,w₁,hq,.of_steps (.one h0 Xu) ly⟩
 | panic ch=>exact ⟨_,a₁,w₁,hq,.of_steps (.one h0 Xu) ly⟩
 | outgrown=>exact ⟨_,a₁,w₁,hq,.of_steps (.one h0 Xu) ly⟩
def ZnQ (N:Nat):List Oper->Bool
 | []=>true
 | o::l=>(match o.dst with | some d=>Nat.ble (d+1) N | none=>true) && ZnQ N l
def Zz (N:Nat):Code->Bool
 | .region _ ops draw=>ZnQ N ops.toList && (!draw || (match Zbi ops.toList with | none=>(match Zcn (Xs ops.toList []) none (Zx 0 ops.toList) with | true=>ZnI ops.toList | false=>ZuL ops.toList) | some h=>ZnL ops.toList h))
 | .seq a b=>Zz N a && Zz N b
 | .cond _ a b=>Zz N a && Zz N b
 | .block _ b=>Zz N b
 | .loop b=>Zz N b
 | .scope b=>Zz N b
 | .rangeFunc _ ps a b=>ps.toList.all (fun p=>Nat.ble (p+1) N) && Zz N a && Zz N b
 | _=>true
theorem ZaG {N:Nat}:∀{l:List Oper},ZnQ N l=true->∀o∈l,∀d,o.dst=some d->d<N
 | [],_,o,ho=>by cases ho
 | x::l,h,o,ho=>by
  simp only [ZnQ,Tl] at h;rcases Tr.1 ho with rfl | ho
  ·intro d hd
   have:=h.1;rw [hd] at this;exact Ta this
  exact ZaG h.2 o ho
theorem U3 {ks:List Nat}:∀{l:List Oper},Y1 l ks=true->∀o∈l,∀d,o.dst=some d->d∉ks
 | [],_,o,ho=>by cases ho
 | x::l,h,o,ho=>by
  simp only [Y1,Tl] at h;rcases Tr.1 ho with rfl | ho
  ·intro d hd hm
   have:=h.1;rw [hd] at this;simp only [T2] at this;rw [(YA _ _).2 hm] at this;cases this
  exact U3 h.2 o ho
def Kept (ks:List Nat) (t0 t:Array Value):Prop:=∀i,i∈ks->t.getD i Go.undef=t0.getD i Go.undef
theorem Kept.set {ks:List Nat} {t0 t:Array Value} (h:Kept ks t0 t) {d:Nat} (hd:d∉ks) (v:Value):Kept ks t0 (t.setIfInBounds d v):=fun i hi=>by
 have ao:d≠i:=fun e=>hd (e ▸ hi)
 rw [<- h i hi];simp [TV,ao]
theorem VU {ks ls:List Nat}:∀{l:List Oper},Y1 l ks=true->Y1 l ls=true->Y1 l (ks++ls)=true
 | [],_,_=>rfl
 | o::l,h1,h2=>by
  simp only [Y1,Tl] at h1 h2 |-;refine ⟨?_,VU h1.2 h2.2⟩;have h1:=h1.1;have h2:=h2.1
  cases hd:o.dst with
  | none=>rfl
  | some d =>
  rw [hd] at h1 h2;simp only [T2] at h1 h2 |-
  cases h3:ZdU d (ks++ls) with
  | false=>rfl
  | true =>
  rcases TN.1 ((YA _ _).1 h3) with h4 | h4
  ·rw [(YA _ _).2 h4] at h1;cases h1
  rw [(YA _ _).2 h4] at h2;cases h2
theorem ZdX {ks ls:List Nat}:∀{c:Code},Yd ks c=true->Yd ls c=true->Yd (ks++ls) c=true:=by
 intro c
 induction c with
 | region id ops draw=>exact fun h1 h2=>VU h1 h2
 | seq a b iha ihb=>intro h1 h2;simp only [Yd,Tl] at h1 h2 |-;exact ⟨iha h1.1 h2.1,ihb h1.2 h2.2⟩
 | cond c a b iha ihb=>intro h1 h2;simp only [Yd,Tl] at h1 h2 |-;exact ⟨iha h1.1 h2.1,ihb h1.2 h2.2⟩
 | block id b ih=>intro h1 h2;exact ih h1 h2
 | loop b ih=>intro h1 h2;exact ih h1 h2
 | scope b ih=>intro h1 h2;exact ih h1 h2
 | _=>intro _ _;rfl
theorem Y8:∀c:Code,Yd [] c=true:=by
 intro c
 induction c with
 | region id ops draw =>
  have:∀l:List Oper,Y1 l []=true:=by
   intro l
   induction l with
   | nil=>rfl
   | cons o l ih=>simp only [Y1,ih,Bool.and_true];cases o.dst <;> rfl
  exact this _
 | seq a b iha ihb=>simp [Yd,iha,ihb]
 | cond c a b iha ihb=>simp [Yd,iha,ihb]
 | block id b ih=>exact ih
 | loop b ih=>exact ih
 | scope b ih=>exact ih
 | _=>rfl
section
variable {G:GE} {C:Cx} {e0 e:Env} {σ0 σ:St} {w0 w:World} {a:Act} {f:Frame} {Q:PQ} {ro:Option Nat} {n:Nat} {ds:Nat×List Deferred×Bool} {N:Nat}
theorem JV {base:Frame} {tm:Array Value} (hb:FRel G e σ w base tm):∀{live:List Nat} {vs:List PV},(∀(k i:Nat) (x:PV),live[k]?=some i->vs[k]?=some x->VRel G e σ w x (tm.getD i Go.undef))->FRel G e σ w (Zft base live vs) tm
 | [],vs,_=>by cases vs <;> exact hb
 | i::is,[],_=>hb
 | i::is,v::vs,h=>by
  intro j
  have ih:=JV hb (live:=is) (vs:=vs) fun k i x h1 h2=>h (k+1) i x (by simpa using h1) (by simpa using h2)
  simp only [Zft]
  by_cases ir:i=j
  ·subst ir;rw [Ys];exact h 0 i v sM sM
  rw [Xg _ _ ir];exact ih j
theorem ZcK {f0:Frame} {tm:Array Value}:∀{keep:List Nat},(∀i,i∈keep->VRel G e σ w (clean (f0 i)) (tm.getD i Go.undef))->FRel G e σ w (Ziv f0 keep) tm
 | [],_=>fun i=>.undef _
 | i::is,h=>by
  intro j
  simp only [Ziv]
  by_cases ir:i=j
  ·subst ir;rw [Ys];exact h i sM
  rw [Xg _ _ ir];exact ZcK (fun k hk=>h k (Tu _ hk)) j
theorem ZrO {ks:List Nat} {t0:Array Value} {b:Code} (ihb:∀(Q:PQ) {e:Env} {σ:St} {w:World} {a:Act} {f:Frame},SRel G e σ w->FRel G e σ w f a.tmps->Later e0 σ0 w0 e σ w->a.tmps.size=N->Marks ds e σ w a.defers->Kept ks t0 a.tmps->W C b Q f σ->b.wpIn (fw ro) n G.P (ZD G e0 σ0 w0 ds N (Kept ks t0) Q) a w)
  (x:Exit) (a:Act) (w:World) (h:ZD G e0 σ0 w0 ds N (Kept ks t0) (fun e f σ=>match e with | .normal=>W C b Q f σ | e=>Q e f σ) x a w):Exit.then (b.wpIn (fw ro) n G.P (ZD G e0 σ0 w0 ds N (Kept ks t0) Q)) (ZD G e0 σ0 w0 ds N (Kept ks t0) Q) x a w:=by
 obtain ⟨pe,f,e,σ,hq,hx,h1,h2,h3,h4,h5,h6⟩:=h
 cases pe with
 | normal=>obtain rfl:x=.normal:=hx;exact ihb Q h1 h2 h3 h4 h5 h6 hq
 | exit id=>obtain rfl:x=.exit id:=hx;exact ⟨.exit id,f,e,σ,hq,rfl,h1,h2,h3,h4,h5,h6⟩
 | goto l=>obtain rfl:x=.goto l:=hx;exact ⟨.goto l,f,e,σ,hq,rfl,h1,h2,h3,h4,h5,h6⟩
 | ret=>obtain rfl:x=.ret:=hx;exact ⟨.ret,f,e,σ,hq,rfl,h1,h2,h3,h4,h5,h6⟩
 | panic p=>obtain ⟨v,rfl,hv⟩:=hx;exact ⟨.panic p,f,e,σ,hq,⟨v,rfl,hv⟩,h1,h2,h3,h4,h5,h6⟩
theorem ZlW {Z:Array Value->Prop} {id:Nat} (x:Exit) (a:Act) (w:World) (h:ZD G e0 σ0 w0 ds N Z (fun e f σ=>match e with | .exit i=>(match Nat.beq i id with | true=>Q .normal f σ | false=>Q (.exit i) f σ) | e=>Q e f σ) x a w) :
  Exit.inBlock id (ZD G e0 σ0 w0 ds N Z Q) x a w:=by
 obtain ⟨pe,f,e,σ,hq,hx,an⟩:=h
 cases pe with
 | normal=>obtain rfl:x=.normal:=hx;exact ⟨.normal,f,e,σ,hq,rfl,an⟩
 | exit i =>
  obtain rfl:x=.exit i:=hx;simp only [Exit.inBlock]
  by_cases hi:i=id
  ·subst hi;rw [Tj rfl];simp only [show Nat.beq i i=true from sM] at hq;exact ⟨.normal,f,e,σ,hq,rfl,an⟩
  rw [Tg hi];have:Nat.beq i id=false:=by
   cases hb:Nat.beq i id with
   | false=>rfl
   | true=>exact absurd (Ti hb) hi
  simp only [this] at hq;exact ⟨.exit i,f,e,σ,hq,rfl,an⟩
 | goto l=>obtain rfl:x=.goto l:=hx;exact ⟨.goto l,f,e,σ,hq,rfl,an⟩
 | ret=>obtain rfl:x=.ret:=hx;exact ⟨.ret,f,e,σ,hq,rfl,an⟩
 | panic p=>obtain ⟨v,rfl,hv⟩:=hx;exact ⟨.panic p,f,e,σ,hq,⟨v,rfl,hv⟩,an⟩
theorem ZlX {Z:Array Value->Prop} (x:Exit) (a:Act) (w:World) (h:ZD G e0 σ0 w0 ds N Z (fun e f σ=>match e with | .goto _=>False | e=>Q e f σ) x a w) :
  Exit.noGoto (ZD G e0 σ0 w0 ds N Z Q) x a w:=by
 obtain ⟨pe,f,e,σ,hq,hx,an⟩:=h
 cases pe with
 | normal=>obtain rfl:x=.normal:=hx;exact ⟨.normal,f,e,σ,hq,rfl,an⟩
 | exit i=>obtain rfl:x=.exit i:=hx;exact ⟨.exit i,f,e,σ,hq,rfl,an⟩
 | goto l=>exact hq.elim
 | ret=>obtain rfl:x=.ret:=hx;exact ⟨.ret,f,e,σ,hq,rfl,an⟩
 | panic p=>obtain ⟨v,rfl,hv⟩:=hx;exact ⟨.panic p,f,e,σ,hq,⟨v,rfl,hv⟩,an⟩
theorem ZfF (hS:SRel G e σ w) {b:Nat} {st st':LoopState} {pd pd':Option Code} {r:Loop} (hb:σ.bx[b]?=some (.loop st pd r)) :
  Stepped e σ w e (σ.set b (.loop st' pd' r)) (w.putObj (e.β b) (.loop { r with state:=st',pending:=pd' }))/\SRel G e (σ.set b (.loop st' pd' r)) (w.putObj (e.β b) (.loop { r with state:=st',pending:=pd' })):=by
 have lq:w.heap[e.β b]?=some (.loop { r with state:=st,pending:=pd }):=hS.box b _ hb;exact Zaw hS hb rfl rfl rfl World.putObj_size (fun k hk=>World.putObj_heap_other hk) fun _=>World.putObj_heap_same (Tn.1 lq).1
theorem Zg5:∀{ps:List Nat} {f:Frame} {args:List PV} {tm:Array Value} {vs:List Value},FRel G e σ w f tm->vs.length=args.length->(∀(i:Nat) (x:PV) (u:Value),args[i]?=some x->vs[i]?=some u->VRel G e σ w x u)->(∀p∈ps,p<tm.size) ->
  FRel G e σ w (Zne f ps args) ((ps.zip vs).foldl (fun tmps (x:Nat×Value)=>tmps.setIfInBounds x.1 x.2) tm)/\((ps.zip vs).foldl (fun tmps (x:Nat×Value)=>tmps.setIfInBounds x.1 x.2) tm).size=tm.size
 | [],f,args,tm,vs,hF,hl,hr,hp=>by simp only [Zne,List.zip_nil_left,List.foldl_nil,and_true];exact hF
 | p::ps,f,[],tm,[],hF,hl,hr,hp=>⟨hF,rfl⟩
 | p::ps,f,x::args,tm,u::vs,hF,hl,hr,hp=>by
   simp only [List.zip_cons_cons,List.foldl_cons,Zne];have h1:FRel G e σ w (V0 f p x) (tm.setIfInBounds p u):=by
    have:=FRel.put (a:={ tmps:=tm,defers:=[] }) (d:=some p) hF (hr 0 x u rfl rfl) (fun i hi=>by cases hi;exact hp p sM);exact this
   obtain ⟨g1,g2⟩:=Zg5 (ps:=ps) h1 (by simpa using hl) (fun i y v hy hv=>hr (i+1) y v (by simpa using hy) (by simpa using hv)) (fun q hq=>by simpa using hp q (by simp [hq]));exact ⟨g1,by rw [g2];simp⟩
theorem Marks.push {lo:Nat×List Deferred×Bool} {l:List Deferred} (hS:SRel G e σ w) (hf:lo.2.2=false) (h:Marks lo e σ w l):Marks lo e σ (w.alloc (.deferred (some []))) (JP w.heap.size::l):=by
 obtain ⟨h0,rs,h1,_,h2,h3⟩:=h;have hg:=Grows.alloc w (.deferred (some []));have ox:∀r∈rs,r<w.heap.size:=fun r hr=>(Tn.1 (h3 r hr).2.1).1
 refine ⟨T1 h0 hg.size,w.heap.size::rs,by rw [h1];rfl,fun h=>by (rw [hf] at h;cases h),List.nodup_cons.2 ⟨fun hm=>by have:=ox _ hm;omega,h2⟩,fun r hr=>?_⟩;rcases Tr.1 hr with rfl | hr
 ·refine ⟨h0,heap_alloc_new w _,fun i hi=>by have:=hS.lt hi;omega,fun t ht p hp=>?_⟩;obtain ⟨_,_,cs,ty,fz,hh⟩:=hS.own t ht p hp;have:=(Tn.1 hh).1;omega
 obtain ⟨g1,g2,g3,g4⟩:=h3 r hr;exact ⟨g1,(hg.old r (ox r hr)).trans g2,g3,g4⟩
theorem ZrP {o:Oper} {d:Nat} (hd:o.dst=some d):∀{l:List Oper},o∈l->ZbS d l=true:=fun {l} ho=>by
 induction l with
 | nil=>cases ho
 | cons x l ih =>
 rcases Tr.1 ho with rfl | ho
 ·unfold ZbS
  rw [hd];show (match Nat.beq d d with | true=>true | false=>ZbS d l)=true;rw [Nat.beq_refl]
 unfold ZbS
 split
 ·split
  ·rfl
  exact ih ho
 exact ih ho
theorem ZcL (ax:G.P.follows .mixedOrders=true):∀(c:Code) {C:Cx} {ro:Option Nat} {e0:Env} {σ0:St} {w0:World} {N:Nat} {ds:Nat×List Deferred×Bool} {n:Nat},CxOK G C ro e0 σ0 w0->CxMono C.calm->(ds.2.2=true->∀g args raw σ K,¬C.iter g args raw σ K)->Zz N c=true->∀(ks:List Nat) (t0:Array Value),Yd ks c=true->∀(Q:PQ) {e:Env} {σ:St} {w:World} {a:Act} {f:Frame},
  SRel G e σ w->FRel G e σ w f a.tmps->Later e0 σ0 w0 e σ w->a.tmps.size=N->Marks ds e σ w a.defers->Kept ks t0 a.tmps->W C c Q f σ->c.wpIn (fw ro) n G.P (ZD G e0 σ0 w0 ds N (Kept ks t0) Q) a w:=by
 intro c
 induction c with
 | skip=>intro C ro e0 σ0 w0 N ds n hC hM eg _ ks t0 _ Q e σ w a f hS hF hL hN bl hZ h;exact wpIn_skip ⟨.normal,f,e,σ,h,rfl,hS,hF,hL,hN,bl,hZ⟩
 | label l=>intro C ro e0 σ0 w0 N ds n hC hM eg _ ks t0 _ Q e σ w a f hS hF hL hN bl hZ h;exact wpIn_label ⟨.normal,f,e,σ,h,rfl,hS,hF,hL,hN,bl,hZ⟩
 | exit id=>intro C ro e0 σ0 w0 N ds n hC hM eg _ ks t0 _ Q e σ w a f hS hF hL hN bl hZ h;exact wpIn_exit ⟨.exit id,f,e,σ,h,rfl,hS,hF,hL,hN,bl,hZ⟩
 | goto l=>intro C ro e0 σ0 w0 N ds n hC hM eg _ ks t0 _ Q e σ w a f hS hF hL hN bl hZ h;exact wpIn_goto ⟨.goto l,f,e,σ,h,rfl,hS,hF,hL,hN,bl,hZ⟩
 | ret=>intro C ro e0 σ0 w0 N ds n hC hM eg _ ks t0 _ Q e σ w a f hS hF hL hN bl hZ h;exact wpIn_ret ⟨.ret,f,e,σ,h,rfl,hS,hF,hL,hN,bl,hZ⟩
 | region id ops draw =>
  intro C ro e0 σ0 w0 N ds n hC hM eg az ks t0 dz Q e σ w a f hS hF hL hN bl hZ h
  simp only [Zz,Tl] at az;have hd:∀o,o∈ops->∀d,o.dst=some d->d<N/\∀t v,Kept ks t0 t->Kept ks t0 (t.setIfInBounds d v):=fun o ho d ud =>
   ⟨ZaG az.1 o (TE.1 ho) d ud,fun t v hk=>hk.set (U3 dz o (TE.1 ho) d ud) v⟩
  cases draw with
  | false =>
   refine wpIn_region ?_;have:=ZeB (ro:=ro) (n:=n) hC hd ops.toList 0 (fun j=>sM) hS hF hL hN bl hZ h;rw [List.range_eq_range'];simpa using this
  | true =>
  have ju:=az.2;simp only [Bool.not_true,Bool.false_or] at ju;simp only [W] at h;have ig:Later e0 σ0 w0 e σ { w with drawn:=w.drawn+1 }:=hL.trans { Later.refl e σ w with };have hst:Stepped e σ w e σ { w with drawn:=w.drawn+1 }:={ Stepped.refl e σ w with }
  have ip:SRel G e σ { w with drawn:=w.drawn+1 }:={ hS with box:=fun i x hx=>(hS.box i x hx).step hst rfl }
  have xv:=hF.step hst
  let Z:Array Value->Prop:=fun t=>Kept ks t0 t/\∀i,ZbS i ops.toList=false->t.getD i Go.undef=a.tmps.getD i Go.undef
  have xw:∀o,o∈ops->∀d,o.dst=some d->d<N/\∀t v,Z t->Z (t.setIfInBounds d v):=fun o ho d ud=>⟨(hd o ho d ud).1,fun t v hz=>⟨(hd o ho d ud).2 t v hz.1,fun i hi=>by
   have ao:d≠i:=fun he=>by
    subst he;rw [ZrP ud (TE.1 ho)] at hi;cases hi
   rw [<- hz.2 i hi];simp [TV,ao]⟩⟩
  have hC':=hC.later ig;have fin:∀x a' w',ZD G e σ { w with drawn:=w.drawn+1 } ds N Z (Zfu C ops.toList f Q) x a' w'->ZD G e0 σ0 w0 ds N (Kept ks t0) Q x a' w':=fun x a' w' hp=>by
   obtain ⟨pe,f',e',σ',hq,hx,g1,g2,g3,g4,g5,g6⟩:=hp
   cases pe with
   | panic p =>
    refine ⟨.panic p,_,e',σ',hq,hx,g1,fun i=>?_,ig.trans g3,g4,g5,g6.1⟩;unfold Cx.pd
    cases C.pk with
    | false=>exact .undef _
    | true =>
    show VRel _ _ _ _ (match ZbS i ops.toList with | true=>PV.undef | false=>clean (f i)) _
    cases hw:ZbS i ops.toList with
    | true=>exact .undef _
    | false =>
    rw [g6.2 i hw];exact (xv.clean g3) i
   | normal=>exact ⟨_,f',e',σ',hq,hx,g1,g2,ig.trans g3,g4,g5,g6.1⟩
   | ret=>exact ⟨_,f',e',σ',hq,hx,g1,g2,ig.trans g3,g4,g5,g6.1⟩
   | exit id=>exact ⟨_,f',e',σ',hq,hx,g1,g2,ig.trans g3,g4,g5,g6.1⟩
   | goto l=>exact ⟨_,f',e',σ',hq,hx,g1,g2,ig.trans g3,g4,g5,g6.1⟩
  have hZ':Z a.tmps:=⟨hZ,fun _ _=>rfl⟩
  have hR:Later e σ { w with drawn:=w.drawn+1 } e σ { w with drawn:=w.drawn+1 }:=Later.refl _ _ _;refine wpIn_mono (wpIn_region_any (Q:=ZD G e σ { w with drawn:=w.drawn+1 } ds N Z (Zfu C ops.toList f Q)) ax ?_) fin;split at h
  ·rename_i hh
   rw [hh] at ju;simp only at ju;split at h
   ·rename_i hch
    rw [hch] at ju;exact ZlQ hC'.calm hM xw ju ip xv hR hN (bl.later hst.toLater) hZ' h
   rename_i hch
   rw [hch] at ju;exact ZnP hC'.calm hM xw ju ip xv hR hN (bl.later hst.toLater) hZ' h
  rename_i hl hh
  rw [hh] at ju;exact ZlU hC'.calm hM xw hh ju ip xv hR hN (bl.later hst.toLater) hZ' h
 | seq x y ihx ihy =>
  intro C ro e0 σ0 w0 N ds n hC hM eg az ks t0 dz Q e σ w a f hS hF hL hN bl hZ h
  simp only [Zz,Tl] at az;simp only [Yd,Tl] at dz;simp only [W] at h;split at h
  ·exact wpIn_seq (wpIn_mono (ihx hC hM eg az.1 ks t0 dz.1 _ hS hF hL hN bl hZ h) (ZrO fun Q {e σ w a f}=>ihy hC hM eg az.2 ks t0 dz.2 Q))
  rename_i live I fm
  obtain ⟨h1,h2⟩:=h;refine wpIn_seq (wpIn_mono (ihx hC hM eg az.1 ks t0 dz.1 _ hS hF hL hN bl hZ h1) fun x' a' w' hp=>?_);obtain ⟨pe,f',e',σ',hq,hx,g1,g2,g3,g4,g5,g6⟩:=hp
  cases pe with
  | normal =>
   obtain rfl:x'=.normal:=hx;obtain ⟨vs0,σ1,e1,hI,gg,jv,aa,bz⟩:=Zj6 g1 hq;have vq:FRel G e1 σ1 w' (Zft (fun _=>.undef) live vs0) a'.tmps:=JV (fun i=>.undef _) fun k i x h1 h2=>bz k (f' i) x _ (by rw [To,h1];rfl) h2 (g2 i)
   exact ihy hC hM eg az.2 ks t0 dz.2 Q gg vq (g3.drop jv g3.len) g4 (g5.drop jv) g6 (h2 _ _ hI)
  | exit id=>obtain rfl:x'=.exit id:=hx;exact ⟨.exit id,f',e',σ',hq,rfl,g1,g2,g3,g4,g5,g6⟩
  | goto l=>obtain rfl:x'=.goto l:=hx;exact ⟨.goto l,f',e',σ',hq,rfl,g1,g2,g3,g4,g5,g6⟩
  | ret=>obtain rfl:x'=.ret:=hx;exact ⟨.ret,f',e',σ',hq,rfl,g1,g2,g3,g4,g5,g6⟩
  | panic p=>obtain ⟨v,rfl,hv⟩:=hx;exact ⟨.panic p,f',e',σ',hq,⟨v,rfl,hv⟩,g1,g2,g3,g4,g5,g6⟩
 | cond c x y ihx ihy =>
  intro C ro e0 σ0 w0 N ds n hC hM eg az ks t0 dz Q e σ w a f hS hF hL hN bl hZ h
  simp only [Zz,Tl] at az;simp only [Yd,Tl] at dz;simp only [W] at h;have hv:=Zbl hF c;split at h
  ·rename_i t hc
   rw [hc] at hv
   cases t with
   | true=>exact wpIn_cond_true hv.dbool (ihx hC hM eg az.1 ks t0 dz.1 _ hS hF hL hN bl hZ h)
   | false=>exact wpIn_cond_false hv.dbool (ihy hC hM eg az.2 ks t0 dz.2 _ hS hF hL hN bl hZ h)
  exact h.elim
 | block id b ih =>
  intro C ro e0 σ0 w0 N ds n hC hM eg az ks t0 dz Q e σ w a f hS hF hL hN bl hZ h
  exact wpIn_block (wpIn_mono (ih hC hM eg az ks t0 dz _ hS hF hL hN bl hZ h) ZlW)
 | scope b ih =>
  intro C ro e0 σ0 w0 N ds n hC hM eg az ks t0 dz Q e σ w a f hS hF hL hN bl hZ h
  exact ZlV (wpIn_mono (ih hC hM eg az ks t0 dz _ hS hF hL hN bl hZ h) ZlX)
 | loop b ih =>
  intro C ro e0 σ0 w0 N ds n hC hM eg az ks t0 dz Q e σ w a f hS hF hL hN bl hZ h
  simp only [W] at h;generalize C.loop (YC b)=A at h;split at h
  ·rename_i m0 _
   generalize m0+1=m at h
   let J:Nat->Frame->St->Act->World->Prop:=fun k f1 σ1 a1 w1=>∃e1,Zbj (fun Q f σ=>W C b Q f σ) Q k f1 σ1/\SRel G e1 σ1 w1/\FRel G e1 σ1 w1 f1 a1.tmps/\Later e σ w e1 σ1 w1/\a1.tmps.size=N/\Marks ds e1 σ1 w1 a1.defers/\Kept ks a.tmps a1.tmps
   let In:Act->World->Prop:=fun a1 w1=>∃k f1 σ1,J k f1 σ1 a1 w1
   let Mu:Act->World->Nat->Prop:=fun a1 w1 m=>∃f1 σ1,J m f1 σ1 a1 w1
   have least:∀a1 w1,In a1 w1->∃m,Mu a1 w1 m/\∀m',Mu a1 w1 m'->m<=m':=fun a1 w1 ⟨k,f1,σ1,hJ⟩=>by
    have:∀m,Mu a1 w1 m->∃m,Mu a1 w1 m/\∀m',Mu a1 w1 m'->m<=m':=by
     intro m
     induction m using Nat.strongRecOn with
     | _ m ihm =>
     intro hm
     exact m110
    exact this _ ⟨f1,σ1,hJ⟩
   classical
   let mu:Act->World->Nat:=fun a1 w1=>if hh:∃m,Mu a1 w1 m/\∀m',Mu a1 w1 m'->m<=m' then Classical.choose hh else 0
   have vr:∀a1 w1,In a1 w1->Mu a1 w1 (mu a1 w1)/\∀m',Mu a1 w1 m'->mu a1 w1<=m':=fun a1 w1 sc=>by
    have hh:=least a1 w1 sc;simp only [mu,dif_pos hh];exact Classical.choose_spec hh
   refine wpIn_loop In mu ⟨m,f,σ,e,h,hS,hF,Later.refl e σ w,hN,bl,fun i _=>rfl⟩ ?_;intro a1 w1 sc
   obtain ⟨⟨f2,σ2,⟨e2,hU,jl,rn,lh,hN2,sd,hK2⟩⟩,_⟩:=vr a1 w1 sc;generalize im:mu a1 w1=mm at hU
   cases mm with
   | zero=>exact hU.elim
   | succ mm =>
   simp only [Zbj] at hU;have hb:=ih (n:=n) (hC.later hL) hM eg az ks a.tmps dz _ jl rn lh hN2 sd hK2 hU;refine wpIn_mono hb fun x a' w' hp=>?_
   obtain ⟨pe,f',e',σ',hq,hx,h1,h2,h3,h4,h5,h6⟩:=hp;have o7:Kept ks t0 a'.tmps:=fun i hi=>(h6 i hi).trans (hZ i hi)
   cases pe with
   | normal =>
    obtain rfl:x=.normal:=hx;have hJ:J mm f' σ' a' w':=⟨e',hq,h1,h2,h3,h4,h5,h6⟩
    have nd:In a' w':=⟨mm,f',σ',hJ⟩
    refine ⟨nd,?_⟩;have:=(vr a' w' nd).2 _ ⟨f',σ',hJ⟩;exact Nat.lt_succ_of_le this
   | exit id=>obtain rfl:x=.exit id:=hx;exact ⟨.exit id,f',e',σ',hq,rfl,h1,h2,hL.trans h3,h4,h5,o7⟩
   | goto l=>obtain rfl:x=.goto l:=hx;exact ⟨.goto l,f',e',σ',hq,rfl,h1,h2,hL.trans h3,h4,h5,o7⟩
   | ret=>obtain rfl:x=.ret:=hx;exact ⟨.ret,f',e',σ',hq,rfl,h1,h2,hL.trans h3,h4,h5,o7⟩
   | panic p=>obtain ⟨v,rfl,hv⟩:=hx;exact ⟨.panic p,f',e',σ',hq,⟨v,rfl,hv⟩,h1,h2,hL.trans h3,h4,h5,o7⟩
  have key:∀A:LoopAnn,Yd A.keep b=true->(VT (C.ag (YC b)) σ.bx.length (A.live.map f) σ fun vs σ0=>A.I vs σ0 /\
    ∀vs σ1,A.I vs σ1->W C b (fun e f' σ'=>match e with
     | .normal=>VT (C.ag (YC b)) σ1.bx.length (A.live.map f') σ' fun vs' σ''=>A.I vs' σ''/\A.μ vs' σ''<A.μ vs σ1
     | e=>Q e f' σ') (Zft (Ziv f A.keep) A.live vs) σ1)->(Code.loop b).wpIn (fw ro) n G.P (ZD G e0 σ0 w0 ds N (Kept ks t0) Q) a w:=fun A ef h=>by
   obtain ⟨vs0,σ1,e1,⟨hI,kp⟩,gg,jv,aa,bz⟩:=ZcE hS h;have jw:∀{e':Env} {σ':St} {w':World} {tm:Array Value},Later e σ w e' σ' w'->Kept (ks++A.keep) a.tmps tm->∀i,i∈A.keep->VRel G e' σ' w' (clean (f i)) (tm.getD i Go.undef):=fun {e' σ' w' tm} hl hk i hi=>by
    rw [hk i (TN.2 (.inr hi))];exact VRel.clean hl.len hl.beta hl.pres (hF i) (hF i).bnd
   have qe:∀(f':Frame) (tm:Array Value) (vs':List PV) {e':Env} {σ':St} {w':World} {e'':Env} {σ'':St},FRel G e' σ' w' f' tm->(∀(i:Nat) (x y:PV) (u:Value),(A.live.map f')[i]?=some x->vs'[i]?=some y->VRel G e' σ' w' x u->VRel G e'' σ'' w' y u) ->
     ∀(k i:Nat) (x:PV),A.live[k]?=some i->vs'[k]?=some x->VRel G e'' σ'' w' x (tm.getD i Go.undef):=fun f' tm vs' {e' σ' w' e'' σ''} hf hv k i x h1 h2 =>
    hv k (f' i) x _ (by rw [To,h1];rfl) h2 (hf i)
   let J:List PV->St->Act->World->Prop:=fun vs σ1 a1 w1=>∃e1,A.I vs σ1/\SRel G e1 σ1 w1/\FRel G e1 σ1 w1 (Zft (Ziv f A.keep) A.live vs) a1.tmps/\Later e σ w e1 σ1 w1/\a1.tmps.size=N/\Marks ds e1 σ1 w1 a1.defers/\Kept (ks++A.keep) a.tmps a1.tmps
   let In:Act->World->Prop:=fun a1 w1=>∃vs σ1,J vs σ1 a1 w1
   let Mu:Act->World->Nat->Prop:=fun a1 w1 m=>∃vs σ1,J vs σ1 a1 w1/\A.μ vs σ1=m
   have least:∀a1 w1,In a1 w1->∃m,Mu a1 w1 m/\∀m',Mu a1 w1 m'->m<=m':=fun a1 w1 ⟨vs,σ1,hJ⟩=>by
    have:∀m,Mu a1 w1 m->∃m,Mu a1 w1 m/\∀m',Mu a1 w1 m'->m<=m':=by
     intro m
     induction m using Nat.strongRecOn with
     | _ m ihm =>
     intro hm
     exact m110
    exact this _ ⟨vs,σ1,hJ,rfl⟩
   classical
   let mu:Act->World->Nat:=fun a1 w1=>if hh:∃m,Mu a1 w1 m/\∀m',Mu a1 w1 m'->m<=m' then Classical.choose hh else 0
   have vr:∀a1 w1,In a1 w1->Mu a1 w1 (mu a1 w1)/\∀m',Mu a1 w1 m'->mu a1 w1<=m':=fun a1 w1 sc=>by
    have hh:=least a1 w1 sc;simp only [mu,dif_pos hh];exact Classical.choose_spec hh
   have qf:Later e σ w e1 σ1 w:=(Later.refl e σ w).drop jv (Tq _);have nf:Kept (ks++A.keep) a.tmps a.tmps:=fun i _=>rfl
   refine wpIn_loop In mu ⟨vs0,σ1,e1,hI,gg,?_,qf,hN,bl.drop jv,nf⟩ ?_
   ·exact JV (ZcK (jw qf nf)) (qe f a.tmps vs0 hF bz)
   intro a1 w1 sc
   obtain ⟨⟨vs,σ2,⟨e2,fx,jl,rn,lh,hN2,sd,hK2⟩,hm⟩,_⟩:=vr a1 w1 sc;have hb:=ih (n:=n) (hC.later hL) hM eg az (ks++A.keep) a.tmps (ZdX dz ef) _ jl rn lh hN2 sd hK2 (kp vs σ2 fx);refine wpIn_mono hb fun x a' w' hp=>?_
   obtain ⟨pe,f',e',σ',hq,hx,h1,h2,h3,h4,h5,h6⟩:=hp;have o7:Kept ks t0 a'.tmps:=fun i hi=>(h6 i (TN.2 (.inl hi))).trans (hZ i hi)
   cases pe with
   | normal =>
    obtain rfl:x=.normal:=hx;obtain ⟨vs',σ3,e3,⟨hI3,ai⟩,gq,nh,iq,aal⟩:=ZcE h1 hq;have ue:Later e σ w e3 σ3 w':=h3.drop nh lh.len;have hJ:J vs' σ3 a' w':=⟨e3,hI3,gq,JV (ZcK (jw ue h6)) (qe f' a'.tmps vs' h2 aal),ue,h4,h5.drop nh,h6⟩
    have nd:In a' w':=⟨vs',σ3,hJ⟩
    refine ⟨nd,?_⟩;have:=(vr a' w' nd).2 _ ⟨vs',σ3,hJ,rfl⟩;rw [<- hm];exact Nat.lt_of_le_of_lt this ai
   | exit id=>obtain rfl:x=.exit id:=hx;exact ⟨.exit id,f',e',σ',hq,rfl,h1,h2,hL.trans h3,h4,h5,o7⟩
   | goto l=>obtain rfl:x=.goto l:=hx;exact ⟨.goto l,f',e',σ',hq,rfl,h1,h2,hL.trans h3,h4,h5,o7⟩
   | ret=>obtain rfl:x=.ret:=hx;exact ⟨.ret,f',e',σ',hq,rfl,h1,h2,hL.trans h3,h4,h5,o7⟩
   | panic p=>obtain ⟨v,rfl,hv⟩:=hx;exact ⟨.panic p,f',e',σ',hq,⟨v,rfl,hv⟩,h1,h2,hL.trans h3,h4,h5,o7⟩
  split at h
  ·rename_i ef
   split at h
   ·exact key _ ef h
   exact key (A.tied f) ef h
  exact h.elim
 | rangeFunc g ps asg body iha ihb =>
  intro C ro e0 σ0 w0 N ds n hC hM eg az ks t0 dz Q e σ w a f hS hF hL hN bl hZ h
  simp only [Zz,Tl] at az;simp only [W] at h;split at h
  ·rename_i gid first caps hg
   have hv:=Zbl hF g;rw [hg] at hv;generalize hgv:a.eval g=gv at hv
   cases hv with
   | func _ _ _ va vc ha hc h1 h2 =>
   have vp:ro=none:=by
    rcases hC.out with h0 | h0
    ·exact h0
    exact absurd (h 0 default) (h0 _ _ _ _ _)
   subst vp;refine wpIn_rangeFunc fun fn _=>?_
   have hMi:CxMono C.inner.calm:=⟨hM.one,hM.call,hM.raw,rfl⟩
   have hdf:ds.2.2=false:=by
    cases ca:ds.2.2 with
    | false=>rfl
    | true=>exact absurd (h 0 default) (eg ca _ _ _ _ _)
   let rec0:Loop:={ state:=.ready,pending:=none,fn,tmps:=a.tmps,params:=ps,assign:=asg,body,defers:=w.heap.size }
   let wA:=w.alloc (.deferred (some []))
   have hgA:Grows w wA:=Grows.alloc w _;have hSA:SRel G e σ wA:=hS.grow hgA;have se:Stepped e σ w e σ wA:=hgA.stepped e σ;have aan:Marks ds e σ wA (JP w.heap.size::a.defers):=bl.push hS hdf;have hsz:wA.heap.size=w.heap.size+1:=by simp [wA]
   obtain ⟨o8,gg,_⟩:=JO hSA (.loop .ready none rec0) (.loop rec0) (fun _ _ _ _ hh=>hh);have uc:(e.more σ.bx.length wA.heap.size).β σ.bx.length=w.heap.size+1:=by simp [Env.more,hsz]
   have lq:=h (w.heap.size+1) rec0;obtain ⟨ko,jt⟩:=hC.iter _ _ _ _ _ lq;have si:ArgsRel G (e.more σ.bx.length wA.heap.size) (σ.new (.loop .ready none rec0)) (wA.alloc (.loop rec0)) (first++.raw (.func (.yield (w.heap.size+1)) #[] #[])::caps) (va++#[.func (.yield (w.heap.size+1)) #[] #[]]++vc):=by
    rw [List.append_cons];refine (ArgsRel.append (ArgsRel.append ⟨ha,fun i x u hx hu=>((h1 i x u hx hu).step se).step o8⟩ ⟨rfl,fun i x u hx hu=>?_⟩) ⟨hc,fun i x u hx hu=>((h2 i x u hx hu).step se).step o8⟩)
    match i with
    | 0=>cases hx;cases hu;exact .raw _
    | n+1=>cases hx
   have qf:Later e σ w (e.more σ.bx.length wA.heap.size) (σ.new (.loop .ready none rec0)) (wA.alloc (.loop rec0)):=se.toLater.trans o8.toLater;have qg:σ.bx.length<(σ.new (.loop .ready none rec0)).bx.length:=by rw [ZDj];omega
   refine ⟨w.heap.size+1,[JP w.heap.size],wA.alloc (.loop rec0),{ target:=.fn (.func gid) vc,args:=va++#[.func (.yield (w.heap.size+1)) #[] #[]] },wA.alloc (.loop rec0),gid,va++#[.func (.yield (w.heap.size+1)) #[] #[]]++vc,wA.alloc (.loop rec0),
    run_enterLoop_outer fn a.tmps ps asg body,?_,fun _ _=>trivial,?_,fun hh=>by simp [fw] at hh,?_⟩
   ·show (Deferred.ofValue (a.eval g) _).run _ _=_;rw [hgv];simp [Deferred.ofValue,rangeCall,Act.eval]
   ·simp only [invoke];exact ko _ _
   refine (jt (n - 1) _ _ _ gg si ?_).mono fun en w3 hA=>?_
   ·
    intro v args σ' K hr
    obtain ⟨rfl,fq,xx,hWA⟩:=hr;refine ⟨w.heap.size+1,rfl,fun ro n e' w' vs ip ig rk=>?_⟩;have jj:σ.bx.length<σ'.bx.length:=(Th.1 fq).1;have hβ':e'.β σ.bx.length=w.heap.size+1:=(ig.beta _ qg).trans uc;have ni:w'.heap[w.heap.size+1]?=some (.loop rec0):=by have:=ip.box _ _ fq;rw [hβ'] at this;exact this
    have bz:vs.size=rec0.params.size:=by rw [rk.1,xx];simp [rec0]
    refine ⟨_,_,_,_,run_yield ni bz,?_⟩;have hF0:FRel G e' σ' w' (VR f) a.tmps:=hF.clean (qf.trans ig);have rp:∀p∈ps.toList,p<a.tmps.size:=fun p hp=>by
     have:=Tm.1 az.1.1 p hp;rw [hN];exact Ta this
    have qh:(rec0.params.zip vs).foldl (fun tmps (x:Nat×Value)=>tmps.setIfInBounds x.1 x.2) rec0.tmps=(ps.toList.zip vs.toList).foldl (fun tmps (x:Nat×Value)=>tmps.setIfInBounds x.1 x.2) a.tmps:=by
     rw [<- Array.foldl_toList,Array.toList_zip]
    obtain ⟨vq,ib⟩:=Zg5 (ps:=ps.toList) (args:=args) (vs:=vs.toList) hF0 (by simpa using rk.1) (fun i x u hx hu=>rk.2 i x u hx (by simpa using hu)) rp;refine roundIn_of_wpIn trivial ?_;have hCr:CxOK G C.inner (some (w.heap.size+1)) e' σ' w':=⟨hC.tab,hC.call,hC.raw.later (hL.trans (qf.trans ig)),fun _ _ _ _ _ hh=>hh.elim,.inr fun _ _ _ _ _ hh=>hh⟩
    have hwa:=iha (n:=n) (ds:=(0,[],false)) hCr hMi (fun h=>by cases h) az.1.2 [] #[] (Y8 _) _ (a:={ tmps:=(rec0.params.zip vs).foldl (fun tmps (x:Nat×Value)=>tmps.setIfInBounds x.1 x.2) rec0.tmps,defers:=[] }) ip (by rw [qh];exact vq) (Later.refl _ _ _) (by rw [qh];exact ib.trans hN) (Marks.nil _ _ (T6 _)) (fun i hi=>by cases hi) hWA;refine wpIn_mono hwa fun x1 a1 w1 hp=>?_
    obtain ⟨pe,f1,e1,σ1,hq,hx,k1,k2,k3,k4,k5,k6⟩:=hp
    cases pe with
    | normal =>
     obtain rfl:x1=.normal:=hx;obtain ⟨cj,hWB⟩:=hq;obtain ⟨nj,jl⟩:=ZfF (st':=.busy) (pd':=none) k1 cj;have sj:e1.β σ.bx.length=w.heap.size+1:=(k3.beta _ jj).trans hβ';have sk:w1.heap[w.heap.size+1]?=some (.loop rec0):=by have:=k1.box _ _ cj;rw [sj] at this;exact this
     refine ⟨_,run_beginRound sk rfl,?_⟩;rw [sj] at nj jl;have hwb:=ihb (n:=n) (ds:=(0,[],false)) (hCr.later (k3.trans nj.toLater)) hMi (fun h=>by cases h) az.2 [] #[] (Y8 _) _ jl (k2.step nj) (Later.refl _ _ _) k4 (k5.later nj.toLater) (fun i hi=>by cases hi) hWB;refine wpIn_mono hwb fun x2 a2 w2 uf=>?_
     obtain ⟨pe2,f2,e2,σ2,n7,ce,m1,m2,m3,m4,m5,m6⟩:=uf;have gl:σ.bx.length<(σ1.set σ.bx.length (.loop .busy none rec0)).bx.length:=by simp only [St.set,Sv];exact (Th.1 cj).1
     have vo:e2.β σ.bx.length=w.heap.size+1:=(m3.beta _ gl).trans sj;have lh:Later e' σ' w' e2 σ2 w2:=(k3.trans nj.toLater).trans m3;have fin:∀(jump:Option Code),ZxT σ.bx.length rec0 (if jump.isNone then .ready else .done) jump jump.isNone σ2 K->∃v w'',(Instr.endRound (w.heap.size+1) jump).run G.P w2=.ok v w''/\Y2 G e' σ' w' K (.returned v) w'':=fun jump hq=>by
      obtain ⟨vt,hK⟩:=hq;have sm:w2.heap[w.heap.size+1]?=some (.loop { rec0 with state:=.busy,pending:=none }):=by have:=m1.box _ _ vt;rw [vo] at this;exact this
      have sn:=ZfF (st':=if jump.isNone then .ready else .done) (pd':=jump) m1 vt;rw [vo] at sn;exact ⟨_,_,run_endRound jump sm,_,_,e2,hK,⟨_,rfl,.mkbool⟩,sn.2,lh.trans sn.1.toLater⟩
     cases pe2 with
     | normal=>obtain rfl:x2=.normal:=ce;exact fin none n7
     | ret=>obtain rfl:x2=.ret:=ce;exact fin (some .ret) n7
     | exit id=>obtain rfl:x2=.exit id:=ce;exact fin (some (.exit id)) n7
     | goto t=>obtain rfl:x2=.goto t:=ce;exact fin (some (.goto t)) n7
     | panic p=>exact n7.elim
    | exit id=>exact hq.elim
    | goto t=>exact hq.elim
    | ret=>exact hq.elim
    | panic p=>exact hq.elim
   
   obtain ⟨pe,σ3,e3,hk,hE,gq,ue⟩:=hA;have hLs:=qf.trans ue;have vu:Marks ds e3 σ3 w3 (JP w.heap.size::a.defers):=(aan.later o8.toLater).later ue;have hβ3:e3.β σ.bx.length=w.heap.size+1:=(ue.beta _ qg).trans uc
   cases pe with
   | panic p =>
    obtain ⟨u,rfl,hr⟩:=hE;exact ⟨.panic p,_,e3,σ3,hk,⟨u,rfl,hr⟩,gq,fun i=>.undef _,hL.trans hLs,hN,vu,hZ⟩
   | ret p =>
   obtain ⟨u,rfl,hr⟩:=hE;unfold Zj0 at hk
   simp only at hk;split at hk
   ·rename_i st pd r fq
    have ni:w3.heap[w.heap.size+1]?=some (.loop { r with state:=st,pending:=pd }):=by have:=gq.box _ _ fq;rw [hβ3] at this;exact this
    have lz:=ZfF (st':=.exhausted) (pd':=pd) gq fq;rw [hβ3] at lz;obtain ⟨lz,hS4⟩:=lz;have fg:∀(pe:PExit) (x:Exit),Q pe (VR f) (σ3.set σ.bx.length (.loop .exhausted pd r))->ZxV G e3 (σ3.set σ.bx.length (.loop .exhausted pd r)) (w3.putObj (w.heap.size+1) (.loop { r with state:=.exhausted,pending:=pd })) pe x ->
      ZD G e0 σ0 w0 ds N (Kept ks t0) Q x { a with defers:=[JP w.heap.size]++a.defers } (w3.putObj (w.heap.size+1) (.loop { r with state:=.exhausted,pending:=pd })):=fun pe x hq hx =>
     ⟨pe,_,e3,_,hq,hx,hS4,hF.clean (hLs.trans lz.toLater),hL.trans (hLs.trans lz.toLater),hN,vu.later lz.toLater,hZ⟩
    have eb:∀(hb:st≠.busy),(Instr.endLoop (w.heap.size+1)).run G.P w3=.ok pd (w3.putObj (w.heap.size+1) (.loop { r with state:=.exhausted,pending:=pd })):=fun hb=>run_endLoop ni hb
    have go:st≠.busy->Znf σ.bx.length r (VR f) Q σ3 pd->rangePost (fw none) n G.P (w.heap.size+1) (ZD G e0 σ0 w0 ds N (Kept ks t0) Q) { a with defers:=[JP w.heap.size]++a.defers } (.returned u) w3:=fun hb hq=>by
     refine ⟨pd,_,eb hb,?_⟩;unfold Znf at hq
     split at hq
     ·exact fg .normal .normal hq rfl
     ·exact wpIn_ret (fg .ret .ret hq rfl)
     ·rename_i id;exact wpIn_exit (fg (.exit id) (.exit id) hq rfl)
     ·rename_i t;exact wpIn_goto (fg (.goto t) (.goto t) hq rfl)
     exact hq.elim
    cases st with
    | busy=>exact hk.elim
    | ready=>exact go sM hk
    | done=>exact go sM hk
    | exhausted=>exact go sM hk
   exact hk.elim
  exact h.elim
 | _=>intro C ro e0 σ0 w0 N ds n hC hM eg _ ks t0 _ Q e σ w a f hS hF hL hN bl hZ h;exact h.elim
end
end Go.PM
end
