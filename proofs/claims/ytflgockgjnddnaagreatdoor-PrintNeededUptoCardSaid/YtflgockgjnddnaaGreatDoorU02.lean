/- A part of the proof: plain logic, contracts and laws over the given program. -/
import Derived.Test.YtflgockgjnddnaaGreatDoorU01
set_option linter.unusedVariables false
set_option linter.unusedSimpArgs false
set_option linter.all false
section
namespace Go.PM
def edgesIn (n i:Nat):List Edge→Bool
 | []=>true
 | e::l=>(match Region.binds .any e with | true=>Nat.ble (e.on+1) n && !(Nat.beq e.on i) | false=>true) && edgesIn n i l
def edgesOff (j:Nat):List Edge→Bool
 | []=>true
 | e::l=>(match Region.binds .any e with | true=>!(Nat.beq e.on j) | false=>true) && edgesOff j l
def headOK (all:List Oper) (ms:List Nat) (i:Nat) (o:Oper):List (Nat×Oper)→Bool
 | []=>true
 | (j,p)::l=>!(Nat.beq i j) && edgesOff j o.after.toList && (anc ms i j || (!(isEff o.op) && apartB all o p)) && headOK all ms i o l
def pairOK (all:List Oper) (ms:List Nat) (n:Nat):List (Nat×Oper)→Bool
 | []=>true
 | (i,o)::l=>headOK all ms i o l && edgesIn n i o.after.toList && pairOK all ms n l
def covers (cs:List (Nat×Oper)):Nat→Bool
 | 0=>true
 | n+1=>cs.any (fun p=>Nat.beq p.1 n) && covers cs n
def masksOK (ms:List Nat):List (Nat×Oper)→Bool
 | []=>true
 | (i,o)::l=>Nat.beq (ms.getD i 0) (maskOf ms o.after.toList 0) && masksOK ms l
def drawOK (ops:List Oper):Bool :=
 let ms:=masks ops []
 let cs:=canon ops
 Nat.beq cs.length ops.length && pairOK ops ms ops.length cs && covers cs ops.length && masksOK ms cs
theorem edgesIn_spec {n i:Nat}:∀{l:List Edge},edgesIn n i l=true→∀e∈l,Region.binds .any e=true→e.on<n∧e.on≠i
 | [],_,e,he,_=>by cases he
 | x::l,h,e,he,hb=>by
  simp only [edgesIn,Bool.and_eq_true] at h
  rcases List.mem_cons.1 he with rfl | he
  ·have h1:=h.1
   rw [hb] at h1
   simp only [Bool.and_eq_true,Nat.ble_eq,Bool.not_eq_true'] at h1
   exact ⟨h1.1,fun e=>by rw [e] at h1;simp at h1⟩
  ·exact edgesIn_spec h.2 e he hb
theorem edgesOff_spec {j:Nat}:∀{l:List Edge},edgesOff j l=true→∀e∈l,Region.binds .any e=true→e.on≠j
 | [],_,e,he,_=>by cases he
 | x::l,h,e,he,hb=>by
  simp only [edgesOff,Bool.and_eq_true] at h
  rcases List.mem_cons.1 he with rfl | he
  ·have h1:=h.1
   rw [hb] at h1
   simp only [Bool.not_eq_true'] at h1
   exact fun e=>by rw [e] at h1;simp at h1
  ·exact edgesOff_spec h.2 e he hb
def Ahead (all:List Oper) (ms:List Nat) (x y:Nat×Oper):Prop :=
 x.1≠y.1∧(∀e∈x.2.after.toList,Region.binds .any e=true→e.on≠y.1)∧(anc ms x.1 y.1=true∨(isEff x.2.op=false∧apartB all x.2 y.2=true))
theorem headOK_spec {all:List Oper} {ms:List Nat} {i:Nat} {o:Oper}:∀{l:List (Nat×Oper)},headOK all ms i o l=true→∀p∈l,Ahead all ms (i,o) p
 | [],_,p,hp=>by cases hp
 | (j,x)::l,h,p,hp=>by
  simp only [headOK,Bool.and_eq_true,Bool.or_eq_true,Bool.not_eq_true'] at h
  rcases List.mem_cons.1 hp with rfl | hp
  ·exact ⟨fun (e:i=j)=>by have:=h.1.1.1;rw [e] at this;simp at this,edgesOff_spec h.1.1.2,h.1.2⟩
  ·exact headOK_spec h.2 p hp
theorem pairOK_spec {all:List Oper} {ms:List Nat} {n:Nat}:∀{l:List (Nat×Oper)},pairOK all ms n l=true→l.Pairwise (Ahead all ms)∧∀p∈l,∀e∈p.2.after.toList,Region.binds .any e=true→e.on<n∧e.on≠p.1
 | [],_=>⟨List.Pairwise.nil,fun p hp=>by cases hp⟩
 | (i,o)::l,h=>by
  simp only [pairOK,Bool.and_eq_true] at h
  obtain ⟨h1,h2⟩:=pairOK_spec h.2
  refine ⟨List.Pairwise.cons (headOK_spec h.1.1) h1,fun p hp=>?_⟩
  rcases List.mem_cons.1 hp with rfl | hp
  ·exact edgesIn_spec h.1.2
  ·exact h2 p hp
theorem covers_spec {cs:List (Nat×Oper)}:∀{n:Nat},covers cs n=true→∀k,k<n→∃p∈cs,p.1=k
 | 0,_,k,hk=>by omega
 | n+1,h,k,hk=>by
  simp only [covers,Bool.and_eq_true,List.any_eq_true] at h
  by_cases hkn:k=n
  ·obtain ⟨p,hp,hb⟩:=h.1;exact ⟨p,hp,by rw [hkn];exact Nat.eq_of_beq_eq_true hb⟩
  ·exact covers_spec h.2 k (by omega)
theorem masksOK_spec {ms:List Nat}:∀{l:List (Nat×Oper)},masksOK ms l=true→∀p∈l,ms.getD p.1 0=maskOf ms p.2.after.toList 0
 | [],_,p,hp=>by cases hp
 | (i,o)::l,h,p,hp=>by
  simp only [masksOK,Bool.and_eq_true] at h
  rcases List.mem_cons.1 hp with rfl | hp
  ·exact Nat.eq_of_beq_eq_true h.1
  ·exact masksOK_spec h.2 p hp
theorem maskOf_bit {ms:List Nat} {x:Nat}:∀{l:List Edge} {s:Nat},(maskOf ms l s).testBit x=true→s.testBit x=true∨∃e∈l,Region.binds .any e=true∧(e.on=x∨anc ms x e.on=true)
 | [],s,h=>.inl h
 | e::l,s,h=>by
  unfold maskOf at h
  cases hb:Region.binds .any e with
  | true =>
   rw [hb] at h
   rcases maskOf_bit h with h1 | ⟨e',he',h1⟩
   ·rw [Nat.testBit_or,Nat.testBit_or,Bool.or_eq_true,Bool.or_eq_true] at h1
    rcases h1 with (h1 | h1) | h1
    ·exact .inl h1
    ·rw [Nat.testBit_two_pow] at h1
     exact .inr ⟨e,by simp,hb,.inl (by simpa using h1)⟩
    ·exact .inr ⟨e,by simp,hb,.inr h1⟩
   ·exact .inr ⟨e',List.mem_cons_of_mem _ he',h1⟩
  | false =>
   rw [hb] at h
   rcases maskOf_bit h with h1 | ⟨e',he',h1⟩
   ·exact .inl h1
   ·exact .inr ⟨e',List.mem_cons_of_mem _ he',h1⟩
theorem pickQ_mem {left:List (Nat×Oper)}:∀{l:List (Nat×Oper)} {p:Nat×Oper},pickQ left l=some p→p∈l
 | [],p,h=>by cases h
 | (i,o)::l,p,h=>by
  unfold pickQ at h
  split at h
  ·cases h;simp
  ·exact List.mem_cons_of_mem _ (pickQ_mem h)
theorem dropI_mem {i:Nat}:∀{l:List (Nat×Oper)} {p:Nat×Oper},p∈dropI i l→p∈l
 | [],p,h=>by cases h
 | (j,o)::l,p,h=>by
  unfold dropI at h
  split at h
  ·exact List.mem_cons_of_mem _ h
  ·rcases List.mem_cons.1 h with rfl | h
   ·simp
   ·exact List.mem_cons_of_mem _ (dropI_mem h)
theorem canonF_mem:∀{n:Nat} {l:List (Nat×Oper)} {p:Nat×Oper},p∈canonF n l→p∈l
 | 0,l,p,h=>h
 | n+1,[],p,h=>by cases h
 | n+1,x::l,p,h=>by
  unfold canonF at h
  split at h
  ·rename_i i o hp
   rcases List.mem_cons.1 h with rfl | h
   ·exact pickQ_mem hp
   ·exact dropI_mem (canonF_mem h)
  ·rcases List.mem_cons.1 h with rfl | h
   ·simp
   ·exact List.mem_cons_of_mem _ (canonF_mem h)
theorem numbered_mem:∀{l:List Oper} {i:Nat} {p:Nat×Oper},p∈numbered i l→i≤p.1∧l[p.1 - i]?=some p.2
 | [],i,p,h=>by cases h
 | o::l,i,p,h=>by
  unfold numbered at h
  rcases List.mem_cons.1 h with rfl | h
  ·simp
  ·obtain ⟨h1,h2⟩:=numbered_mem h
   refine ⟨by omega,?_⟩
   rw [show p.1 - i=(p.1 - (i+1))+1 by omega]
   simpa using h2
theorem canon_mem {ops:List Oper} {p:Nat×Oper} (h:p∈canon ops):ops[p.1]?=some p.2:=by
 have:=numbered_mem (canonF_mem h)
 simpa using this.2
section
variable {G:GE} {C:Cx} {e0 e:Env} {σ0 σ:St} {w0 w:World} {a:Act} {f:Frame} {Q:PQ} {ro:Option Nat} {n:Nat} {ds:Nat×List Deferred×Bool} {N:Nat} {Z:Array Value→Prop}
theorem any_sound (hC:CxOK G C ro e0 σ0 w0) (hM:CxMono C) {ops:Array Oper} (hd:∀o,o∈ops→∀d,o.dst=some d→d<N∧∀t v,Z t→Z (t.setIfInBounds d v)) {ms:List Nat} (hms:∀i o,ops[i]?=some o→ms.getD i 0=maskOf ms o.after.toList 0) :
  ∀(k:Nat) (l:List (Nat×Oper)),l.length=k→(∀p∈l,ops[p.1]?=some p.2)→l.Pairwise (Ahead ops.toList ms)→(∀p∈l,∀e∈p.2.after.toList,Region.binds .any e=true→e.on<ops.size∧e.on≠p.1) →
  ∀{listed:Array Bool},listed.size=ops.size→(∀k,k<ops.size→(listed.getD k false=true↔∀p∈l,p.1≠k))→(∀j,(∀p∈l,p.1≠j)→∀p∈l,anc ms p.1 j=false) →
  ∀{ctx:List Ld} {e:Env} {σ:St} {w:World} {a:Act} {f:Frame},SRel G e σ w→FRel G e σ w f a.tmps→Later e0 σ0 w0 e σ w→a.tmps.size=N→Marks ds e σ w a.defers→Z a.tmps→popsI C ops.toList ms Q l ctx f σ →
  wpAnyIn (fw ro) n G.P .any ops (PostOf G e0 σ0 w0 ds N Z Q) k listed a w
 | 0,l,hl,hget,hp,hed,listed,hsz,hli,hdown,ctx,e,σ,w,a,f,hS,hF,hL,hN,hds,hZ,h=>by
  have hl0:l=[]:=List.length_eq_zero_iff.1 hl
  subst hl0
  refine ⟨?_,⟨.normal,f,e,σ,h,rfl,hS,hF,hL,hN,hds,hZ⟩⟩
  rw [List.eq_nil_iff_forall_not_mem]
  intro i hi
  obtain ⟨h1,o,ho,_⟩:=mem_ready.1 hi
  have hlt:=(Array.getElem?_eq_some_iff.1 ho).1
  have:=(hli i hlt).2 (fun p hp=>by cases hp)
  have hlt':i<listed.size:=by rw [hsz];exact hlt
  simp [Array.getD,hlt'] at this h1
  rw [this] at h1;cases h1
 | k+1,l,hl,hget,hp,hed,listed,hsz,hli,hdown,ctx,e,σ,w,a,f,hS,hF,hL,hN,hds,hZ,h=>by
  have hgd:∀i b,i<ops.size→listed.getD i b=listed.getD i false:=fun i b hi=>by
   have hlt':i<listed.size:=by rw [hsz];exact hi
   simp [Array.getD,hlt']
  refine ⟨fun hr=>?_,fun i hi=>?_⟩
  ·cases l with
   | nil=>simp at hl
   | cons x l =>
    exfalso
    have hx:=hget x (by simp)
    have hlt:=(Array.getElem?_eq_some_iff.1 hx).1
    have:x.1∈Region.ready .any ops listed:=by
     refine mem_ready.2 ⟨?_,x.2,hx,fun ed hed' hb=>?_⟩
     ·rw [hgd _ _ hlt]
      cases hv:listed.getD x.1 false with
      | false=>rfl
      | true=>exact absurd rfl ((hli x.1 hlt).1 hv x (by simp))
     ·have h1:=hed x (by simp) ed (Array.mem_def.1 hed') hb
      refine (hli ed.on h1.1).2 fun p hp'=>?_
      rcases List.mem_cons.1 hp' with rfl | hp'
      ·exact fun e=>h1.2 e.symm
      ·exact fun e=>(List.rel_of_pairwise_cons hp hp').2.1 ed (Array.mem_def.1 hed') hb e.symm
    rw [hr] at this;cases this
  ·obtain ⟨h1,o,ho,hall⟩:=mem_ready.1 hi
   have hlt:=(Array.getElem?_eq_some_iff.1 ho).1
   rw [hgd _ _ hlt] at h1
   have hmem:∃p∈l,p.1=i:=by
    apply Classical.byContradiction
    intro hno
    have:=(hli i hlt).2 (fun p hp e=>hno ⟨p,hp,e⟩)
    rw [h1] at this;cases this
   obtain ⟨p,hpl,rfl⟩:=hmem
   have hpo:p.2=o:=by have:=hget p hpl;rw [ho] at this;exact (Option.some.inj this).symm
   obtain ⟨pre,post,rfl⟩:=List.append_of_mem hpl
   obtain ⟨i,o'⟩:=p
   dsimp only at hpo ho hlt h1 hi
   subst hpo
   have hpw:=List.pairwise_append.1 hp
   have hpost:=(List.pairwise_cons.1 hpw.2.1)
   have hnotanc:∀x∈pre++(i,o')::post,anc ms x.1 i=false:=fun x hx=>by
    cases hax:anc ms x.1 i with
    | false=>rfl
    | true =>
     exfalso
     unfold anc at hax
     rw [hms i o' ho] at hax
     rcases maskOf_bit hax with h2 | ⟨ed,hed',hb,h2⟩
     ·simp at h2
     ·have hlst:=hall ed (Array.mem_def.2 hed') hb
      have hne:=(hli ed.on (hed _ hpl ed hed' hb).1).1 hlst
      rcases h2 with h2 | h2
      ·exact hne x hx h2.symm
      ·rw [hdown ed.on hne x hx] at h2;cases h2
   have hfront:=toFront hM pre (fun x hx=>by
    have hA:=hpw.2.2 x hx (i,o') (by simp)
    have hna:=hnotanc x (by simp [hx])
    rcases hA.2.2 with h2 | h2
    ·rw [hna] at h2;cases h2
    ·exact ⟨h2.1,h2.2,hna⟩) ctx f σ h
   have hstep:=pstep_sound (ro:=ro) (n:=n) hC hS hF hL hN hds hZ (ops:=ops) (hd o' (Array.mem_of_getElem? ho)) hfront
   have hne':∀x∈pre++post,x.1≠i:=fun x hx=>by
    rcases List.mem_append.1 hx with hx | hx
    ·exact (hpw.2.2 x hx (i,o') (by simp)).1
    ·exact fun e=>(hpost.1 x hx).1 e.symm
   have hsub:∀x,x∈pre++post→x∈pre++(i,o')::post:=fun x hx=>by
    rcases List.mem_append.1 hx with hx | hx <;> simp [hx]
   have next:∀a' w',KRel G e0 σ0 w0 ds N Z (fun f' σ'=>∃c,popsI C ops.toList ms Q (pre++post) c f' σ') a' w'→wpAnyIn (fw ro) n G.P .any ops (PostOf G e0 σ0 w0 ds N Z Q) k (listed.setIfInBounds i true) a' w':=fun a' w' ⟨f',e',σ',⟨c,hk1⟩,h2,h3,h4,h5,h6,h7⟩=>by
    refine any_sound hC hM hd hms k (pre++post) (by simp at hl ⊢;omega) (fun x hx=>hget x (hsub x hx)) (List.pairwise_append.2 ⟨hpw.1,hpost.2,fun x hx y hy=>hpw.2.2 x hx y (List.mem_cons_of_mem _ hy)⟩)
     (fun x hx=>hed x (hsub x hx)) (by simpa using hsz) (fun k hk=>?_) (fun j hj x hx=>?_) h2 h3 h4 h5 h6 h7 hk1
    ·by_cases hki:k=i
     ·subst hki
      have hlt':k<listed.size:=by rw [hsz];exact hlt
      have:(listed.setIfInBounds k true).getD k false=true:=by simp [Array.getD,hlt']
      simp only [this,true_iff]
      exact hne'
     ·have:(listed.setIfInBounds i true).getD k false=listed.getD k false:=getD_set_ne false (Ne.symm hki)
      rw [this,hli k hk]
      constructor
      ·exact fun hh x hx=>hh x (hsub x hx)
      ·intro hh x hx
       rcases List.mem_append.1 hx with hx | hx
       ·exact hh x (by simp [hx])
       ·rcases List.mem_cons.1 hx with rfl | hx
        ·exact fun e=>hki e.symm
        ·exact hh x (by simp [hx])
    ·by_cases hji:j=i
     ·subst hji;exact hnotanc x (hsub x hx)
     ·refine hdown j (fun y hy=>?_) x (hsub x hx)
      rcases List.mem_append.1 hy with hy | hy
      ·exact hj y (by simp [hy])
      ·rcases List.mem_cons.1 hy with rfl | hy
       ·exact fun e=>hji e.symm
       ·exact hj y (by simp [hy])
   have hK:∀a' w',KRel G e0 σ0 w0 ds N Z (fun f' σ'=>match isEff o'.op with | true=>chkL ms i σ.bx σ'.bx ctx (popsI C ops.toList ms Q (pre++post) ctx f' σ') | false=>popsI C ops.toList ms Q (pre++post) (addLd C.T o' i f ctx) f' σ') a' w' →
     KRel G e0 σ0 w0 ds N Z (fun f' σ'=>∃c,popsI C ops.toList ms Q (pre++post) c f' σ') a' w':=fun a' w' ⟨f',e',σ',hk,hrest⟩=>by
    refine ⟨f',e',σ',?_,hrest⟩
    cases hE:isEff o'.op with
    | true=>rw [hE] at hk;exact ⟨_,(chkL_iff.1 hk).2⟩
    | false=>rw [hE] at hk;exact ⟨_,hk⟩
   unfold wpOpIn
   rw [ho]
   dsimp only
   split at hstep
   ·rename_i hw
    rw [if_pos hw]
    exact Oper.wpIn_mono (fun a w h=>next a w (hK a w h)) hstep
   ·rename_i hw
    rw [if_neg hw]
    exact ⟨fun _ _=>trivial,next _ _ (hK _ _ hstep)⟩
theorem draw_sound (hC:CxOK G C ro e0 σ0 w0) (hM:CxMono C) {ops:Array Oper} (hd:∀o,o∈ops→∀d,o.dst=some d→d<N∧∀t v,Z t→Z (t.setIfInBounds d v)) (hok:drawOK ops.toList=true)
  (hS:SRel G e σ w) (hF:FRel G e σ w f a.tmps) (hL:Later e0 σ0 w0 e σ w) (hN:a.tmps.size=N) (hds:Marks ds e σ w a.defers) (hZ:Z a.tmps) (h:popsI C ops.toList (masks ops.toList []) Q (canon ops.toList) [] f σ) :
  wpAnyIn (fw ro) n G.P .any ops (PostOf G e0 σ0 w0 ds N Z Q) ops.size (Array.replicate ops.size false) a w:=by
 simp only [drawOK,Bool.and_eq_true] at hok
 obtain ⟨⟨⟨h1,h2⟩,h3⟩,h4⟩:=hok
 have hlen:(canon ops.toList).length=ops.size:=by simpa using Nat.eq_of_beq_eq_true h1
 have hcov:∀k,k<ops.size→∃p∈canon ops.toList,p.1=k:=fun k hk=>covers_spec h3 k (by simpa using hk)
 have hget:∀p∈canon ops.toList,ops[p.1]?=some p.2:=fun p hp=>by have:=canon_mem hp;simpa using this
 refine any_sound hC hM hd (ms:=masks ops.toList []) (fun i o ho=>?_) _ (canon ops.toList) hlen hget (pairOK_spec h2).1 (fun p hp e he hb=>by have:=(pairOK_spec h2).2 p hp e he hb;simpa using this) (by simp) (fun k hk=>?_) (fun j hj p hp=>?_) hS hF hL hN hds hZ h
 ·obtain ⟨p,hp,rfl⟩:=hcov i (Array.getElem?_eq_some_iff.1 ho).1
  have:=hget p hp
  rw [ho] at this
  cases this
  exact masksOK_spec h4 p hp
 ·have:(Array.replicate ops.size false).getD k false=false:=by simp [Array.getD]
  rw [this]
  simp only [Bool.false_eq_true,false_iff]
  obtain ⟨p,hp,he⟩:=hcov k hk
  exact fun hh=>hh p hp he
 ·by_cases hj':j<ops.size
  ·obtain ⟨q,hq,he⟩:=hcov j hj'
   exact absurd he (hj q hq)
  ·unfold anc
   have:(masks ops.toList []).length=ops.size:=by
    have:∀(l:List Oper) (acc:List Nat),(masks l acc).length=acc.length+l.length:=by
     intro l
     induction l with
     | nil=>intro acc;rfl
     | cons o l ih=>intro acc;rw [masks,ih];simp;omega
    rw [this];simp
   rw [List.getD_eq_getElem?_getD,List.getElem?_eq_none (by omega)]
   simp
end
end Go.PM
end

section
namespace Go.PM
section
variable {G:GE} {e e':Env} {σ σ':St} {w w':World}
inductive NV (n:Nat) (as:List (Option Nat)):PV→PV→Prop
 | sl (t e:Nat) (rows:List (List D)) (j:Nat) (h:as[j]?=some (some t)):NV n as (.sl t e rows) (.sl j e rows)
 | nils (e j:Nat) (h:as[j]?=some none):NV n as (.nils e) (.sl j e [])
 | cl (v:PV) (h:bnd n v=true):NV n as v (clean v)
 | un (v:PV):NV n as v .undef
 | clN (v:PV) (h:bnd n v=true):NV n as v (cleanN v)
structure NInv (S tk:List Nat) (as:List (Option Nat)):Prop where
 sub:∀t,t∈tk→t∈S
 mem:∀(i t:Nat),as[i]?=some (some t)→t∈S∧t∉tk
 inj:∀(i j t:Nat),as[i]?=some (some t)→as[j]?=some (some t)→i=j
theorem NV.ext {n:Nat} {as as':List (Option Nat)} {x y:PV} (h:NV n as x y) (hx:∃m,as'=as++m):NV n as' x y:=by
 obtain ⟨m,rfl⟩:=hx
 have:∀(j:Nat) (q:Option Nat),as[j]?=some q→(as++m)[j]?=some q:=fun j q hq=>by
  rw [List.getElem?_append_left (List.getElem?_eq_some_iff.1 hq).1];exact hq
 cases h with
 | sl t e rows j h=>exact .sl t e rows j (this _ _ h)
 | nils e j h=>exact .nils e j (this _ _ h)
 | cl _ h=>exact .cl _ h
 | un _=>exact .un _
 | clN _ h=>exact .clN _ h
theorem ndel_mem' {t x:Nat}:∀{l:List Nat},x∈ndel t l→x∈l∧x≠t
 | [],h=>by simp [ndel] at h
 | y::l,h=>by
  simp only [ndel] at h
  split at h
  ·exact ⟨List.mem_cons_of_mem _ (ndel_mem' h).1,(ndel_mem' h).2⟩
  ·rename_i hb
   rcases List.mem_cons.1 h with rfl | h
   ·exact ⟨by simp,fun e=>by subst e;simp at hb⟩
   ·exact ⟨List.mem_cons_of_mem _ (ndel_mem' h).1,(ndel_mem' h).2⟩
theorem ext_trans {as as' as'':List (Option Nat)} (h:∃m,as'=as++m) (h':∃m,as''=as'++m):∃m,as''=as++m:=by
 obtain ⟨m,rfl⟩:=h;obtain ⟨m',rfl⟩:=h';exact ⟨m++m',by rw [List.append_assoc]⟩
theorem NInv.add {S tk:List Nat} {as:List (Option Nat)} (h:NInv S tk as) {t:Nat} (ht:t∈tk):NInv S (ndel t tk) (as++[some t]):=by
 have key:∀(i s:Nat),(as++[some t])[i]?=some (some s)→(as[i]?=some (some s))∨(i=as.length∧s=t):=fun i s hi=>by
  by_cases hlt:i<as.length
  ·rw [List.getElem?_append_left hlt] at hi;exact .inl hi
  ·rw [List.getElem?_append_right (by omega)] at hi
   have:=(List.getElem?_eq_some_iff.1 hi).1
   simp only [List.length_singleton] at this
   have h0:i - as.length=0:=by omega
   rw [h0] at hi
   simp at hi
   exact .inr ⟨by omega,hi.symm⟩
 refine ⟨fun x hx=>h.sub x (ndel_mem' hx).1,fun i s hi=>?_,fun i j s hi hj=>?_⟩
 ·rcases key i s hi with h1 | ⟨_,rfl⟩
  ·exact ⟨(h.mem i s h1).1,fun hm=>(h.mem i s h1).2 (ndel_mem' hm).1⟩
  ·exact ⟨h.sub _ ht,fun hm=>(ndel_mem' hm).2 rfl⟩
 ·rcases key i s hi with h1 | ⟨h1,rfl⟩ <;> rcases key j s hj with h2 | ⟨h2,h3⟩
  ·exact h.inj i j s h1 h2
  ·subst h3;exact absurd ht (h.mem i _ h1).2
  ·exact absurd ht (h.mem j _ h2).2
  ·omega
theorem NInv.nil {S tk:List Nat} {as:List (Option Nat)} (h:NInv S tk as):NInv S tk (as++[none]):=by
 have key:∀(i s:Nat),(as++[none])[i]?=some (some s)→(as[i]?=some (some s)):=fun i s hi=>by
  by_cases hlt:i<as.length
  ·rw [List.getElem?_append_left hlt] at hi;exact hi
  ·rw [List.getElem?_append_right (by omega)] at hi
   have:=(List.getElem?_eq_some_iff.1 hi).1
   simp only [List.length_singleton] at this
   have h0:i - as.length=0:=by omega
   rw [h0] at hi
   simp at hi
 exact ⟨h.sub,fun i s hi=>h.mem i s (key i s hi),fun i j s hi hj=>h.inj i j s (key i s hi) (key j s hj)⟩
theorem nrm1_ex {n:Nat} {S tk:List Nat} {as:List (Option Nat)} (hI:NInv S tk as) {v:PV} {K:PV→List Nat→Nat→Prop} (h:nrm1 n tk as.length v K) :
  ∃v' tk' as',K v' tk' as'.length∧(∃m,as'=as++m)∧NInv S tk' as'∧NV n as' v v':=by
 have gen:∀v,(match bnd n v with | true=>force (clean v) fun v=>K v tk as.length | false=>K .undef tk as.length:Prop)→∃v' tk' as',K v' tk' as'.length∧(∃m,as'=as++m)∧NInv S tk' as'∧NV n as' v v':=fun v h=>by
  split at h
  ·rename_i hb;rw [force_eq] at h;exact ⟨_,tk,as,h,⟨[],by simp⟩,hI,.cl v hb⟩
  ·exact ⟨_,tk,as,h,⟨[],by simp⟩,hI,.un v⟩
 cases v with
 | sl t el rows =>
  simp only [nrm1] at h
  split at h
  ·rename_i ht
   exact ⟨_,_,as++[some t],by simpa using h,⟨[some t],rfl⟩,hI.add ((nmem_iff _ _).1 ht),.sl t el rows _ (by simp)⟩
  ·exact ⟨_,tk,as,h,⟨[],by simp⟩,hI,.cl (.sl t el rows) rfl⟩
 | nils el=>exact ⟨_,tk,as++[none],by simpa [nrm1] using h,⟨[none],rfl⟩,hI.nil,.nils el _ (by simp)⟩
 | _=>exact gen _ h
theorem nrmL_ex {n:Nat} {S:List Nat}:∀{vs:List PV} {tk:List Nat} {as:List (Option Nat)} (_:NInv S tk as) {K:List PV→List Nat→Nat→Prop},nrmL n vs tk as.length K →
  ∃vs' tk' as',K vs' tk' as'.length∧(∃m,as'=as++m)∧NInv S tk' as'∧vs'.length=vs.length∧∀(i:Nat) (x y:PV),vs[i]?=some x→vs'[i]?=some y→NV n as' x y
 | [],tk,as,hI,K,h=>⟨[],tk,as,h,⟨[],by simp⟩,hI,rfl,fun i x y hx=>by simp at hx⟩
 | v::vs,tk,as,hI,K,h=>by
  obtain ⟨v',tk1,as1,h1,hx1,hI1,hv⟩:=nrm1_ex hI h
  obtain ⟨vs',tk2,as2,h2,hx2,hI2,hl,hvs⟩:=nrmL_ex hI1 h1
  refine ⟨v'::vs',tk2,as2,h2,ext_trans hx1 hx2,hI2,by simp [hl],fun i x y hx hy=>?_⟩
  cases i with
  | zero=>simp at hx hy;subst hx;subst hy;exact hv.ext hx2
  | succ i=>exact hvs i x y (by simpa using hx) (by simpa using hy)
theorem nrm1N_ex {n:Nat} {S tk:List Nat} {as:List (Option Nat)} (hI:NInv S tk as) {v:PV} {K:PV→List Nat→Nat→Prop} (h:nrm1N n tk as.length v K) :
  ∃v' tk' as',K v' tk' as'.length∧(∃m,as'=as++m)∧NInv S tk' as'∧NV n as' v v':=by
 have gen:∀v,(match bnd n v with | true=>force (cleanN v) fun v=>K v tk as.length | false=>K .undef tk as.length:Prop)→∃v' tk' as',K v' tk' as'.length∧(∃m,as'=as++m)∧NInv S tk' as'∧NV n as' v v':=fun v h=>by
  split at h
  ·rename_i hb;rw [force_eq] at h;exact ⟨_,tk,as,h,⟨[],by simp⟩,hI,.clN v hb⟩
  ·exact ⟨_,tk,as,h,⟨[],by simp⟩,hI,.un v⟩
 cases v with
 | sl t el rows =>
  simp only [nrm1N] at h
  split at h
  ·rename_i ht
   exact ⟨_,_,as++[some t],by simpa using h,⟨[some t],rfl⟩,hI.add ((nmem_iff _ _).1 ht),.sl t el rows _ (by simp)⟩
  ·exact ⟨_,tk,as,h,⟨[],by simp⟩,hI,.cl (.sl t el rows) rfl⟩
 | nils el=>exact ⟨_,tk,as++[none],by simpa [nrm1N] using h,⟨[none],rfl⟩,hI.nil,.nils el _ (by simp)⟩
 | _=>exact gen _ h
theorem nrmLN_ex {n:Nat} {S:List Nat}:∀{vs:List PV} {tk:List Nat} {as:List (Option Nat)} (_:NInv S tk as) {K:List PV→List Nat→Nat→Prop},nrmLN n vs tk as.length K →
  ∃vs' tk' as',K vs' tk' as'.length∧(∃m,as'=as++m)∧NInv S tk' as'∧vs'.length=vs.length∧∀(i:Nat) (x y:PV),vs[i]?=some x→vs'[i]?=some y→NV n as' x y
 | [],tk,as,hI,K,h=>⟨[],tk,as,h,⟨[],by simp⟩,hI,rfl,fun i x y hx=>by simp at hx⟩
 | v::vs,tk,as,hI,K,h=>by
  obtain ⟨v',tk1,as1,h1,hx1,hI1,hv⟩:=nrm1N_ex hI h
  obtain ⟨vs',tk2,as2,h2,hx2,hI2,hl,hvs⟩:=nrmLN_ex hI1 h1
  refine ⟨v'::vs',tk2,as2,h2,ext_trans hx1 hx2,hI2,by simp [hl],fun i x y hx hy=>?_⟩
  cases i with
  | zero=>simp at hx hy;subst hx;subst hy;exact hv.ext hx2
  | succ i=>exact hvs i x y (by simpa using hx) (by simpa using hy)
inductive NB (n:Nat) (as:List (Option Nat)):Box→Box→Prop
 | cells (t:TypeId) (cs cs':List PV) (hl:cs'.length=cs.length) (h:∀(i:Nat) (x y:PV),cs[i]?=some x→cs'[i]?=some y→NV n as x y):NB n as (.cells t cs) (.cells t cs')
 | iter (s:List UInt8) (p:Nat):NB n as (.iter s p) (.iter s p)
 | loop (st:LoopState) (pd:Option Code) (r:Loop):NB n as (.loop st pd r) (.loop st pd r)
theorem NB.ext {n:Nat} {as as':List (Option Nat)} {x y:Box} (h:NB n as x y) (hx:∃m,as'=as++m):NB n as' x y:=by
 cases h with
 | cells t cs cs' hl h=>exact .cells t cs cs' hl fun i x y h1 h2=>(h i x y h1 h2).ext hx
 | iter s p=>exact .iter s p
 | loop st pd r=>exact .loop st pd r
theorem nrmB_ex {n:Nat} {S:List Nat}:∀{m:Nat} {bs:List Box} {tk:List Nat} {as:List (Option Nat)} (_:NInv S tk as) {K:List Box→List Nat→Nat→Prop},nrmB n m bs tk as.length K →
  ∃bs' tk' as',K bs' tk' as'.length∧(∃m,as'=as++m)∧NInv S tk' as'∧bs'.length=m∧m≤bs.length∧∀(i:Nat) (x y:Box),bs[i]?=some x→bs'[i]?=some y→NB n as' x y
 | 0,bs,tk,as,hI,K,h=>⟨[],tk,as,by simpa [nrmB] using h,⟨[],by simp⟩,hI,rfl,Nat.zero_le _,fun i x y _ hy=>by simp at hy⟩
 | m+1,[],tk,as,hI,K,h=>h.elim
 | m+1,.cells t cs::bs,tk,as,hI,K,h=>by
  obtain ⟨cs',tk1,as1,h1,hx1,hI1,hl1,hv⟩:=nrmL_ex hI h
  obtain ⟨bs',tk2,as2,h2,hx2,hI2,hl,hm,hvs⟩:=nrmB_ex hI1 h1
  refine ⟨.cells t cs'::bs',tk2,as2,h2,ext_trans hx1 hx2,hI2,by simp [hl],by simp;omega,fun i x y hx hy=>?_⟩
  cases i with
  | zero=>simp at hx hy;subst hx;subst hy;exact .cells t cs cs' hl1 fun i x y h1 h2=>(hv i x y h1 h2).ext hx2
  | succ i=>exact hvs i x y (by simpa using hx) (by simpa using hy)
 | m+1,.iter s p::bs,tk,as,hI,K,h=>by
  obtain ⟨bs',tk2,as2,h2,hx2,hI2,hl,hm,hvs⟩:=nrmB_ex hI (K:=fun l tk k=>K (.iter s p::l) tk k) h
  refine ⟨.iter s p::bs',tk2,as2,h2,hx2,hI2,by simp [hl],by simp;omega,fun i x y hx hy=>?_⟩
  cases i with
  | zero=>simp at hx hy;subst hx;subst hy;exact .iter s p
  | succ i=>exact hvs i x y (by simpa using hx) (by simpa using hy)
 | m+1,.loop st pd r::bs,tk,as,hI,K,h=>by
  obtain ⟨bs',tk2,as2,h2,hx2,hI2,hl,hm,hvs⟩:=nrmB_ex hI (K:=fun l tk k=>K (.loop st pd r::l) tk k) h
  refine ⟨.loop st pd r::bs',tk2,as2,h2,hx2,hI2,by simp [hl],by simp;omega,fun i x y hx hy=>?_⟩
  cases i with
  | zero=>simp at hx hy;subst hx;subst hy;exact .loop st pd r
  | succ i=>exact hvs i x y (by simpa using hx) (by simpa using hy)
structure Drop (n:Nat) (e:Env) (σ:St) (e':Env) (σ':St):Prop where
 le:n≤σ.bx.length
 len:σ'.bx.length=n
 beta:e'.β=e.β
 X:e'.X=e.X
 okc:∀b off,okc e σ b off→okc e' σ' b off
 tok:∀t,t∈σ'.tk→∀p,e'.M t=some p→∃t0,t0∈σ.tk∧e.M t0=some p
theorem Later.drop {e1:Env} {σ1:St} {w1:World} {n:Nat} (h:Later e1 σ1 w1 e σ w) (hd:Drop n e σ e' σ') (hn:σ1.bx.length≤n):Later e1 σ1 w1 e' σ' w where
 len:=by rw [hd.len];exact hn
 beta:=by rw [hd.beta];exact h.beta
 X:=by rw [hd.X];exact h.X
 pres:=fun b off u hu ho=>let ⟨h1,h2⟩:=h.pres b off u hu ho;⟨hd.okc b off h1,h2⟩
 blocks:=h.blocks
 size:=h.size
 os:=h.os
 tape:=h.tape
 output:=h.output
 fresh:=fun i h1 h2=>by rw [hd.len] at h2;rw [hd.beta];exact h.fresh i h1 (Nat.lt_of_lt_of_le h2 hd.le)
 ftok:=fun t ht p hp=>let ⟨t0,h0,h1⟩:=hd.tok t ht p hp;h.ftok t0 h0 p h1
theorem Marks.drop {lo:Nat×List Deferred×Bool} {n:Nat} {l:List Deferred} (h:Marks lo e σ w l) (hd:Drop n e σ e' σ'):Marks lo e' σ' w l:=by
 obtain ⟨h0,rs,h1,hfl,h2,h3⟩:=h
 refine ⟨h0,rs,h1,hfl,h2,fun r hr=>?_⟩
 obtain ⟨g1,g2,g3,g4⟩:=h3 r hr
 refine ⟨g1,g2,fun i hi=>?_,fun t ht p hp=>?_⟩
 ·rw [hd.beta];rw [hd.len] at hi;exact g3 i (Nat.lt_of_lt_of_le hi hd.le)
 ·obtain ⟨t0,h0,hp0⟩:=hd.tok t ht p hp;exact g4 t0 h0 p hp0
theorem mem_toks {t:Nat}:∀{k:Nat},t∈toks k↔t<k
 | 0=>by simp [toks]
 | k+1=>by simp only [toks,List.mem_cons,mem_toks];omega
def Env.re (e:Env) (as:List (Option Nat)):Env:={ e with M:=fun j=>(as[j]?.join).bind e.M }
theorem re_some {as:List (Option Nat)} {j:Nat} {p:Nat×Nat} (h:(e.re as).M j=some p):∃t,as[j]?=some (some t)∧e.M t=some p:=by
 simp only [Env.re] at h
 cases hj:as[j]? with
 | none=>rw [hj] at h;simp at h
 | some q =>
  cases q with
  | none=>rw [hj] at h;simp at h
  | some t=>rw [hj] at h;exact ⟨t,rfl,by simpa using h⟩
theorem re_drop {n:Nat} (hn:n≤σ.bx.length) {as:List (Option Nat)} {tk:List Nat} (hI:NInv σ.tk tk as) {bs:List Box} (hb:bs.length=n):Drop n e σ (e.re as) ⟨bs,toks as.length,as.length⟩ where
 le:=hn
 len:=hb
 beta:=rfl
 X:=rfl
 okc:=fun b off ho=>⟨ho.1,fun i hi=>ho.2.1 i (Nat.lt_of_lt_of_le hi (by rw [show (St.mk bs (toks as.length) as.length).bx.length=n from hb];exact hn)),fun t ht p hp hpb=>by
  obtain ⟨t0,h1,h2⟩:=re_some hp
  exact ho.2.2 t0 (hI.mem _ _ h1).1 p h2 hpb⟩
 tok:=fun t ht p hp=>by
  obtain ⟨t0,h1,h2⟩:=re_some hp
  exact ⟨t0,(hI.mem _ _ h1).1,h2⟩
theorem NV.rel {n:Nat} (hn:n≤σ.bx.length) {as:List (Option Nat)} {tk:List Nat} (hI:NInv σ.tk tk as) {bs:List Box} (hb:bs.length=n) {x y:PV} {v:Value} (h:NV n as x y) (hv:VRel G e σ w x v) :
  VRel G (e.re as) ⟨bs,toks as.length,as.length⟩ w y v:=by
 have hd:=re_drop (e:=e) hn hI hb
 have hlt:∀(j:Nat) (q:Option Nat),as[j]?=some q→j<as.length:=fun j q hq=>(List.getElem?_eq_some_iff.1 hq).1
 cases h with
 | sl t el rows j h =>
  cases hv with
  | sl _ _ _ _ hn2 hd2 ht =>
   refine .sl j el rows v (hlt _ _ h) (hd2.mono fun b off u hu ho=>⟨hd.okc b off ho,hu⟩) fun _=>?_
   have hM:(e.re as).M j=e.M t:=by simp [Env.re,h]
   rcases ht (hI.mem _ _ h).1 with ⟨h1,h2,h3⟩ | ⟨sz,h1,h2,h3,b,off,cap,cs,ty,fz,h4,h5,h6,h7,h8,h9,h10⟩
   ·exact .inl ⟨h1,h2,hM.trans h3⟩
   ·exact .inr ⟨sz,h1,h2,h3,b,off,cap,cs,ty,fz,h4,h5,h6,h7,h8,h9,hM.trans h10⟩
 | nils el j h =>
  cases hv with
  | nils =>
   refine .sl j el [] _ (hlt _ _ h) .slnil fun _=>.inl ⟨rfl,rfl,?_⟩
   simp [Env.re,h]
 | cl _ h=>exact VRel.clean (e:=e) (e':=e.re as) (σ:=σ) (σ':=⟨bs,toks as.length,as.length⟩) (w:=w) (w':=w) (n:=n) (by show n≤bs.length;omega) (fun _ _=>rfl) (fun b off u hu ho=>⟨hd.okc b off ho,hu⟩) hv h
 | un _=>exact .undef v
 | clN _ h=>exact VRel.cleanN (e:=e) (e':=e.re as) (σ:=σ) (σ':=⟨bs,toks as.length,as.length⟩) (w:=w) (w':=w) (n:=n) (by show n≤bs.length;omega) (fun _ _=>rfl) (fun b off u hu ho=>⟨hd.okc b off ho,hu⟩) hv h
theorem re_srel {n:Nat} (hS:SRel G e σ w) (hn:n≤σ.bx.length) {as:List (Option Nat)} {tk:List Nat} (hI:NInv σ.tk tk as) {bs:List Box} (hb:bs.length=n)
  (hbs:∀(i:Nat) (x y:Box),σ.bx[i]?=some x→bs[i]?=some y→NB n as x y):SRel G (e.re as) ⟨bs,toks as.length,as.length⟩ w where
 inj:=fun i j hi hj h=>hS.inj i j (by simp only at hi;omega) (by simp only at hj;omega) h
 box:=fun i y hy=>by
  have hi:=(List.getElem?_eq_some_iff.1 hy).1
  simp only at hi
  have hx:σ.bx[i]?=some σ.bx[i]:=List.getElem?_eq_getElem (by omega)
  have hB:=hS.box i _ hx
  have hN:=hbs i _ y hx hy
  generalize σ.bx[i]=x at hB hN
  cases hN with
  | cells t cs cs' hl h =>
   obtain ⟨vs,h1,h2,h3⟩:=hB
   refine ⟨vs,h1,by rw [hl];exact h2,fun k z u hz hu=>?_⟩
   have hk:=(List.getElem?_eq_some_iff.1 hz).1
   have hx:cs[k]?=some cs[k]:=List.getElem?_eq_getElem (by omega)
   exact ⟨(h k _ z hx hz).rel hn hI hb (h3 k _ u hx hu).1,(h3 k _ u hx hu).2⟩
  | iter s p=>exact hB
  | loop st pd r=>exact hB
 low:=fun i hi=>hS.low i (by simp only at hi;omega)
 tkn:=fun t ht=>mem_toks.1 ht
 own:=fun t ht p hp=>by
  obtain ⟨t0,h1,h2⟩:=re_some hp
  obtain ⟨h3,h4,h5⟩:=hS.own t0 (hI.mem _ _ h1).1 p h2
  exact ⟨h3,fun i hi=>h4 i (by simp only at hi;omega),h5⟩
 dis:=fun t t' ht ht' hne p p' hp hp'=>by
  obtain ⟨t0,h1,h2⟩:=re_some hp
  obtain ⟨t1,h3,h4⟩:=re_some hp'
  exact hS.dis t0 t1 (hI.mem _ _ h1).1 (hI.mem _ _ h3).1 (fun h=>hne (hI.inj _ _ _ h1 (by rw [h];exact h3))) p p' h2 h4
 xlt:=hS.xlt
 xown:=fun t ht p hp=>by
  obtain ⟨t0,h1,h2⟩:=re_some hp
  exact hS.xown t0 (hI.mem _ _ h1).1 p h2
 glob:=hS.glob
 big:=hS.big
theorem NInv.start (S:List Nat) (tk:List Nat) (h:∀t,t∈tk→t∈S):NInv S tk []:=⟨h,fun i t h=>by simp at h,fun i j t h=>by simp at h⟩
theorem nrmSt_ex (hS:SRel G e σ w) {n:Nat} {vs:List PV} {K:List PV→St→Prop} (h:nrmSt n vs σ K) :
  ∃vs' σ' e',K vs' σ'∧SRel G e' σ' w∧Drop n e σ e' σ'∧vs'.length=vs.length∧∀(i:Nat) (x y:PV) (u:Value),vs[i]?=some x→vs'[i]?=some y→VRel G e σ w x u→VRel G e' σ' w y u:=by
 obtain ⟨vs',tk1,as1,h1,hx1,hI1,hl,hv⟩:=nrmL_ex (as:=[]) (NInv.start σ.tk σ.tk fun _ h=>h) h
 obtain ⟨bs,tk2,as2,h2,hx2,hI2,hbl,hn,hbs⟩:=nrmB_ex hI1 h1
 exact ⟨vs',⟨bs,toks as2.length,as2.length⟩,e.re as2,h2,re_srel hS hn hI2 hbl hbs,re_drop hn hI2 hbl,hl,fun i x y u hx hy hr=>((hv i x y hx hy).ext hx2).rel hn hI2 hbl hr⟩
end
end Go.PM
end

section
namespace Go.PM
theorem Flat.front {ok:Nat→Nat→Prop} {w:World} {r1 r2:List (List D)} {sz:Nat} {xs:List Value} (h:Flat ok w (r1++r2) sz xs):Flat ok w r1 sz (xs.take (r1.length * sz)):=by
 have hl:=h.len
 rw [List.length_append,Nat.add_mul] at hl
 refine ⟨by rw [List.length_take];omega,fun r hr=>h.wid r (List.mem_append.2 (.inl hr)),fun a b y u hb hy hu=>?_⟩
 have ha:a<r1.length:=by
  apply Classical.byContradiction
  intro hn
  rw [List.getElem?_eq_none (by omega)] at hy;cases hy
 refine h.rel a b y u hb (by rw [List.getElem?_append_left ha];exact hy) ?_
 rw [List.getElem?_take] at hu
 split at hu
 ·exact hu
 ·cases hu
section
variable {G:GE} {T:Tab} {e:Env} {σ:St} {w:World}
theorem append_hole (hT:TabOK T G.P) (hS:SRel G e σ w) {t tx el ty:Nat} (hkt:(T.get t).kind=.slice el) (hkel:(T.get el).kind≠.other) (hpos:0<(T.get el).size)
  {rows:List (List D)} {z:List D} {v vx:Value} {px:PV} (hD:DRel (okc e σ) w (.sl rows) v) (tk0:List Nat) (hsub:∀x,x∈tk0→x∈σ.tk)
  (hO:(v=.slice none 0 0∧rows=[])∨∃tok,tok∈σ.tk∧tok∉tk0∧Owned G e w tok el rows v)
  (hm:moreRows T tx el px=some [z]) (hx:VRel G e σ w px vx) (hw:z.length=(T.get el).size)
  (hbytes:(rows.length+1) * (T.get el).bytes≤2 ^ 47) (hlen:rows.length+1≤2 ^ 47) :
  ∃w1 b off cap e1,(Builtin.append_ #[t,tx] ty #[v,vx]).run G.P w=.ok (.slice (some ⟨b,off,none⟩) (rows.length+1) cap) w1∧rows.length+1≤cap ∧
   Stepped e σ w e1 { σ with tk:=σ.nx::tk0,nx:=σ.nx+1 } w1∧SRel G e1 { σ with tk:=σ.nx::tk0,nx:=σ.nx+1 } w1 ∧
   VRel G e1 { σ with tk:=σ.nx::tk0,nx:=σ.nx+1 } w1 (.sl σ.nx el rows) (.slice (some ⟨b,off,none⟩) rows.length cap):=by
 obtain ⟨news,hsrc,hnews⟩:=src_of hT hm hx (fun r hr=>by simp at hr;rw [hr];exact hw) hpos rfl
 obtain ⟨hO3,hrw,htok⟩:=owned_facts hT hS hkel tk0 hO
 obtain ⟨v',w1,hrun,hos,htape,hout,hsize,hcell,hblk,hres⟩:=append_run (ty:=ty) (more:=[z]) hT hS hkt hkel hpos hD hrw hO3 hsrc hnews hbytes hlen
 rcases hres with ⟨_,h⟩ | ⟨b,off,cap,cs,tyb,fz,rfl,hb,hc,hh,hcs,hfz,hor,xs,hxs,hxc⟩
 ·simp at h
 ·obtain ⟨e1,h1,h2,h3⟩:=append_fin (more:=[]) (v':=.slice (some ⟨b,off,none⟩) rows.length cap) hT hS hkel hpos hD tk0 hsub hrw (fun r h=>by cases h) htok hos htape hout hsize hcell hblk
   (.inr ⟨b,off,cap,cs,tyb,fz,by simp,hb,by simp at hc ⊢;omega,hh,hcs,hfz,hor,xs.take (rows.length * (T.get el).size),by rw [List.append_nil];exact hxs.front,fun k u hk=>hxc k u (by
    rw [List.getElem?_take] at hk
    split at hk
    ·exact hk
    ·cases hk)⟩)
  rw [List.append_nil] at h3
  exact ⟨w1,b,off,cap,e1,by rw [hrun];simp,by simpa using hc,h1,h2,h3⟩
theorem fill_hole (hT:TabOK T G.P) (hS:SRel G e σ w) {el tok b off cap:Nat} (hkel:(T.get el).kind≠.other) (hpos:0<(T.get el).size)
  {rows:List (List D)} {row:List D} {us:List Value} (hV:VRel G e σ w (.sl tok el rows) (.slice (some ⟨b,off,none⟩) rows.length cap)) (htk:tok∈σ.tk) (hcap:rows.length+1≤cap)
  (hnews:Flat (okc e σ) w [row] (T.get el).size us) :
  (∀j,j<us.length→(w.cell? ⟨b,off+rows.length * (T.get el).size+j,none⟩).isSome=true)∧(∀j,j<us.length→w.frozen? ⟨b,off+rows.length * (T.get el).size+j,none⟩=false) ∧
  (∀i,i<σ.bx.length→e.β i≠b) ∧
  ∃e1,Stepped e σ w e1 { σ with tk:=σ.nx::ndel tok σ.tk,nx:=σ.nx+1 } (w.setCells b (off+rows.length * (T.get el).size) us)∧SRel G e1 { σ with tk:=σ.nx::ndel tok σ.tk,nx:=σ.nx+1 } (w.setCells b (off+rows.length * (T.get el).size) us) ∧
   VRel G e1 { σ with tk:=σ.nx::ndel tok σ.tk,nx:=σ.nx+1 } (w.setCells b (off+rows.length * (T.get el).size) us) (.sl σ.nx el (rows++[row])) (.slice (some ⟨b,off,none⟩) (rows.length+1) cap):=by
 cases hV with
 | sl _ _ _ _ hn hD hown =>
 have hsub:∀x,x∈ndel tok σ.tk→x∈σ.tk:=fun x hx=>((mem_ndel _ _ _).1 hx).1
 have hnt:tok∉ndel tok σ.tk:=fun h=>((mem_ndel _ _ _).1 h).2 rfl
 obtain ⟨hO3,hrw,htok⟩:=owned_facts hT hS hkel (ndel tok σ.tk) (.inr ⟨tok,htk,hnt,hown htk⟩)
 rcases hO3 with ⟨h,_⟩ | ⟨b',off',cap',cs,tyb,fz,he,hb,hc,hh,hcs,hfz,hnb⟩
 ·cases h
 ·cases he
  obtain ⟨olds,ho1,ho2,ho3,ho4⟩:=Flat.of_sl hrw hpos hD
  have hul:us.length=(T.get el).size:=by rw [hnews.len];simp
  have hcc:(rows.length+1) * (T.get el).size≤cap * (T.get el).size:=Nat.mul_le_mul_right _ hcap
  rw [Nat.add_mul] at hcc
  have hcell:∀k,k<cs.size→(w.cell? ⟨b,k,none⟩).isSome=true:=fun k hk=>by simp [World.cell?,hh,hk]
  obtain ⟨r1,r2,r3,r4⟩:=rest_setCells b us (off+rows.length * (T.get el).size) w
  obtain ⟨cs',q1,q2,q3⟩:=heap_setCells_at b us (off+rows.length * (T.get el).size) w cs tyb fz hh
  refine ⟨fun j hj=>hcell _ (by have:=hcs.1;omega),fun j hj=>?_,hnb,?_⟩
  ·simp only [World.frozen?,hh]
   have h1:=hfz.2 (off+rows.length * (T.get el).size+j) (by omega)
   by_cases h2:fz.1≤off+rows.length * (T.get el).size+j
   ·have:=h1 h2
    simp;intro _;omega
   ·simp;omega
  ·refine append_fin (v:=.slice (some ⟨b,off,none⟩) rows.length cap) hT hS hkel hpos hD (ndel tok σ.tk) hsub hrw (fun r h=>by simp at h;rw [h];exact hnews.wid _ (by simp)) htok r1 r2 r3 (by rw [size_setCells'];exact Nat.le_refl _)
    (fun b' o' u hu ho=>?_) (fun b' hb' hn=>r4 b' (hn b off cap rfl)) (.inr ⟨b,off,cap,cs',tyb,fz,by simp,hb,by simpa using hcap,q1,⟨by rw [q2];exact hcs.1,hcs.2.1,hcs.2.2.1,hcs.2.2.2⟩,hfz,.inl ⟨cap,rfl⟩,olds++us,ho1.append hnews,fun k u hk=>?_⟩)
   ·by_cases hbb:b'=b
    ·subst hbb
     by_cases hoo:off+rows.length * (T.get el).size≤o'
     ·exact .inr ⟨b',off,cap,rfl,rfl,hoo⟩
     ·left
      rw [World.cell?_setCells_out b' us _ w ⟨b',o',none⟩ (fun _ _=>.inl (by show o'<_;omega))]
      exact hu
    ·left;simpa [World.cell?,r4 b' hbb] using hu
   ·by_cases hk1:k<olds.length
    ·rw [List.getElem?_append_left hk1] at hk
     rw [World.cell?_setCells_out b us _ w ⟨b,off+k,none⟩ (fun _ _=>.inl (by show off+k<_;rw [← ho1.len];omega))]
     exact ho2 k u hk
    ·rw [List.getElem?_append_right (by omega)] at hk
     have hkn:=(List.getElem?_eq_some_iff.1 hk).1
     have:=World.cell?_setCells_in b us (off+rows.length * (T.get el).size) w (fun j hj=>hcell _ (by have:=hcs.1;omega)) (k - olds.length) hkn
     rw [show off+k=off+rows.length * (T.get el).size+(k - olds.length) by rw [← ho1.len];omega,this]
     rw [List.getElem?_eq_getElem hkn] at hk
     exact hk
end
structure Hole4 (ops:Array Oper) (m:Nat) (I S F H:Oper):Prop where
 size:ops.size=m+5
 oI:ops[m+1]?=some I
 oS:ops[m+2]?=some S
 oF:ops[m+3]?=some F
 oH:ops[m+4]?=some H
 gI:I.guard=none
 gS:S.guard=none
 gF:F.guard=none
 gH:H.guard=none
 nI:∀c,I.op≠.defer c
 nS:∀c,S.op≠.defer c
 nF:∀c,F.op≠.defer c
 nH:∀c,H.op≠.defer c
 eI:∀ed∈I.after,Region.binds .any ed=true→ed.on≤m
 eF:∀ed∈F.after,Region.binds .any ed=true→ed.on≤m
 eS:∀ed∈S.after,Region.binds .any ed=true→ed.on≤m+1
 eH:∀ed∈H.after,Region.binds .any ed=true→ed.on≤m∨ed.on=m+3
 eSI:∃ed∈S.after,Region.binds .any ed=true∧ed.on=m+1
 eHF:∃ed∈H.after,Region.binds .any ed=true∧ed.on=m+3
def cnt (i s f h:Bool):Nat:=(!i).toNat+(!s).toNat+(!f).toNat+(!h).toNat
theorem op_step {P:Program} {ro:Option Nat} {n:Nat} {ops:Array Oper} {Q:Exit→Act→World→Prop} {i:Nat} {o:Oper} {K:Act→World→Prop} {a:Act} {w w':World} {v:Value} (ho:ops[i]?=some o) (hg:o.guard=none) (hnd:∀c,o.op≠.defer c)
  (hrun:(execOp a.eval o).run P w=.ok (.value v) w'∨((execOp a.eval o).run P w=.ok .skip w'∧v=Go.undef)) (hk:K (a.put o.dst v) w'):wpOpIn (fw ro) n P ops Q i K a w:=by
 unfold wpOpIn
 rw [ho]
 dsimp only
 have hw:Region.wanted o (yielded ops a.tmps)=true:=by simp [Region.wanted,hg]
 rw [if_pos hw]
 refine ⟨fun _ _=>trivial,?_⟩
 rw [show (fw ro).round=ro from rfl,Oper.semAt_eq _ _ _ hnd]
 rcases hrun with hr | ⟨hr,rfl⟩
 ·rw [hr];exact hk
 ·rw [hr];exact hk
theorem hole4 {P:Program} {ro:Option Nat} {n:Nat} {ops:Array Oper} {m:Nat} {I S F H:Oper} (h4:Hole4 ops m I S F H) {Q:Exit→Act→World→Prop} {A:Bool→Bool→Act} {W:Bool→Bool→World} {vI vF:Value}
  (rI:∀f h,(h=true→f=true)→(execOp (A false f).eval I).run P (W false h)=.ok (.value vI) (W false h)) (pI:∀f,(A false f).put I.dst vI=A true f)
  (rF:∀i s,(s=true→i=true)→(execOp (A i false).eval F).run P (W s false)=.ok (.value vF) (W s false)) (pF:∀i,(A i false).put F.dst vF=A i true)
  (rS:∀f h,(h=true→f=true)→(execOp (A true f).eval S).run P (W false h)=.ok .skip (W true h)) (pS:∀f,(A true f).put S.dst Go.undef=A true f)
  (rH:∀i s,(s=true→i=true)→(execOp (A i true).eval H).run P (W s false)=.ok .skip (W s true)) (pH:∀i,(A i true).put H.dst Go.undef=A i true)
  (hQ:Q .normal (A true true) (W true true)) :
  ∀(k:Nat) (i s f h:Bool),cnt i s f h=k→(s=true→i=true)→(h=true→f=true)→∀(listed:Array Bool),listed.size=ops.size →
   (∀j,j<ops.size→(listed.getD j false=true↔(j=m+1→i=true)∧(j=m+2→s=true)∧(j=m+3→f=true)∧(j=m+4→h=true))) →
   wpAnyIn (fw ro) n P .any ops Q k listed (A i f) (W s h):=by
 intro k
 induction k with
 | zero =>
  intro i s f h hc hsi hhf listed hsz hli
  obtain ⟨rfl,rfl,rfl,rfl⟩:i=true∧s=true∧f=true∧h=true:=by
   revert hc;cases i <;> cases s <;> cases f <;> cases h <;> simp [cnt]
  refine ⟨?_,hQ⟩
  rw [List.eq_nil_iff_forall_not_mem]
  intro j hj
  obtain ⟨h1,o,ho,_⟩:=mem_ready.1 hj
  have hlt:=(Array.getElem?_eq_some_iff.1 ho).1
  have:=(hli j hlt).2 ⟨fun _=>rfl,fun _=>rfl,fun _=>rfl,fun _=>rfl⟩
  have hlt':j<listed.size:=by rw [hsz];exact hlt
  simp [Array.getD,hlt'] at this h1
  rw [this] at h1;cases h1
 | succ k ih =>
  intro i s f h hc hsi hhf listed hsz hli
  have hgd:∀i b,i<ops.size→listed.getD i b=listed.getD i false:=fun i b hi=>by
   have hlt':i<listed.size:=by rw [hsz];exact hi
   simp [Array.getD,hlt']
  have hsz4:=h4.size
  have hset:∀(j:Nat) (i' s' f' h':Bool),j<ops.size→(∀q,q<ops.size→((q=m+1→i'=true)∧(q=m+2→s'=true)∧(q=m+3→f'=true)∧(q=m+4→h'=true)↔q=j∨((q=m+1→i=true)∧(q=m+2→s=true)∧(q=m+3→f=true)∧(q=m+4→h=true)))) →
    ∀q,q<ops.size→((listed.setIfInBounds j true).getD q false=true↔(q=m+1→i'=true)∧(q=m+2→s'=true)∧(q=m+3→f'=true)∧(q=m+4→h'=true)):=fun j i' s' f' h' hj hh q hq=>by
   rw [hh q hq]
   by_cases hqj:q=j
   ·subst hqj
    have hlt':q<listed.size:=by rw [hsz];exact hq
    simp [Array.getD,hlt']
   ·have:(listed.setIfInBounds j true).getD q false=listed.getD q false:=getD_set_ne false (Ne.symm hqj)
    rw [this,hli q hq]
    constructor
    ·exact fun h=>.inr h
    ·rintro (h | h)
     ·exact absurd h hqj
     ·exact h
  refine ⟨fun hr=>?_,fun j hj=>?_⟩
  ·exfalso
   have rdy:∀j o,ops[j]?=some o→listed.getD j false=false→(∀ed∈o.after,Region.binds .any ed=true→listed.getD ed.on false=true)→False:=fun j o ho hl he=>by
    have:j∈Region.ready .any ops listed:=mem_ready.2 ⟨by rw [hgd _ _ (Array.getElem?_eq_some_iff.1 ho).1];exact hl,o,ho,he⟩
    rw [hr] at this;cases this
   have fls:∀j,j<ops.size→¬((j=m+1→i=true)∧(j=m+2→s=true)∧(j=m+3→f=true)∧(j=m+4→h=true))→listed.getD j false=false:=fun j hj hn=>by
    cases hv:listed.getD j false with
    | false=>rfl
    | true=>exact absurd ((hli j hj).1 hv) hn
   cases i with
   | false=>exact rdy (m+1) I h4.oI (fls _ (by omega) (fun hh=>by have:=hh.1 rfl;cases this)) fun ed he hb=>(hli _ (by have:=h4.eI ed he hb;omega)).2 (by have:=h4.eI ed he hb;exact ⟨by omega,by omega,by omega,by omega⟩)
   | true =>
    cases s with
    | false=>exact rdy (m+2) S h4.oS (fls _ (by omega) (fun hh=>by have:=hh.2.1 rfl;cases this)) fun ed he hb=>(hli _ (by have:=h4.eS ed he hb;omega)).2 (by have:=h4.eS ed he hb;exact ⟨fun _=>rfl,by omega,by omega,by omega⟩)
    | true =>
     cases f with
     | false=>exact rdy (m+3) F h4.oF (fls _ (by omega) (fun hh=>by have:=hh.2.2.1 rfl;cases this)) fun ed he hb=>(hli _ (by have:=h4.eF ed he hb;omega)).2 (by have:=h4.eF ed he hb;exact ⟨fun _=>rfl,fun _=>rfl,by omega,by omega⟩)
     | true =>
      cases h with
      | false=>exact rdy (m+4) H h4.oH (fls _ (by omega) (fun hh=>by have:=hh.2.2.2 rfl;cases this)) fun ed he hb=>(hli _ (by have:=h4.eH ed he hb;omega)).2 (by have:=h4.eH ed he hb;exact ⟨fun _=>rfl,fun _=>rfl,fun _=>rfl,by omega⟩)
      | true=>simp [cnt] at hc
  ·obtain ⟨h1,o,ho,hall⟩:=mem_ready.1 hj
   have hlt:=(Array.getElem?_eq_some_iff.1 ho).1
   rw [hgd _ _ hlt] at h1
   have hn:¬((j=m+1→i=true)∧(j=m+2→s=true)∧(j=m+3→f=true)∧(j=m+4→h=true)):=fun hh=>by
    rw [(hli j hlt).2 hh] at h1;cases h1
   have hs1:(listed.setIfInBounds j true).size=ops.size:=by simpa using hsz
   by_cases j1:j=m+1
   ·subst j1
    have hi:i=false:=by cases i with | false=>rfl | true=>exact absurd ⟨fun _=>rfl,by omega,by omega,by omega⟩ hn
    subst hi
    have hs:s=false:=by cases s with | false=>rfl | true=>cases hsi rfl
    subst hs
    rw [h4.oI] at ho;cases ho
    refine op_step h4.oI h4.gI h4.nI (.inl (rI f h hhf)) ?_
    rw [pI]
    exact ih true false f h (by simp [cnt] at hc ⊢;omega) (fun h=>by cases h) hhf _ hs1 (hset _ _ _ _ _ hlt fun q hq=>by
     by_cases hq1:q=m+1
     ·subst hq1;simp
     ·simp [hq1])
   ·by_cases j2:j=m+2
    ·subst j2
     have hs:s=false:=by cases s with | false=>rfl | true=>exact absurd ⟨by omega,fun _=>rfl,by omega,by omega⟩ hn
     subst hs
     rw [h4.oS] at ho;cases ho
     obtain ⟨ed,he,hb,hon⟩:=h4.eSI
     have hi:i=true:=by
      have:=hall ed he hb
      rw [hon] at this
      exact ((hli _ (by omega)).1 this).1 rfl
     subst hi
     refine op_step h4.oS h4.gS h4.nS (.inr ⟨rS f h hhf,rfl⟩) ?_
     rw [pS]
     exact ih true true f h (by simp [cnt] at hc ⊢;omega) (fun _=>rfl) hhf _ hs1 (hset _ _ _ _ _ hlt fun q hq=>by
      by_cases hq1:q=m+2
      ·subst hq1;simp
      ·simp [hq1])
    ·by_cases j3:j=m+3
     ·subst j3
      have hf:f=false:=by cases f with | false=>rfl | true=>exact absurd ⟨by omega,by omega,fun _=>rfl,by omega⟩ hn
      subst hf
      have hh:h=false:=by cases h with | false=>rfl | true=>cases hhf rfl
      subst hh
      rw [h4.oF] at ho;cases ho
      refine op_step h4.oF h4.gF h4.nF (.inl (rF i s hsi)) ?_
      rw [pF]
      exact ih i s true false (by simp [cnt] at hc ⊢;omega) hsi (fun h=>by cases h) _ hs1 (hset _ _ _ _ _ hlt fun q hq=>by
       by_cases hq1:q=m+3
       ·subst hq1;simp
       ·simp [hq1])
     ·by_cases j4:j=m+4
      ·subst j4
       have hh:h=false:=by cases h with | false=>rfl | true=>exact absurd ⟨by omega,by omega,by omega,fun _=>rfl⟩ hn
       subst hh
       rw [h4.oH] at ho;cases ho
       obtain ⟨ed,he,hb,hon⟩:=h4.eHF
       have hf:f=true:=by
        have:=hall ed he hb
        rw [hon] at this
        exact ((hli _ (by omega)).1 this).2.2.1 rfl
       subst hf
       refine op_step h4.oH h4.gH h4.nH (.inr ⟨rH i s hsi,rfl⟩) ?_
       rw [pH]
       exact ih i s true true (by simp [cnt] at hc ⊢;omega) hsi (fun _=>rfl) _ hs1 (hset _ _ _ _ _ hlt fun q hq=>by
        by_cases hq1:q=m+4
        ·subst hq1;simp
        ·simp [hq1])
      ·exact absurd ⟨fun e=>absurd e j1,fun e=>absurd e j2,fun e=>absurd e j3,fun e=>absurd e j4⟩ hn
theorem Oper.wpIn_exit {F:Fence} {n:Nat} {P:Program} {o:Oper} {a:Act} {w:World} {K:Act→World→Prop} {Q Q':Exit→Act→World→Prop} (hQ:∀x a w,x≠.normal→Q x a w→Q' x a w) (h:o.wpIn F n P a w K Q):o.wpIn F n P a w K Q':=by
 unfold Oper.wpIn at *
 refine ⟨h.1,?_⟩
 have h:=h.2
 generalize (o.semAt F.round a.eval).run P w=r at *
 cases r with
 | ok x w' =>
  cases x <;> simp only [Oper.uponIn] at h ⊢ <;> first
   | exact h
   | exact h.elim
   | (refine ⟨h.1, h.2.mono fun en w'' he => ?_⟩
      cases en <;> simp only at he ⊢ <;> first
       | exact he
       | exact hQ _ _ _ (by simp) he
       | (obtain ⟨a0,w0,hq⟩:=he;exact ⟨a0,w0,hQ _ _ _ (by simp) hq⟩))
 | halt hh w' =>
  cases hh <;> simp only [Oper.uponIn] at h ⊢ <;> first
   | exact h.elim
   | exact hQ _ _ _ (by simp) h
section
variable {G:GE} {C:Cx} {e0 e:Env} {σ0 σ:St} {w0 w:World} {a:Act} {f:Frame} {Q:PQ} {ro:Option Nat} {n:Nat} {ds:Nat×List Deferred×Bool} {N:Nat} {Z:Array Value→Prop}
theorem any_soundT {m t:Nat} {QQ:Exit→Act→World→Prop} (hC:CxOK G C ro e0 σ0 w0) (hM:CxMono C) {ops:Array Oper} (hd:∀o,o∈ops→∀d,o.dst=some d→d<N∧∀t v,Z t→Z (t.setIfInBounds d v)) {ms:List Nat} (hms:∀i o,i<m→ops[i]?=some o→ms.getD i 0=maskOf ms o.after.toList 0)
  (hm:ops.size=m+t) (htail:∀j o,m≤j→ops[j]?=some o→(∀p,p<m→∃ed∈o.after,Region.binds .any ed=true∧ed.on=p)∨(∃ed∈o.after,Region.binds .any ed=true∧m≤ed.on∧ed.on<ops.size))
  (hQQ:∀x a w,x≠.normal→PostOf G e0 σ0 w0 ds N Z Q x a w→QQ x a w)
  (hend:∀(listed:Array Bool) a w,listed.size=ops.size→(∀k,k<ops.size→(listed.getD k false=true↔k<m))→PostOf G e0 σ0 w0 ds N Z Q .normal a w→wpAnyIn (fw ro) n G.P .any ops QQ t listed a w) :
  ∀(k:Nat) (l:List (Nat×Oper)),l.length=k→(∀p∈l,p.1<m)→(∀p∈l,ops[p.1]?=some p.2)→l.Pairwise (Ahead ops.toList ms)→(∀p∈l,∀e∈p.2.after.toList,Region.binds .any e=true→e.on<m∧e.on≠p.1) →
  ∀{listed:Array Bool},listed.size=ops.size→(∀k,k<ops.size→(listed.getD k false=true↔k<m∧∀p∈l,p.1≠k))→(∀j,j<m→(∀p∈l,p.1≠j)→∀p∈l,anc ms p.1 j=false) →
  ∀{ctx:List Ld} {e:Env} {σ:St} {w:World} {a:Act} {f:Frame},SRel G e σ w→FRel G e σ w f a.tmps→Later e0 σ0 w0 e σ w→a.tmps.size=N→Marks ds e σ w a.defers→Z a.tmps→popsI C ops.toList ms Q l ctx f σ →
  wpAnyIn (fw ro) n G.P .any ops QQ (k+t) listed a w
 | 0,l,hl,hlm,hget,hp,hed,listed,hsz,hli,hdown,ctx,e,σ,w,a,f,hS,hF,hL,hN,hds,hZ,h=>by
  have hl0:l=[]:=List.length_eq_zero_iff.1 hl
  subst hl0
  rw [Nat.zero_add]
  exact hend listed a w hsz (fun k hk=>by rw [hli k hk];simp) ⟨.normal,f,e,σ,h,rfl,hS,hF,hL,hN,hds,hZ⟩
 | k+1,l,hl,hlm,hget,hp,hed,listed,hsz,hli,hdown,ctx,e,σ,w,a,f,hS,hF,hL,hN,hds,hZ,h=>by
  have hgd:∀i b,i<ops.size→listed.getD i b=listed.getD i false:=fun i b hi=>by
   have hlt':i<listed.size:=by rw [hsz];exact hi
   simp [Array.getD,hlt']
  rw [show k+1+t=(k+t)+1 by omega]
  refine ⟨fun hr=>?_,fun i hi=>?_⟩
  ·cases l with
   | nil=>simp at hl
   | cons x l =>
    exfalso
    have hx:=hget x (by simp)
    have hlt:=(Array.getElem?_eq_some_iff.1 hx).1
    have:x.1∈Region.ready .any ops listed:=by
     refine mem_ready.2 ⟨?_,x.2,hx,fun ed hed' hb=>?_⟩
     ·rw [hgd _ _ hlt]
      cases hv:listed.getD x.1 false with
      | false=>rfl
      | true=>exact absurd rfl (((hli x.1 hlt).1 hv).2 x (by simp))
     ·have h1:=hed x (by simp) ed (Array.mem_def.1 hed') hb
      refine (hli ed.on (by omega)).2 ⟨h1.1,fun p hp'=>?_⟩
      rcases List.mem_cons.1 hp' with rfl | hp'
      ·exact fun e=>h1.2 e.symm
      ·exact fun e=>(List.rel_of_pairwise_cons hp hp').2.1 ed (Array.mem_def.1 hed') hb e.symm
    rw [hr] at this;cases this
  ·obtain ⟨h1,o,ho,hall⟩:=mem_ready.1 hi
   have hlt:=(Array.getElem?_eq_some_iff.1 ho).1
   rw [hgd _ _ hlt] at h1
   have him:i<m:=by
    apply Classical.byContradiction
    intro hge
    rcases htail i o (by omega) ho with h2 | ⟨ed,he,hb,hge,hlt2⟩
    ·cases l with
     | nil=>simp at hl
     | cons x l =>
      obtain ⟨ed,he,hb,hon⟩:=h2 x.1 (hlm x (by simp))
      have h3:=hall ed he hb
      rw [hon] at h3
      exact ((hli x.1 (by have:=hlm x (by simp);omega)).1 h3).2 x (by simp) rfl
    ·have:=((hli ed.on hlt2).1 (hall ed he hb)).1
     omega
   have hmem:∃p∈l,p.1=i:=by
    apply Classical.byContradiction
    intro hno
    have:=(hli i hlt).2 ⟨him,fun p hp e=>hno ⟨p,hp,e⟩⟩
    rw [h1] at this;cases this
   obtain ⟨p,hpl,rfl⟩:=hmem
   have hpo:p.2=o:=by have:=hget p hpl;rw [ho] at this;exact (Option.some.inj this).symm
   obtain ⟨pre,post,rfl⟩:=List.append_of_mem hpl
   obtain ⟨i,o'⟩:=p
   dsimp only at hpo ho hlt h1 hi
   subst hpo
   have hpw:=List.pairwise_append.1 hp
   have hpost:=(List.pairwise_cons.1 hpw.2.1)
   have hnotanc:∀x∈pre++(i,o')::post,anc ms x.1 i=false:=fun x hx=>by
    cases hax:anc ms x.1 i with
    | false=>rfl
    | true =>
     exfalso
     unfold anc at hax
     rw [hms i o' him ho] at hax
     rcases maskOf_bit hax with h2 | ⟨ed,hed',hb,h2⟩
     ·simp at h2
     ·have hlst:=hall ed (Array.mem_def.2 hed') hb
      have hne:=((hli ed.on (by have:=(hed _ hpl ed hed' hb).1;omega)).1 hlst).2
      rcases h2 with h2 | h2
      ·exact hne x hx h2.symm
      ·rw [hdown ed.on (hed _ hpl ed hed' hb).1 hne x hx] at h2;cases h2
   have hfront:=toFront hM pre (fun x hx=>by
    have hA:=hpw.2.2 x hx (i,o') (by simp)
    have hna:=hnotanc x (by simp [hx])
    rcases hA.2.2 with h2 | h2
    ·rw [hna] at h2;cases h2
    ·exact ⟨h2.1,h2.2,hna⟩) ctx f σ h
   have hstep:=pstep_sound (ro:=ro) (n:=n) hC hS hF hL hN hds hZ (ops:=ops) (hd o' (Array.mem_of_getElem? ho)) hfront
   have hne':∀x∈pre++post,x.1≠i:=fun x hx=>by
    rcases List.mem_append.1 hx with hx | hx
    ·exact (hpw.2.2 x hx (i,o') (by simp)).1
    ·exact fun e=>(hpost.1 x hx).1 e.symm
   have hsub:∀x,x∈pre++post→x∈pre++(i,o')::post:=fun x hx=>by
    rcases List.mem_append.1 hx with hx | hx <;> simp [hx]
   have next:∀a' w',KRel G e0 σ0 w0 ds N Z (fun f' σ'=>∃c,popsI C ops.toList ms Q (pre++post) c f' σ') a' w'→wpAnyIn (fw ro) n G.P .any ops QQ (k+t) (listed.setIfInBounds i true) a' w':=fun a' w' ⟨f',e',σ',⟨c,hk1⟩,h2,h3,h4,h5,h6,h7⟩=>by
    refine any_soundT hC hM hd hms hm htail hQQ hend k (pre++post) (by simp at hl ⊢;omega) (fun x hx=>hlm x (hsub x hx)) (fun x hx=>hget x (hsub x hx)) (List.pairwise_append.2 ⟨hpw.1,hpost.2,fun x hx y hy=>hpw.2.2 x hx y (List.mem_cons_of_mem _ hy)⟩)
     (fun x hx=>hed x (hsub x hx)) (by simpa using hsz) (fun k hk=>?_) (fun j hjm hj x hx=>?_) h2 h3 h4 h5 h6 h7 hk1
    ·by_cases hki:k=i
     ·subst hki
      have hlt':k<listed.size:=by rw [hsz];exact hlt
      have:(listed.setIfInBounds k true).getD k false=true:=by simp [Array.getD,hlt']
      simp only [this,true_iff]
      exact ⟨him,hne'⟩
     ·have:(listed.setIfInBounds i true).getD k false=listed.getD k false:=getD_set_ne false (Ne.symm hki)
      rw [this,hli k hk]
      constructor
      ·exact fun hh=>⟨hh.1,fun x hx=>hh.2 x (hsub x hx)⟩
      ·intro hh
       refine ⟨hh.1,fun x hx=>?_⟩
       rcases List.mem_append.1 hx with hx | hx
       ·exact hh.2 x (by simp [hx])
       ·rcases List.mem_cons.1 hx with rfl | hx
        ·exact fun e=>hki e.symm
        ·exact hh.2 x (by simp [hx])
    ·by_cases hji:j=i
     ·subst hji;exact hnotanc x (hsub x hx)
     ·refine hdown j hjm (fun y hy=>?_) x (hsub x hx)
      rcases List.mem_append.1 hy with hy | hy
      ·exact hj y (by simp [hy])
      ·rcases List.mem_cons.1 hy with rfl | hy
       ·exact fun e=>hji e.symm
       ·exact hj y (by simp [hy])
   have hK:∀a' w',KRel G e0 σ0 w0 ds N Z (fun f' σ'=>match isEff o'.op with | true=>chkL ms i σ.bx σ'.bx ctx (popsI C ops.toList ms Q (pre++post) ctx f' σ') | false=>popsI C ops.toList ms Q (pre++post) (addLd C.T o' i f ctx) f' σ') a' w' →
     KRel G e0 σ0 w0 ds N Z (fun f' σ'=>∃c,popsI C ops.toList ms Q (pre++post) c f' σ') a' w':=fun a' w' ⟨f',e',σ',hk,hrest⟩=>by
    refine ⟨f',e',σ',?_,hrest⟩
    cases hE:isEff o'.op with
    | true=>rw [hE] at hk;exact ⟨_,(chkL_iff.1 hk).2⟩
    | false=>rw [hE] at hk;exact ⟨_,hk⟩
   unfold wpOpIn
   rw [ho]
   dsimp only
   split at hstep
   ·rename_i hw
    rw [if_pos hw]
    exact Oper.wpIn_exit hQQ (Oper.wpIn_mono (fun a w h=>next a w (hK a w h)) hstep)
   ·rename_i hw
    rw [if_neg hw]
    exact ⟨fun _ _=>trivial,next _ _ (hK _ _ hstep)⟩
end
def noGuard (o:Oper):Bool:=match o.guard with | none=>true | _=>false
def aside (x:Operand) (ds:List Nat):Bool:=match x with | .tmp t=>!(nmem t ds) | _=>true
def isTmp (x:Operand) (d:Nat):Bool:=match x with | .tmp t=>Nat.beq t d | _=>false
def edgesUpTo (m:Nat) (l:List Edge):Bool:=l.all fun ed=>!(Region.binds .any ed) || Nat.ble ed.on m
def hasEdge (m:Nat) (l:List Edge):Bool:=l.any fun ed=>Region.binds .any ed && Nat.beq ed.on m
def hasAll:Nat→List Edge→Bool
 | 0,_=>true
 | n+1,l=>hasEdge n l && hasAll n l
structure HoleD where
 s:Operand
 z:Operand
 t:Nat
 tx:Nat
 ti:Nat
 ix:Operand
 ts:Nat
 x:Operand
 sf:Nat
 xf:Operand
 kf:Nat
 th:Nat
 da:Nat
 di:Nat
 df:Nat
def holeD (h:Hole):Option HoleD:=match h.A.op,h.I.op,h.S.op,h.F.op,h.H.op with
 | .call { callee:=.builtin .append,args,argTypes },.indexAddr ti xi ix,.store ts xs x,.fieldAddr sf xf kf,.store th xh yh=>match argTypes.toList,args.toList,h.A.dst,h.I.dst,h.F.dst,h.S.dst,h.H.dst with
  | [t,tx],[s,z],some da,some di,some df,none,none =>
   match isTmp xi da && Nat.beq ti t && isTmp xs di && isTmp xh df && isTmp yh da && aside ix [da,di,df] && aside x [da,di,df] && aside xf [da,di,df] && !(Nat.beq da di) && !(Nat.beq da df) && !(Nat.beq di df) with
   | true=>some ⟨s,z,t,tx,ti,ix,ts,x,sf,xf,kf,th,da,di,df⟩
   | false=>none
  | _,_,_,_,_,_,_=>none
 | _,_,_,_,_=>none
def holeOK (ops:List Oper) (h:Hole):Bool :=
 let m:=h.pre.length
 let ms:=masks ops []
 let cs:=canonF m (numbered 0 h.pre)
 (match holeD h with | some _=>true | none=>false) && noGuard h.A && noGuard h.I && noGuard h.S && noGuard h.F && noGuard h.H &&
 edgesUpTo m h.I.after.toList && edgesUpTo m h.F.after.toList && edgesUpTo (m+1) h.S.after.toList && (h.H.after.toList.all fun ed=>!(Region.binds .any ed) || (Nat.ble ed.on m || Nat.beq ed.on (m+3))) &&
 hasEdge (m+1) h.S.after.toList && hasEdge (m+3) h.H.after.toList && hasEdge m h.I.after.toList && hasEdge m h.F.after.toList && hasAll m h.A.after.toList && (match m with | 0=>true | k+1=>edgesUpTo k h.A.after.toList) && Nat.ble 1 m &&
 Nat.beq cs.length m && pairOK ops ms m cs && covers cs m && masksOK ms cs
theorem holeIn_spec {ops:Array Oper} {h:Hole} (hh:holeIn ops.toList=some h):ops.toList=h.pre++[h.A,h.I,h.S,h.F,h.H]:=by
 unfold holeIn at hh
 split at hh
 ·rename_i H F S I A pre hr
  split at hh
  ·cases hh
   have:ops.toList=(H::F::S::I::A::pre).reverse:=by rw [← hr,List.reverse_reverse]
   rw [this];simp
  ·cases hh
 ·cases hh
theorem holeD_spec {h:Hole} {d:HoleD} (hd:holeD h=some d):∃(args:Array Operand) (at':Array Nat),args.toList=[d.s,d.z]∧at'.toList=[d.t,d.tx]∧h.A.op=.call { callee:=.builtin .append,args:=args,argTypes:=at' } ∧
  h.I.op=.indexAddr d.t (.tmp d.da) d.ix∧h.S.op=.store d.ts (.tmp d.di) d.x∧h.F.op=.fieldAddr d.sf d.xf d.kf∧h.H.op=.store d.th (.tmp d.df) (.tmp d.da) ∧
  h.A.dst=some d.da∧h.I.dst=some d.di∧h.F.dst=some d.df∧h.S.dst=none∧h.H.dst=none∧aside d.ix [d.da,d.di,d.df]=true∧aside d.x [d.da,d.di,d.df]=true∧aside d.xf [d.da,d.di,d.df]=true∧d.da≠d.di∧d.da≠d.df∧d.di≠d.df:=by
 have tmp:∀{x:Operand} {d:Nat},isTmp x d=true→x=.tmp d:=fun {x d} h=>by
  unfold isTmp at h
  split at h
  ·rw [Nat.eq_of_beq_eq_true h]
  ·cases h
 have ne:∀{a b:Nat},(!(Nat.beq a b))=true→a≠b:=fun {a b} h e=>by subst e;simp at h
 unfold holeD at hd
 split at hd
 ·rename_i args at' ti xi ix ts xs x sf xf kf th xh yh h1 h2 h3 h4 h5
  split at hd
  ·rename_i t tx s z da di df g1 g2 g3 g4 g5 g6 g7
   split at hd
   ·rename_i hb
    cases hd
    simp only [Bool.and_eq_true] at hb
    obtain ⟨⟨⟨⟨⟨⟨⟨⟨⟨⟨b1,b2⟩,b3⟩,b4⟩,b5⟩,b6⟩,b7⟩,b8⟩,b9⟩,b10⟩,b11⟩:=hb
    have:=tmp b1;subst this
    have:=Nat.eq_of_beq_eq_true b2;subst this
    have:=tmp b3;subst this
    have:=tmp b4;subst this
    have:=tmp b5;subst this
    exact ⟨args,at',g2,g1,h1,h2,h3,h4,h5,g3,g4,g5,g6,g7,b6,b7,b8,ne b9,ne b10,ne b11⟩
   ·cases hd
  ·cases hd
 ·cases hd
theorem setCell_comm (w:World) {b1 b2:Nat} (h:b1≠b2) (o1 o2:Nat) (v1 v2:Value):(w.setCell ⟨b1,o1,none⟩ v1).setCell ⟨b2,o2,none⟩ v2=(w.setCell ⟨b2,o2,none⟩ v2).setCell ⟨b1,o1,none⟩ v1:=by
 unfold World.setCell
 simp only [World.mk.injEq,and_self,and_true,true_and]
 apply Array.ext_getElem?
 intro i
 simp only [Array.getElem?_modify]
 by_cases h1:b1=i
 ·subst h1;simp [Ne.symm h]
 ·by_cases h2:b2=i
  ·subst h2;simp [h]
  ·simp [h1,h2]
theorem setCell_setCells_comm {b1 b2:Nat} (h:b1≠b2) (o1:Nat) (v1:Value):∀(l:List Value) (o2:Nat) (w:World),(w.setCell ⟨b1,o1,none⟩ v1).setCells b2 o2 l=(w.setCells b2 o2 l).setCell ⟨b1,o1,none⟩ v1
 | [],_,_=>rfl
 | v::l,o2,w=>by
  rw [World.setCells,World.setCells,setCell_comm w h,setCell_setCells_comm h o1 v1 l]
theorem setCells_comm {b1 b2:Nat} (h:b1≠b2):∀(l1:List Value) (o1:Nat) (l2:List Value) (o2:Nat) (w:World),(w.setCells b1 o1 l1).setCells b2 o2 l2=(w.setCells b2 o2 l2).setCells b1 o1 l1
 | [],_,_,_,_=>rfl
 | v::l1,o1,l2,o2,w=>by
  rw [World.setCells,World.setCells,setCells_comm h l1,setCell_setCells_comm h]
section
variable {G:GE} {T:Tab} {e:Env} {σ:St} {w:World}
theorem storeAt_run (hT:TabOK T G.P) {t:Nat} (hk:(T.get t).kind≠.other) {v:Value} {b off:Nat} (hlen:v.cells.size=(T.get t).size) (hc:∀j,j<v.cells.toList.length→(w.cell? ⟨b,off+j,none⟩).isSome=true)
  (hf:∀j,j<v.cells.toList.length→w.frozen? ⟨b,off+j,none⟩=false) (hone:∀u∈v.cells.toList,u.oneCell'=true) {ρ':Operand→Value} {o:Oper} {p x:Operand} (ho:o.op=.store t p x) (hp:ρ' p=.pointer (some ⟨b,off,none⟩)) (hx:ρ' x=v) :
  (execOp ρ' o).run G.P w=.ok .skip (w.setCells b off v.cells.toList):=by
 obtain ⟨i,d,z,hi,hd,hs,hby,hkd,hz,hz2,_⟩:=(hT.get hk).ex
 have hrun:=run_storeCells_cells (P:=G.P) b off v.cells.toList 0 w (by simpa using hc) (by simpa using hf) hone
 simp only [Nat.add_zero] at hrun
 have:(Instr.storeAt t (.pointer (some ⟨b,off,none⟩)) v).run G.P w=.ok () (w.setCells b off v.cells.toList):=by
  have h1':v.cells.size=i.size:=by rw [hlen,hs]
  simp only [Instr.storeAt,Instr.sureAddr,storeVar,Sem.run_bind,Sem.run_pure,Result.andThen,run_sizeOf' hi]
  rw [if_neg (by rw [h1'];simp)]
  exact hrun
 unfold execOp
 simp only [ho,hp,hx,Sem.run_bind,this,Result.andThen,Sem.run_pure]
theorem fieldAt_run (hT:TabOK T G.P) {s i off t:Nat} {fs:List (Nat×Nat)} (hk:(T.get s).kind=.struct fs) (hfi:fs[i]?=some (off,t)) {ρ':Operand→Value} {o:Oper} {x:Operand} (ho:o.op=.fieldAddr s x i) {b oo:Nat} (hv:ρ' x=.pointer (some ⟨b,oo,none⟩)) (w:World) :
  (execOp ρ' o).run G.P w=.ok (.value (.pointer (some ⟨b,oo+off,none⟩))) w:=by
 obtain ⟨ti,d,z,hi,hd,hs,hby,hkd,hz,hz2,_⟩:=(hT.get (t:=s) (by rw [hk];simp)).ex
 rw [hk] at hkd
 obtain ⟨gs,rfl,hf⟩:=hkd
 obtain ⟨f,j,hg,ho',ht,hj,hjs⟩:=hf.get hfi
 have hg':gs[i]?=some f:=by simpa using hg
 have hfp:(fieldPlace ⟨b,oo,none⟩ f).run G.P w=.ok ⟨b,oo+off,none⟩ w:=by
  have hft:G.P.info? f.type=some j:=by rw [ht];exact hj
  have:j.size≠0:=by omega
  simp [fieldPlace,run_sizeOf' hft,this,add_addr,ho']
 unfold execOp
 simp [ho,hv,Instr.fieldAt,run_underlying' hd,hg',Instr.sureAddr,hfp]
theorem indexAt_run (hT:TabOK T G.P) {t el:Nat} (hk:(T.get t).kind=.slice el) (hk2:(T.get el).kind≠.other) {ρ':Operand→Value} {o:Oper} {x i:Operand} (ho:o.op=.indexAddr t x i) {b off n cap:Nat} {k:IntKind} {m:Int} (hv:ρ' x=.slice (some ⟨b,off,none⟩) n cap)
  (hi:ρ' i=.int k m) (h0:0≤m) (hn:m<n) (w:World):(execOp ρ' o).run G.P w=.ok (.value (.pointer (some ⟨b,off+m.toNat * (T.get el).size,none⟩))) w:=by
 obtain ⟨ti,d,z,hti,hd,hs,hby,hkd,hz,hz2,_⟩:=(hT.get (t:=t) (by rw [hk];simp)).ex
 rw [hk] at hkd;cases hkd
 obtain ⟨i2,d2,z2,hi2,hd2,hs2,_,hkd2,_,_,_⟩:=(hT.get hk2).ex
 unfold execOp
 simp [ho,hv,hi,Instr.indexAt,asInt_int,run_underlying' hd,h0,hn,run_sizeOf' hi2,add_addr,hs2]
theorem row_flat {x:PV} {v:Value} {row:List D} (hx:VRel G e σ w x v) (hr:rowOf x=some row):Flat (okc e σ) w [row] row.length v.cells.toList∧∀u∈v.cells.toList,u.oneCell'=true:=by
 unfold rowOf at hr
 split at hr
 ·rename_i l hl
  obtain ⟨hc1,hc2⟩:=cells_rel hx hl
  obtain ⟨hd1,hd2⟩:=toDs_rel (ok:=okc e σ) hr
  refine ⟨⟨by simp [hc1,hd1],fun r hr=>by simp at hr;rw [hr],fun a b y u hb hy hu=>?_⟩,fun u hu=>?_⟩
  ·cases a with
   | zero =>
    simp only [List.getElem?_cons_zero,Option.bind_some] at hy
    simp only [Nat.zero_mul,Nat.zero_add,Array.getElem?_toList] at hu
    have h1:b<l.length:=by omega
    exact toD_rel (hd2 b l[b] y (List.getElem?_eq_getElem h1) hy) (hc2 b l[b] u (List.getElem?_eq_getElem h1) hu).1
   | succ a=>simp at hy
  ·obtain ⟨j,hj,rfl⟩:=List.getElem_of_mem hu
   have h1:j<l.length:=by simp [hc1] at hj;exact hj
   exact (hc2 j l[j] _ (List.getElem?_eq_getElem h1) (by rw [← Array.getElem?_toList,List.getElem?_eq_getElem hj])).2
 ·cases hr
end
theorem ndel_none {t:Nat}:∀{l:List Nat},t∉l→ndel t l=l
 | [],_=>rfl
 | x::l,h=>by
  have h1:x≠t:=fun e=>h (by simp [e])
  have h2:=ndel_none (t:=t) (l:=l) (fun hm=>h (by simp [hm]))
  unfold ndel
  split
  ·rename_i hb;exact absurd (Nat.eq_of_beq_eq_true hb) h1
  ·rw [h2]
theorem holeA_spec {T:Tab} {h:Hole} {d:HoleD} {f:Frame} {σ:St} {K:Frame→St→Prop} (hd:holeD h=some d) (hA:holeA T h f σ K) :
  ∃el rows zr row k tk0,(T.get d.t).kind=.slice el∧(T.get el).kind≠.other∧1≤(T.get el).size∧d.ts=el∧moreRows T d.tx el (ev f d.z)=some [zr]∧rowOf (ev f d.x)=some row∧ev f d.ix=.d (.int k (rows.length:Nat)) ∧
   zr.length=(T.get el).size∧row.length=(T.get el).size∧(rows.length+1) * (T.get el).bytes≤2 ^ 47∧rows.length+1≤2 ^ 47 ∧
   ((∃e2,ev f d.s=.nils e2∧rows=[]∧tk0=σ.tk)∨∃tok,ev f d.s=.sl tok el rows∧tok∈σ.tk∧tk0=ndel tok σ.tk) ∧
   K (fputO (fputO f (some d.da) (.sl (σ.nx+1) el (rows++[row]))) (some d.di) .undef) ⟨σ.bx,(σ.nx+1)::tk0,σ.nx+2⟩:=by
 obtain ⟨args,at',a1,a2,a3,a4,a5,a6,a7,a8,a9,_⟩:=holeD_spec hd
 unfold holeA at hA
 simp only [a3,a4,a5,a1,a2,a8,a9,forceSt_eq,putK_eq] at hA
 split at hA
 ·rename_i el hk
  split at hA
  ·exact hA.elim
  ·rename_i hk2
   split at hA
   ·rename_i zr row k n h1 h2 h3 h4 h5
    split at hA
    ·rename_i h6 h7
     have e1:=Nat.le_of_ble_eq_true h1
     have e2:=Nat.eq_of_beq_eq_true h2
     have e6:=Nat.eq_of_beq_eq_true h6
     have e7:=Nat.eq_of_beq_eq_true h7
     split at hA
     ·rename_i e0 hs
      obtain ⟨rfl,hb,hK⟩:=hA
      exact ⟨el,[],zr,row,k,σ.tk,hk,fun h0=>hk2 h0,e1,e2,h3,h4,h5,e6,e7,hb,by simp,.inl ⟨e0,hs,rfl,rfl⟩,hK⟩
     ·rename_i tok e0 rows hs
      split at hA
      ·rename_i g1 g2
       have:=Nat.eq_of_beq_eq_true g2
       subst this
       obtain ⟨rfl,hb,hb2,hK⟩:=hA
       exact ⟨e0,rows,zr,row,k,ndel tok σ.tk,hk,fun h0=>hk2 h0,e1,e2,h3,h4,h5,e6,e7,hb,hb2,.inr ⟨tok,hs,(nmem_iff _ _).1 g1,rfl⟩,hK⟩
      ·exact hA.elim
     ·exact hA.elim
    ·exact hA.elim
   ·exact hA.elim
 ·exact hA.elim
section
theorem aside_eval {x:Operand} {ds:List Nat} (h:aside x ds=true) {a:Act} {d:Nat} (hd:d∈ds) (v:Value):(a.put (some d) v).eval x=a.eval x:=by
 cases x with
 | tmp t =>
  have:d≠t:=fun e=>by
   subst e
   simp only [aside,Bool.not_eq_true'] at h
   rw [(nmem_iff _ _).2 hd] at h;cases h
  simp [Act.put,Act.eval,Array.getD_eq_getD_getElem?,Array.getElem?_setIfInBounds,this]
 | _=>rfl
theorem aside_ev {x:Operand} {ds:List Nat} (h:aside x ds=true) {f:Frame} {d:Nat} (hd:d∈ds) (v:PV):ev (fputO f (some d) v) x=ev f x:=by
 cases x with
 | tmp t =>
  have:d≠t:=fun e=>by
   subst e
   simp only [aside,Bool.not_eq_true'] at h
   rw [(nmem_iff _ _).2 hd] at h;cases h
  exact fset_ne f v this
 | _=>rfl
theorem put_at {a:Act} {d:Nat} (h:d<a.tmps.size) (v:Value):(a.put (some d) v).eval (.tmp d)=v:=by
 simp [Act.put,Act.eval,Array.getElem?_setIfInBounds,h]
theorem put_out {a:Act} {d k:Nat} (h:d≠k) (v:Value):(a.put (some d) v).eval (.tmp k)=a.eval (.tmp k):=by
 simp [Act.put,Act.eval,Array.getD_eq_getD_getElem?,Array.getElem?_setIfInBounds,h]
theorem put_comm {a:Act} {d k:Nat} (h:d≠k) (v u:Value):(a.put (some d) v).put (some k) u=(a.put (some k) u).put (some d) v:=by
 simp only [Act.put,Act.mk.injEq,and_true]
 apply Array.ext_getElem?
 intro i
 simp only [Array.getElem?_setIfInBounds,Array.size_setIfInBounds]
 by_cases h1:d=i
 ·subst h1;simp [Ne.symm h]
 ·by_cases h2:k=i
  ·subst h2;simp [h]
  ·simp [h1,h2]
def actOf (a:Act) (di df:Nat) (vI vF:Value) (i f:Bool):Act :=
 let b:=match i with | true=>a.put (some di) vI | false=>a
 match f with | true=>b.put (some df) vF | false=>b
variable {G:GE} {C:Cx} {e0:Env} {σ0:St} {w0:World} {Q:PQ} {ro:Option Nat} {n:Nat} {ds:Nat×List Deferred×Bool} {N:Nat} {Z:Array Value→Prop}
theorem hole_end (hC:CxOK G C ro e0 σ0 w0) {ops:Array Oper} (hd:∀o,o∈ops→∀d,o.dst=some d→d<N∧∀t v,Z t→Z (t.setIfInBounds d v)) {h:Hole} {D:HoleD} (hD:holeD h=some D) {m:Nat} (h4:Hole4 ops m h.I h.S h.F h.H) (oA:ops[m]?=some h.A) (gA:h.A.guard=none)
  (eA:∀ed∈h.A.after,Region.binds .any ed=true→ed.on<m) (eIA:∃ed∈h.I.after,Region.binds .any ed=true∧ed.on=m) (eFA:∃ed∈h.F.after,Region.binds .any ed=true∧ed.on=m)
  {listed:Array Bool} {a:Act} {w:World} (hsz:listed.size=ops.size) (hli:∀k,k<ops.size→(listed.getD k false=true↔k<m)) (hp:PostOf G e0 σ0 w0 ds N Z (holeQ C ops.toList h Q) .normal a w) :
  wpAnyIn (fw ro) n G.P .any ops (PostOf G e0 σ0 w0 ds N Z Q) 5 listed a w:=by
 have hT:=hC.tab
 have hsz4:=h4.size
 obtain ⟨pe,f,e,σ,hq,hx,hS,hF,hL,hN,hds,hZ⟩:=hp
 cases pe with
 | exit i=>cases hx
 | goto i=>cases hx
 | ret=>cases hx
 | panic p=>obtain ⟨_,hx,_⟩:=hx;cases hx
 | normal =>
 obtain ⟨args,at',a1,a2,a3,a4,a5,a6,a7,a8,a9,a10,a11,a12,b1,b2,b3,n1,n2,n3⟩:=holeD_spec hD
 obtain ⟨el,rows,zr,row,kk,tk0,c1,c2,c3,c4,c5,c6,c7,c8,c9,c10,c11,c12,hK⟩:=holeA_spec hD hq
 have hdl:∀(j:Nat) (o:Oper) (d:Nat),ops[j]?=some o→o.dst=some d→d<N:=fun j o d ho hdd=>(hd o (Array.mem_of_getElem? ho) d hdd).1
 have hdz:∀(j:Nat) (o:Oper) (d:Nat),ops[j]?=some o→o.dst=some d→∀t v,Z t→Z (t.setIfInBounds d v):=fun j o d ho hdd=>(hd o (Array.mem_of_getElem? ho) d hdd).2
 have dA:=hdl m _ _ oA a8
 have dI:=hdl _ _ _ h4.oI a9
 have dF:=hdl _ _ _ h4.oF a10
 have hρ:∀x,VRel G e σ w (ev f x) (a.eval x):=fun x=>ev_rel hF x
 obtain ⟨hDR,hO,hsub,htk0⟩:DRel (okc e σ) w (.sl rows) (a.eval D.s)∧((a.eval D.s=.slice none 0 0∧rows=[])∨∃tok,tok∈σ.tk∧tok∉tk0∧Owned G e w tok el rows (a.eval D.s))∧(∀x,x∈tk0→x∈σ.tk)∧True:=by
  have hs:=hρ D.s
  rcases c12 with ⟨e2,h1,rfl,rfl⟩ | ⟨tok,h1,h2,rfl⟩
  ·rw [h1] at hs
   generalize a.eval D.s=v at hs
   cases hs with
   | nils _=>exact ⟨.slnil,.inl ⟨rfl,rfl⟩,fun _ h=>h,trivial⟩
  ·rw [h1] at hs
   generalize a.eval D.s=v at hs
   cases hs with
   | sl _ _ _ _ hn hd ht=>exact ⟨hd,.inr ⟨tok,h2,fun hm=>((mem_ndel _ _ _).1 hm).2 rfl,ht h2⟩,fun x hx=>((mem_ndel _ _ _).1 hx).1,trivial⟩
 obtain ⟨w1,bb,off,cap,e1,hrunA,hcap,st1,S1,V1⟩:=append_hole (ty:=h.A.type) hT hS c1 c2 c3 hDR tk0 hsub hO c5 (hρ D.z) c8 c10 c11
 have hxv1:VRel G e1 _ w1 (ev f D.x) (a.eval D.x):=(hρ D.x).step st1
 obtain ⟨hfl,hone⟩:=row_flat hxv1 c6
 rw [c9] at hfl
 obtain ⟨q1,q2,q3,e2,st2,S2,V2⟩:=fill_hole hT S1 c2 c3 V1 (by simp) hcap hfl
 have hKF:=hK
 rw [pstep_iff] at hKF
 simp only [guardState,h4.gF] at hKF
 unfold runOp at hKF
 simp only [a6,isEff,qopG,isS2B,qop,putK_eq] at hKF
 rw [aside_ev b3 (by simp),aside_ev b3 (by simp)] at hKF
 split at hKF
 rotate_left
 ·exact hKF.elim
 rename_i fs hks
 split at hKF
 rotate_left
 ·exact hKF.elim
 rename_i fo ft hfs
 split at hKF
 rotate_left
 ·rename_i r oo heq
  rw [pstep_iff] at hKF
  simp only [guardState,h4.gH] at hKF
  unfold runOp at hKF
  simp only [a7,isEff,eop,a10] at hKF
  have:ev (fputO (fputO (fputO f (some D.da) (.sl (σ.nx+1) el (rows++[row]))) (some D.di) .undef) (some D.df) (.elem r (oo+fo))) (.tmp D.df)=.elem r (oo+fo):=fset_same _ _ _
  rw [this] at hKF
  exact hKF.elim
 ·exact hKF.elim
 rename_i b oo heqF
 rw [pstep_iff] at hKF
 simp only [guardState,h4.gH] at hKF
 unfold runOp at hKF
 simp only [a7,isEff,eop,a10,forceSt_eq,putK_eq] at hKF
 generalize hf4:fputO (fputO (fputO f (some D.da) (.sl (σ.nx+1) el (rows++[row]))) (some D.di) .undef) (some D.df) (.ptr b (oo+fo))=f4 at hKF
 have k1:ev f4 (.tmp D.df)=.ptr b (oo+fo):=by rw [← hf4];exact fset_same _ _ _
 have k2:ev f4 (.tmp D.da)=.sl (σ.nx+1) el (rows++[row]):=by
  rw [← hf4]
  show fset (fset (fset f D.da _) D.di _) D.df _ D.da=_
  rw [fset_ne _ _ (Ne.symm n2),fset_ne _ _ (Ne.symm n1),fset_same]
 rw [k1,k2] at hKF
 simp only [PV.cells] at hKF
 split at hKF
 rotate_left
 ·exact hKF.elim
 rename_i ty cs hbx
 split at hKF
 ·exact hKF.elim
 rotate_left
 ·exact hKF.elim
 rename_i l1 l2 l3
 rw [a12] at hKF
 have hth:(C.T.get D.th).size=1:=(Nat.eq_of_beq_eq_true l1).symm
 have hfit:oo+fo+1≤cs.length:=Nat.le_of_ble_eq_true l2
 have hxf:=hρ D.xf
 rw [heqF] at hxf
 generalize hvx:a.eval D.xf=vx at hxf
 cases hxf with
 | ptr _ _ hbl =>
 have hβ1:e1.β b=e.β b:=st1.beta b hbl
 have hbb:e.β b≠bb:=by rw [← hβ1];exact q3 b hbl
 obtain ⟨vs,hv1,hv2,_⟩:=S1.box b _ hbx
 rw [hβ1] at hv1
 let v':Value:=.slice (some ⟨bb,off,none⟩) (rows.length+1) cap
 let oS:=off+rows.length * (C.T.get el).size
 let us:=(a.eval D.x).cells.toList
 let vI:Value:=.pointer (some ⟨bb,oS,none⟩)
 let vF:Value:=.pointer (some ⟨e.β b,oo+fo,none⟩)
 let WW:Bool→Bool→World:=fun s g =>
  let u:=match s with | true=>w1.setCells bb oS us | false=>w1
  match g with | true=>u.setCells (e.β b) (oo+fo) [v'] | false=>u
 have hNA:D.da<a.tmps.size:=by rw [hN];exact dA
 have hNI:∀v:Value,D.di<(a.put (some D.da) v).tmps.size:=fun v=>by rw [put_size,hN];exact dI
 let A0:=a.put (some D.da) v'
 let AA:=actOf A0 D.di D.df vI vF
 have evA:∀i g,(AA i g).eval (.tmp D.da)=v':=fun i g=>by
  cases i <;> cases g
  ·exact put_at hNA v'
  ·exact (put_out (Ne.symm n2) vF).trans (put_at hNA v')
  ·exact (put_out (Ne.symm n1) vI).trans (put_at hNA v')
  ·exact (put_out (Ne.symm n2) vF).trans ((put_out (Ne.symm n1) vI).trans (put_at hNA v'))
 have evX:∀x,aside x [D.da,D.di,D.df]=true→∀i g,(AA i g).eval x=a.eval x:=fun x hx i g=>by
  have h1:=aside_eval hx (a:=a) (d:=D.da) (by simp) v'
  cases i <;> cases g
  ·exact h1
  ·exact (aside_eval hx (d:=D.df) (by simp) vF).trans h1
  ·exact (aside_eval hx (d:=D.di) (by simp) vI).trans h1
  ·exact (aside_eval hx (d:=D.df) (by simp) vF).trans ((aside_eval hx (d:=D.di) (by simp) vI).trans h1)
 have evI:∀g,(AA true g).eval (.tmp D.di)=vI:=fun g=>by
  cases g
  ·exact put_at (hNI v') vI
  ·exact (put_out (Ne.symm n3) vF).trans (put_at (hNI v') vI)
 have evF:∀i,(AA i true).eval (.tmp D.df)=vF:=fun i=>by
  cases i
  ·exact put_at (by rw [put_size,hN];exact dF) vF
  ·exact put_at (by rw [put_size,put_size,hN];exact dF) vF
 have hixv:a.eval D.ix=.int kk (rows.length:Nat):=by
  have:=hρ D.ix
  rw [c7] at this
  exact this.dint
 have huw:∀(u:World),(∀k,k≠e.β b→u.heap[k]?=w1.heap[k]?)→(∀j,j<us.length→(u.cell? ⟨bb,oS+j,none⟩).isSome=true)∧(∀j,j<us.length→u.frozen? ⟨bb,oS+j,none⟩=false):=fun u hu=>by
  have h1:=hu bb (Ne.symm hbb)
  exact ⟨fun j hj=>by have:=q1 j hj;simpa [World.cell?,h1] using this,fun j hj=>by have:=q2 j hj;simpa [World.frozen?,h1] using this⟩
 have hfw:∀(u:World),(∀k,k≠bb→u.heap[k]?=w1.heap[k]?)→(∀j,j<v'.cells.toList.length→(u.cell? ⟨e.β b,oo+fo+j,none⟩).isSome=true)∧(∀j,j<v'.cells.toList.length→u.frozen? ⟨e.β b,oo+fo+j,none⟩=false):=fun u hu=>by
  have h1:=(hu (e.β b) hbb).trans hv1
  refine ⟨fun j hj=>?_,fun j hj=>by simp [World.frozen?,h1]⟩
  have:j<1:=hj
  have:oo+fo+j<vs.size:=by omega
  simp [World.cell?,h1,this]
 have hr1:=(rest_setCells bb us oS w1).2.2.2
 have hr2:=(rest_setCells (e.β b) [v'] (oo+fo) w1).2.2.2
 have rS:∀f' h',(h'=true→f'=true)→(execOp (AA true f').eval h.S).run G.P (WW false h')=.ok .skip (WW true h'):=fun f' h' _=>by
  have hx:(AA true f').eval D.x=a.eval D.x:=evX _ b2 _ _
  cases h' with
  | false =>
   obtain ⟨g1,g2⟩:=huw w1 (fun _ _=>rfl)
   exact storeAt_run hT (by rw [c4];exact c2) (by rw [c4];simpa using hfl.len) g1 g2 hone a5 (evI f') hx
  | true =>
   obtain ⟨g1,g2⟩:=huw (WW false true) hr2
   have:=storeAt_run (w:=WW false true) hT (by rw [c4];exact c2) (by rw [c4];simpa using hfl.len) g1 g2 hone a5 (evI f') hx
   rw [this]
   show Result.ok Next.skip ((w1.setCells (e.β b) (oo+fo) [v']).setCells bb oS us)=.ok .skip ((w1.setCells bb oS us).setCells (e.β b) (oo+fo) [v'])
   rw [setCells_comm hbb]
 have rH:∀i s,(s=true→i=true)→(execOp (AA i true).eval h.H).run G.P (WW s false)=.ok .skip (WW s true):=fun i s _=>by
  cases s with
  | false =>
   obtain ⟨g1,g2⟩:=hfw w1 (fun _ _=>rfl)
   exact storeAt_run hT (fun h0=>l3 h0) (by rw [hth];rfl) g1 g2 (fun u hu=>by simp [v',Value.cells] at hu;subst hu;rfl) a7 (evF i) (evA i true)
  | true =>
   obtain ⟨g1,g2⟩:=hfw (WW true false) hr1
   exact storeAt_run (w:=WW true false) hT (fun h0=>l3 h0) (by rw [hth];rfl) g1 g2 (fun u hu=>by simp [v',Value.cells] at hu;subst hu;rfl) a7 (evF i) (evA i true)
 have rI:∀f' h',(h'=true→f'=true)→(execOp (AA false f').eval h.I).run G.P (WW false h')=.ok (.value vI) (WW false h'):=fun f' h' _=>by
  have:=indexAt_run hT c1 c2 a4 (evA false f') ((evX _ b1 false f').trans hixv) (by omega) (by omega) (WW false h')
  rw [this]
  simp [vI,oS]
 have rF:∀i s,(s=true→i=true)→(execOp (AA i false).eval h.F).run G.P (WW s false)=.ok (.value vF) (WW s false):=fun i s _ =>
  fieldAt_run hT hks hfs a6 ((evX _ b3 i false).trans hvx) (WW s false)
 have pI:∀f',(AA false f').put h.I.dst vI=AA true f':=fun f'=>by
  rw [a9]
  cases f'
  ·rfl
  ·exact put_comm (Ne.symm n3) vF vI
 have pF:∀i,(AA i false).put h.F.dst vF=AA i true:=fun i=>by rw [a10];rfl
 have pS:∀f',(AA true f').put h.S.dst Go.undef=AA true f':=fun f'=>by rw [a11];rfl
 have pH:∀i,(AA i true).put h.H.dst Go.undef=AA i true:=fun i=>by rw [a12];rfl
 have hfin:PostOf G e0 σ0 w0 ds N Z Q .normal (AA true true) (WW true true):=by
  have hβ2:e2.β b=e.β b:=(st2.beta b (by exact hbl)).trans hβ1
  have F1:=(hF.step st1).step st2
  have F2:=FRel.put (a:=a) (d:=some D.da) F1 V2 (fun i hi=>by cases hi;exact hNA)
  have F3:=FRel.put (a:=a.put (some D.da) v') (d:=some D.di) F2 (.undef vI) (fun i hi=>by cases hi;exact hNI v')
  have F4:=FRel.put (a:=(a.put (some D.da) v').put (some D.di) vI) (d:=some D.df) (x:=.ptr b (oo+fo)) (v:=vF) F3 (by
   have:=VRel.ptr (G:=G) (e:=e2) (σ:=⟨σ.bx,(σ.nx+1)::ndel σ.nx (σ.nx::tk0),σ.nx+1+1⟩) (w:=w1.setCells bb oS us) b (oo+fo) hbl
   rw [hβ2] at this
   exact this) (fun i hi=>by cases hi;rw [put_size,put_size,hN];exact dF)
  have htk:ndel σ.nx (σ.nx::tk0)=tk0:=by
   have hnot:σ.nx∉tk0:=fun hm=>by have:=hS.tkn _ (hsub _ hm);omega
   unfold ndel
   split
   ·exact ndel_none hnot
   ·rename_i hb;simp at hb
  have hsq:(⟨σ.bx,(σ.nx+1)::ndel σ.nx (σ.nx::tk0),σ.nx+1+1⟩:St)=⟨σ.bx,(σ.nx+1)::tk0,σ.nx+2⟩:=by rw [htk]
  obtain ⟨w4,hrun4,st4,S4⟩:=store_sound (x:=.sl (σ.nx+1) el (rows++[row])) (v:=v') (t:=D.th) hT S2 hbx V2 rfl (by rw [hth];rfl) hfit (fun h0=>l3 h0)
  have hw4:w4=WW true true:=by
   have h1:=rH true true (fun _=>rfl)
   unfold execOp at h1
   rw [hβ2] at hrun4
   have h2:(AA true true).eval (.tmp D.df)=.pointer (some ⟨e.β b,oo+fo,none⟩):=evF true
   have h3:(AA true true).eval (.tmp D.da)=v':=evA true true
   have hrun4':(Instr.storeAt D.th (.pointer (some ⟨e.β b,oo+fo,none⟩)) v').run G.P (WW true false)=.ok () w4:=hrun4
   simp only [a7,h2,h3,Sem.run_bind,hrun4',Result.andThen,Sem.run_pure] at h1
   cases h1;rfl
  subst hw4
  refine ⟨.normal,_,e2,_,hKF,rfl,by rw [← hsq];exact S4,?_,(((hL.trans st1.toLater).trans st2.toLater).trans (by rw [← hsq];exact st4.toLater)),?_,?_,?_⟩
  ·have F5:=F4.step st4
   rw [hsq] at F5
   rw [← hf4]
   exact F5
  ·show (((a.put (some D.da) v').put (some D.di) vI).put (some D.df) vF).tmps.size=N
   rw [put_size,put_size,put_size,hN]
  ·show Marks ds _ _ _ (((a.put (some D.da) v').put (some D.di) vI).put (some D.df) vF).defers
   rw [put_defers,put_defers,put_defers,← hsq]
   exact ((hds.later st1.toLater).later st2.toLater).later st4.toLater
  ·exact hdz _ _ _ h4.oF a10 _ _ (hdz _ _ _ h4.oI a9 _ _ (hdz _ _ _ oA a8 _ _ hZ))
 have hgd:∀i b,i<ops.size→listed.getD i b=listed.getD i false:=fun i b hi=>by
  have hlt':i<listed.size:=by rw [hsz];exact hi
  simp [Array.getD,hlt']
 have hnl:∀k,k<ops.size→m≤k→listed.getD k false=false:=fun k hk hm=>by
  cases hv:listed.getD k false with
  | false=>rfl
  | true=>have:=(hli k hk).1 hv;omega
 refine ⟨fun hr=>?_,fun j hj=>?_⟩
 ·exfalso
  have:m∈Region.ready .any ops listed:=mem_ready.2 ⟨by rw [hgd _ _ (by omega)];exact hnl m (by omega) (Nat.le_refl _),h.A,oA,fun ed he hb=>(hli _ (by have:=eA ed he hb;omega)).2 (eA ed he hb)⟩
  rw [hr] at this;cases this
 ·obtain ⟨h1,o,ho,hall⟩:=mem_ready.1 hj
  have hlt:=(Array.getElem?_eq_some_iff.1 ho).1
  rw [hgd _ _ hlt] at h1
  have hjm:j=m:=by
   have hge:m≤j:=by
    apply Classical.byContradiction
    intro hn
    rw [(hli j hlt).2 (by omega)] at h1;cases h1
   have no:∀(o':Oper) (q:Nat),o=o'→(∃ed∈o'.after,Region.binds .any ed=true∧ed.on=q)→m≤q→q<ops.size→False:=fun o' q ho' hex hq1 hq2=>by
    subst ho'
    obtain ⟨ed,he,hb,hon⟩:=hex
    have:=hall ed he hb
    rw [hon,hnl q hq2 hq1] at this;cases this
   apply Classical.byContradiction
   intro hne
   have:j=m+1∨j=m+2∨j=m+3∨j=m+4:=by omega
   rcases this with rfl | rfl | rfl | rfl
   ·rw [h4.oI] at ho;exact no h.I m (Option.some.inj ho).symm eIA (Nat.le_refl _) (by omega)
   ·rw [h4.oS] at ho;exact no h.S (m+1) (Option.some.inj ho).symm h4.eSI (by omega) (by omega)
   ·rw [h4.oF] at ho;exact no h.F m (Option.some.inj ho).symm eFA (Nat.le_refl _) (by omega)
   ·rw [h4.oH] at ho;exact no h.H (m+3) (Option.some.inj ho).symm h4.eHF (by omega) (by omega)
  subst hjm
  have hndA:∀c,h.A.op≠.defer c:=fun c hc=>by rw [a3] at hc;cases hc
  have hexA:(execOp a.eval h.A).run G.P w=.ok (.value v') w1:=by
   have hargs:args=#[D.s,D.z]:=by rw [← Array.toArray_toList (xs:=args),a1]
   have hats:at'=#[D.t,D.tx]:=by rw [← Array.toArray_toList (xs:=at'),a2]
   subst hargs
   subst hats
   unfold execOp
   simp only [a3,resolve,invoke,builtin,Sem.run_bind,Sem.run_pure,Result.andThen]
   rw [show Array.map a.eval #[D.s,D.z]=#[a.eval D.s,a.eval D.z] from by simp,hrunA]
  refine op_step oA gA hndA (.inl hexA) ?_
  rw [a8]
  refine hole4 h4 (A:=AA) (W:=WW) rI pI rF pF rS pS rH pH hfin 4 false false false false rfl (fun h=>by cases h) (fun h=>by cases h) _ (by simpa using hsz) fun q hq=>?_
  by_cases hqm:q=j
  ·subst hqm
   have hlt':q<listed.size:=by rw [hsz];exact hq
   simp [Array.getD,hlt']
  ·have:(listed.setIfInBounds j true).getD q false=listed.getD q false:=getD_set_ne false (Ne.symm hqm)
   rw [this,hli q hq]
   constructor
   ·intro h;exact ⟨by omega,by omega,by omega,by omega⟩
   ·rintro ⟨x1,x2,x3,x4⟩
    have g1:q≠j+1:=fun e=>by cases x1 e
    have g2:q≠j+2:=fun e=>by cases x2 e
    have g3:q≠j+3:=fun e=>by cases x3 e
    have g4:q≠j+4:=fun e=>by cases x4 e
    omega
theorem hasEdge_spec {m:Nat} {l:List Edge} (h:hasEdge m l=true):∃ed∈l,Region.binds .any ed=true∧ed.on=m:=by
 simp only [hasEdge,List.any_eq_true,Bool.and_eq_true] at h
 obtain ⟨ed,h1,h2,h3⟩:=h
 exact ⟨ed,h1,h2,Nat.eq_of_beq_eq_true h3⟩
theorem hasAll_spec {l:List Edge}:∀{n:Nat},hasAll n l=true→∀p,p<n→∃ed∈l,Region.binds .any ed=true∧ed.on=p
 | 0,_,p,hp=>by omega
 | n+1,h,p,hp=>by
  simp only [hasAll,Bool.and_eq_true] at h
  by_cases hpn:p=n
  ·subst hpn;exact hasEdge_spec h.1
  ·exact hasAll_spec h.2 p (by omega)
theorem edgesUpTo_spec {m:Nat} {l:List Edge} (h:edgesUpTo m l=true):∀ed∈l,Region.binds .any ed=true→ed.on≤m:=fun ed he hb=>by
 have:=List.all_eq_true.1 h ed he
 rw [hb] at this
 exact Nat.le_of_ble_eq_true (by simpa using this)
theorem noGuard_spec {o:Oper} (h:noGuard o=true):o.guard=none:=by
 unfold noGuard at h
 split at h
 ·assumption
 ·cases h
theorem hole_sound (hC:CxOK G C ro e0 σ0 w0) (hM:CxMono C) {ops:Array Oper} (hd:∀o,o∈ops→∀d,o.dst=some d→d<N∧∀t v,Z t→Z (t.setIfInBounds d v)) {h:Hole} (hh:holeIn ops.toList=some h) (hok:holeOK ops.toList h=true)
  {e:Env} {σ:St} {w:World} {a:Act} {f:Frame} (hS:SRel G e σ w) (hF:FRel G e σ w f a.tmps) (hL:Later e0 σ0 w0 e σ w) (hN:a.tmps.size=N) (hds:Marks ds e σ w a.defers) (hZ:Z a.tmps)
  (hW:popsI C ops.toList (masks ops.toList []) (holeQ C ops.toList h Q) (canonF h.pre.length (numbered 0 h.pre)) [] f σ) :
  wpAnyIn (fw ro) n G.P .any ops (PostOf G e0 σ0 w0 ds N Z Q) ops.size (Array.replicate ops.size false) a w:=by
 have hops:=holeIn_spec hh
 simp only [holeOK,Bool.and_eq_true] at hok
 obtain ⟨⟨⟨⟨⟨⟨⟨⟨⟨⟨⟨⟨⟨⟨⟨⟨⟨⟨⟨⟨k1,k2⟩,k3⟩,k4⟩,k5⟩,k6⟩,k7⟩,k8⟩,k9⟩,k10⟩,k11⟩,k12⟩,k13⟩,k14⟩,k15⟩,k16⟩,k17⟩,k18⟩,k19⟩,k20⟩,k21⟩:=hok
 cases hD:holeD h with
 | none=>rw [hD] at k1;cases k1
 | some D =>
 obtain ⟨args,at',a1,a2,a3,a4,a5,a6,a7,a8,a9,a10,a11,a12,b1,b2,b3,n1,n2,n3⟩:=holeD_spec hD
 generalize hm:h.pre.length=m at *
 have hsize:ops.size=m+5:=by rw [← Array.length_toList,hops];simp [hm]
 have at5:∀k,k<5→ops[m+k]?=[h.A,h.I,h.S,h.F,h.H][k]?:=fun k hk=>by
  rw [← Array.getElem?_toList,hops,List.getElem?_append_right (by omega),hm];simp
 have oA:ops[m]?=some h.A:=at5 0 (by omega)
 have h4:Hole4 ops m h.I h.S h.F h.H:={
  size:=hsize
  oI:=at5 1 (by omega)
  oS:=at5 2 (by omega)
  oF:=at5 3 (by omega)
  oH:=at5 4 (by omega)
  gI:=noGuard_spec k3
  gS:=noGuard_spec k4
  gF:=noGuard_spec k5
  gH:=noGuard_spec k6
  nI:=fun c hc=>by rw [a4] at hc;cases hc
  nS:=fun c hc=>by rw [a5] at hc;cases hc
  nF:=fun c hc=>by rw [a6] at hc;cases hc
  nH:=fun c hc=>by rw [a7] at hc;cases hc
  eI:=fun ed he hb=>edgesUpTo_spec k7 ed (Array.mem_def.1 he) hb
  eF:=fun ed he hb=>edgesUpTo_spec k8 ed (Array.mem_def.1 he) hb
  eS:=fun ed he hb=>edgesUpTo_spec k9 ed (Array.mem_def.1 he) hb
  eH:=fun ed he hb=>by
   have:=List.all_eq_true.1 k10 ed (Array.mem_def.1 he)
   rw [hb] at this
   simp only [Bool.not_true,Bool.false_or,Bool.or_eq_true] at this
   rcases this with h | h
   ·exact .inl (Nat.le_of_ble_eq_true h)
   ·exact .inr (Nat.eq_of_beq_eq_true h)
  eSI:=let ⟨ed,h1,h2⟩:=hasEdge_spec k11;⟨ed,Array.mem_def.2 h1,h2⟩
  eHF:=let ⟨ed,h1,h2⟩:=hasEdge_spec k12;⟨ed,Array.mem_def.2 h1,h2⟩ }
 have eIA:∃ed∈h.I.after,Region.binds .any ed=true∧ed.on=m:=let ⟨ed,h1,h2⟩:=hasEdge_spec k13;⟨ed,Array.mem_def.2 h1,h2⟩
 have eFA:∃ed∈h.F.after,Region.binds .any ed=true∧ed.on=m:=let ⟨ed,h1,h2⟩:=hasEdge_spec k14;⟨ed,Array.mem_def.2 h1,h2⟩
 have hm1:1≤m:=Nat.le_of_ble_eq_true k17
 have eA:∀ed∈h.A.after,Region.binds .any ed=true→ed.on<m:=fun ed he hb=>by
  cases m with
  | zero=>omega
  | succ k=>have:=edgesUpTo_spec k16 ed (Array.mem_def.1 he) hb;omega
 have hmem:∀p∈canonF m (numbered 0 h.pre),p.1<m∧ops[p.1]?=some p.2:=fun p hp=>by
  have h1:=(numbered_mem (canonF_mem hp)).2
  simp only [Nat.sub_zero] at h1
  have h2:=(List.getElem?_eq_some_iff.1 h1).1
  rw [hm] at h2
  exact ⟨h2,by rw [← Array.getElem?_toList,hops,List.getElem?_append_left (by omega)];exact h1⟩
 have hcov:∀k,k<m→∃p∈canonF m (numbered 0 h.pre),p.1=k:=fun k hk=>covers_spec k20 k hk
 have hlen:(canonF m (numbered 0 h.pre)).length=m:=Nat.eq_of_beq_eq_true k18
 have:=any_soundT (n:=n) hC hM hd (m:=m) (t:=5) (QQ:=PostOf G e0 σ0 w0 ds N Z Q) (ms:=masks ops.toList []) (fun i o hi ho=>by
   obtain ⟨p,hp,rfl⟩:=hcov i hi
   have:=(hmem p hp).2
   rw [ho] at this
   cases this
   exact masksOK_spec k21 p hp) hsize (fun j o hj ho=>by
   have hlt:=(Array.getElem?_eq_some_iff.1 ho).1
   have:j=m∨j=m+1∨j=m+2∨j=m+3∨j=m+4:=by omega
   rcases this with rfl | rfl | rfl | rfl | rfl
   ·rw [oA] at ho;cases ho
    exact .inl fun p hp=>let ⟨ed,h1,h2⟩:=hasAll_spec k15 p hp;⟨ed,Array.mem_def.2 h1,h2⟩
   ·rw [h4.oI] at ho;cases ho
    obtain ⟨ed,h1,h2,h3⟩:=eIA
    exact .inr ⟨ed,h1,h2,by omega,by omega⟩
   ·rw [h4.oS] at ho;cases ho
    obtain ⟨ed,h1,h2,h3⟩:=h4.eSI
    exact .inr ⟨ed,h1,h2,by omega,by omega⟩
   ·rw [h4.oF] at ho;cases ho
    obtain ⟨ed,h1,h2,h3⟩:=eFA
    exact .inr ⟨ed,h1,h2,by omega,by omega⟩
   ·rw [h4.oH] at ho;cases ho
    obtain ⟨ed,h1,h2,h3⟩:=h4.eHF
    exact .inr ⟨ed,h1,h2,by omega,by omega⟩)
  (fun x a w hx hp=>by
   cases x with
   | normal=>exact absurd rfl hx
   | _ =>
    obtain ⟨pe,f',e',σ',hq,hxr,hrest⟩:=hp
    refine ⟨pe,f',e',σ',?_,hxr,hrest⟩
    cases pe <;> first | exact hq | (cases hxr;done) | (obtain ⟨_,hxr,_⟩:=hxr;cases hxr))
  (fun listed a w hsz hli hp=>hole_end hC hd hD h4 oA (noGuard_spec k2) eA eIA eFA hsz hli hp)
  m (canonF m (numbered 0 h.pre)) hlen (fun p hp=>(hmem p hp).1) (fun p hp=>(hmem p hp).2) (pairOK_spec k19).1 (fun p hp e he hb=>(pairOK_spec k19).2 p hp e he hb)
  (listed:=Array.replicate ops.size false) (by simp) (fun k hk=>by
   have:(Array.replicate ops.size false).getD k false=false:=by simp [Array.getD]
   rw [this]
   simp only [Bool.false_eq_true,false_iff]
   rintro ⟨hkm,hh⟩
   obtain ⟨p,hp,he⟩:=hcov k hkm
   exact hh p hp he) (fun j hjm hj p hp=>by
   obtain ⟨q,hq,he⟩:=hcov j hjm
   exact absurd he (hj q hq)) hS hF hL hN hds hZ hW
 rw [hsize] at this ⊢
 exact this
end
end Go.PM
end

section
namespace Go.PM
theorem waits_iff {o:Oper}:∀{left:List (Nat×Oper)},waits o left=true↔∃p∈left,∃ed∈o.after,Region.binds .any ed=true∧ed.on=p.1
 | []=>by simp [waits]
 | (i,p)::l=>by
  unfold waits
  rw [Bool.or_eq_true,waits_iff (left:=l)]
  constructor
  ·rintro (h | ⟨q,hq,h⟩)
   ·simp only [List.any_eq_true,Bool.and_eq_true] at h
    obtain ⟨ed,h1,h2,h3⟩:=h
    exact ⟨(i,p),by simp,ed,Array.mem_def.2 h1,h2,Nat.eq_of_beq_eq_true h3⟩
   ·exact ⟨q,by simp [hq],h⟩
  ·rintro ⟨q,hq,ed,h1,h2,h3⟩
   rcases List.mem_cons.1 hq with rfl | hq
   ·left
    simp only [List.any_eq_true,Bool.and_eq_true]
    exact ⟨ed,Array.mem_def.1 h1,h2,by simp at h3;subst h3;simp⟩
   ·exact .inr ⟨q,hq,ed,h1,h2,h3⟩
theorem pickQ_some {left:List (Nat×Oper)}:∀{l:List (Nat×Oper)} {p:Nat×Oper},pickQ left l=some p→p∈l∧isEff p.2.op=false∧waits p.2 left=false
 | [],p,h=>by cases h
 | (i,o)::l,p,h=>by
  unfold pickQ at h
  split at h
  ·rename_i h1 h2;cases h;exact ⟨by simp,h1,h2⟩
  ·obtain ⟨h1,h2⟩:=pickQ_some h;exact ⟨List.mem_cons_of_mem _ h1,h2⟩
theorem pickQ_none {left:List (Nat×Oper)}:∀{l:List (Nat×Oper)},pickQ left l=none→∀p∈l,isEff p.2.op=false→waits p.2 left=true
 | [],h,p,hp,_=>by cases hp
 | (i,o)::l,h,p,hp,he=>by
  unfold pickQ at h
  split at h
  ·cases h
  ·rename_i hno
   rcases List.mem_cons.1 hp with rfl | hp
   ·cases hw:waits o left with
    | true=>rfl
    | false=>exact (hno he hw).elim
   ·exact pickQ_none h p hp he
theorem conjE_iff {left:List (Nat×Oper)} {X:Nat→Oper→Prop}:∀{l:List (Nat×Oper)},conjE left l X↔∀p∈l,waits p.2 left=false→X p.1 p.2
 | []=>by simp [conjE]
 | (i,o)::l=>by
  unfold conjE
  cases hw:waits o left with
  | true => simp only [conjE_iff (l := l)]; constructor
            ·intro h p hp hwp
             rcases List.mem_cons.1 hp with rfl | hp
             ·simp only at hwp;rw [hw] at hwp;cases hwp
             ·exact h p hp hwp
            ·exact fun h p hp=>h p (List.mem_cons_of_mem _ hp)
  | false => simp only [conjE_iff (l := l)]; constructor
             ·rintro ⟨h1,h2⟩ p hp hwp
              rcases List.mem_cons.1 hp with rfl | hp
              ·exact h1
              ·exact h2 p hp hwp
             ·exact fun h=>⟨h (i,o) (by simp) hw,fun p hp=>h p (List.mem_cons_of_mem _ hp)⟩
theorem dropI_iff {i:Nat}:∀{l:List (Nat×Oper)},l.Pairwise (fun a b=>a.1≠b.1)→∀p,p∈dropI i l↔p∈l∧p.1≠i
 | [],_,p=>by simp [dropI]
 | (j,o)::l,hp,p=>by
  have h1:=List.pairwise_cons.1 hp
  unfold dropI
  split
  ·rename_i hb
   have:=Nat.eq_of_beq_eq_true hb
   subst this
   constructor
   ·exact fun h=>⟨List.mem_cons_of_mem _ h,fun e=>h1.1 p h e.symm⟩
   ·rintro ⟨h,hne⟩
    rcases List.mem_cons.1 h with rfl | h
    ·exact absurd rfl hne
    ·exact h
  ·rename_i hb
   have hne:i≠j:=fun e=>by subst e;simp at hb
   rw [List.mem_cons,List.mem_cons,dropI_iff h1.2]
   constructor
   ·rintro (rfl | h)
    ·exact ⟨.inl rfl,fun e=>hne e.symm⟩
    ·exact ⟨.inr h.1,h.2⟩
   ·rintro ⟨rfl | h,h2⟩
    ·exact .inl rfl
    ·exact .inr ⟨h,h2⟩
theorem dropI_pw {i:Nat}:∀{l:List (Nat×Oper)},l.Pairwise (fun a b=>a.1≠b.1)→(dropI i l).Pairwise (fun a b=>a.1≠b.1)
 | [],h=>h
 | (j,o)::l,h=>by
  have h1:=List.pairwise_cons.1 h
  unfold dropI
  split
  ·exact h1.2
  ·exact List.Pairwise.cons (fun p hp=>h1.1 p (dropI_mem hp)) (dropI_pw h1.2)
theorem dropI_len {i:Nat} {o:Oper}:∀{l:List (Nat×Oper)},(i,o)∈l→(dropI i l).length+1=l.length
 | [],h=>by cases h
 | (j,p)::l,h=>by
  unfold dropI
  split
  ·rfl
  ·rename_i hb
   rcases List.mem_cons.1 h with h | h
   ·cases h;simp at hb
   ·rw [List.length_cons,dropI_len h];rfl
theorem dropI_comm {i j:Nat}:∀{l:List (Nat×Oper)},dropI i (dropI j l)=dropI j (dropI i l)
 | []=>rfl
 | (k,o)::l=>by
  by_cases h1:j=k
  ·subst h1
   by_cases h2:i=j
   ·subst h2;rfl
   ·have hb:Nat.beq i j=false:=by cases h:Nat.beq i j with | false=>rfl | true=>exact absurd (Nat.eq_of_beq_eq_true h) h2
    simp [dropI,hb]
  ·have hb:Nat.beq j k=false:=by cases h:Nat.beq j k with | false=>rfl | true=>exact absurd (Nat.eq_of_beq_eq_true h) h1
   by_cases h2:i=k
   ·subst h2;simp [dropI,hb]
   ·have hc:Nat.beq i k=false:=by cases h:Nat.beq i k with | false=>rfl | true=>exact absurd (Nat.eq_of_beq_eq_true h) h2
    simp [dropI,hb,hc,dropI_comm (l:=l)]
section
variable {C:Cx} {all:List Oper} {ms:List Nat} {Q:PQ} {f:Frame} {σ:St}
theorem stepI_mono (hM:CxMono C) {i:Nat} {o:Oper} {ctx:List Ld} {K K':List Ld→Frame→St→Prop} (hK:∀c f σ,K c f σ→K' c f σ) (h:stepI C all ms Q i o ctx f σ K):stepI C all ms Q i o ctx f σ K':=by
 unfold stepI at h ⊢
 refine pstep_mono hM (fun f' σ' hk=>?_) h
 cases hE:isEff o.op with
 | true=>simp only [hE] at hk ⊢;rw [chkL_iff] at hk ⊢;exact ⟨hk.1,hK _ _ _ hk.2⟩
 | false=>simp only [hE] at hk ⊢;exact hK _ _ _ hk
theorem popsA_ctx (hM:CxMono C):∀(n:Nat) (l:List (Nat×Oper)) (c c':List Ld) (f:Frame) (σ:St),(∀d,d∈c'→d∈c)→popsA C all ms Q n l c f σ→popsA C all ms Q n l c' f σ
 | 0,[],_,_,_,_,_,h=>h
 | _+1,[],_,_,_,_,_,h=>h
 | 0,_::_,_,_,_,_,_,h=>h.elim
 | n+1,x::l,c,c',f,σ,hs,h=>by
  unfold popsA at h ⊢
  split at h
  ·exact stepI_ctx hM hs (fun c c' f σ=>popsA_ctx hM n _ c c' f σ) h
  ·rw [conjE_iff] at h ⊢
   exact fun p hp hw=>stepI_ctx hM hs (fun c c' f σ=>popsA_ctx hM n _ c c' f σ) (h p hp hw)
structure Rem (all:List Oper) (ms:List Nat) (L:List (Nat×Oper)):Prop where
 pw:L.Pairwise (fun a b=>a.1≠b.1)
 msk:∀p∈L,ms.getD p.1 0=maskOf ms p.2.after.toList 0
 apart:∀p∈L,∀q∈L,p.1≠q.1→isEff p.2.op=false→anc ms p.1 q.1=false→anc ms q.1 p.1=false→apartB all p.2 q.2=true
 down:∀j,(∀p∈L,p.1≠j)→∀q∈L,anc ms q.1 j=false
theorem Rem.noanc {L:List (Nat×Oper)} (h:Rem all ms L) {p:Nat×Oper} (hp:p∈L) (hw:waits p.2 L=false):∀q∈L,anc ms q.1 p.1=false:=fun q hq=>by
 cases ha:anc ms q.1 p.1 with
 | false=>rfl
 | true =>
  exfalso
  unfold anc at ha
  rw [h.msk p hp] at ha
  rcases maskOf_bit ha with h2 | ⟨ed,he,hb,h2⟩
  ·simp at h2
  ·have hno:∀x∈L,x.1≠ed.on:=fun x hx e=>by
    have:waits p.2 L=true:=waits_iff.2 ⟨x,hx,ed,Array.mem_def.2 he,hb,e.symm⟩
    rw [hw] at this;cases this
   rcases h2 with h2 | h2
   ·exact hno q hq h2.symm
   ·rw [h.down ed.on hno q hq] at h2;cases h2
theorem Rem.drop {L:List (Nat×Oper)} (h:Rem all ms L) {p:Nat×Oper} (hp:p∈L) (hw:waits p.2 L=false):Rem all ms (dropI p.1 L) where
 pw:=dropI_pw h.pw
 msk:=fun q hq=>h.msk q (dropI_mem hq)
 apart:=fun a ha b hb=>h.apart a (dropI_mem ha) b (dropI_mem hb)
 down:=fun j hj q hq=>by
  by_cases hjp:j=p.1
  ·subst hjp;exact h.noanc hp hw q (dropI_mem hq)
  ·refine h.down j (fun x hx e=>?_) q (dropI_mem hq)
   exact hj x ((dropI_iff h.pw x).2 ⟨hx,fun e2=>hjp (e.symm.trans e2)⟩) e
theorem waits_drop {o:Oper} {i:Nat} {L:List (Nat×Oper)} (h:waits o L=false):waits o (dropI i L)=false:=by
 cases hw:waits o (dropI i L) with
 | false=>rfl
 | true =>
  obtain ⟨p,hp,hr⟩:=waits_iff.1 hw
  rw [waits_iff.2 ⟨p,dropI_mem hp,hr⟩] at h;cases h
theorem same_of {L:List (Nat×Oper)} (h:L.Pairwise (fun a b=>a.1≠b.1)) {p q:Nat×Oper} (hp:p∈L) (hq:q∈L) (he:p.1=q.1):p=q:=by
 induction L with
 | nil=>cases hp
 | cons x l ih =>
  have h1:=List.pairwise_cons.1 h
  rcases List.mem_cons.1 hp with hp1 | hp1 <;> rcases List.mem_cons.1 hq with hq1 | hq1
  ·rw [hp1,hq1]
  ·exact absurd (hp1 ▸ he) (h1.1 q hq1)
  ·exact absurd (hq1 ▸ he.symm) (h1.1 p hp1)
  ·exact ih h1.2 hp1 hq1
theorem popsA_two (hM:CxMono C):∀(k:Nat),(∀(L:List (Nat×Oper)),L.length=k+1→Rem all ms L→∀p∈L,waits p.2 L=false→∀ctx f σ,popsA C all ms Q (k+1) L ctx f σ→stepI C all ms Q p.1 p.2 ctx f σ (popsA C all ms Q k (dropI p.1 L))) ∧
  (∀(L:List (Nat×Oper)),L.length=k+1→Rem all ms L→∀p∈L,isEff p.2.op=false→waits p.2 L=false→∀ctx f σ,stepI C all ms Q p.1 p.2 ctx f σ (popsA C all ms Q k (dropI p.1 L))→popsA C all ms Q (k+1) L ctx f σ):=by
 intro k
 induction k with
 | zero =>
  have one:∀(L:List (Nat×Oper)),L.length=0+1→∀p∈L,L=[p]:=fun L hl p hp=>by
   cases L with
   | nil=>cases hp
   | cons x l =>
    cases l with
    | nil=>rw [List.mem_singleton.1 hp]
    | cons y l=>simp at hl
  refine ⟨fun L hl hR p hp hw ctx f σ h=>?_,fun L hl hR p hp he hw ctx f σ h=>?_⟩
  ·obtain rfl:=one L hl p hp
   unfold popsA at h
   split at h
   ·rename_i i o hpk
    have:=(pickQ_some hpk).1
    simp at this
    subst this
    exact h
   ·exact (conjE_iff.1 h) p hp hw
  ·obtain rfl:=one L hl p hp
   unfold popsA
   split
   ·rename_i i o hpk
    have:=(pickQ_some hpk).1
    simp at this
    subst this
    exact h
   ·rename_i hpk
    have:=pickQ_none hpk p hp he
    rw [hw] at this;cases this
 | succ k ih =>
  obtain ⟨ihA,ihB⟩:=ih
  refine ⟨fun L hl hR p hp hw ctx f σ h=>?_,fun L hl hR p hp he hw ctx f σ h=>?_⟩
  ·cases L with
   | nil=>cases hp
   | cons x l =>
   unfold popsA at h
   split at h
   ·rename_i j q hpk
    obtain ⟨g1,g2,g3⟩:=pickQ_some hpk
    by_cases hj:j=p.1
    ·have:=same_of hR.pw g1 hp hj
     subst this
     exact h
    ·have hpd:p∈dropI j (x::l):=(dropI_iff hR.pw p).2 ⟨hp,fun e=>hj e.symm⟩
     have hjd:(j,q)∈dropI p.1 (x::l):=(dropI_iff hR.pw (j,q)).2 ⟨g1,hj⟩
     have hlen:(dropI j (x::l)).length=k+1:=by have:=dropI_len g1;omega
     have hlen2:(dropI p.1 (x::l)).length=k+1:=by have:=dropI_len (o:=p.2) hp;omega
     have h2:=stepI_mono hM (fun c f σ hk=>ihA _ hlen (hR.drop g1 g3) p hpd (waits_drop hw) c f σ hk) h
     have h3:=swap hM (fun c c' f σ=>popsA_ctx hM k _ c c' f σ) g2 (hR.apart _ g1 _ hp hj g2 (hR.noanc hp hw _ g1) (hR.noanc g1 g3 _ hp)) (hR.noanc hp hw _ g1) h2
     rw [dropI_comm] at h3
     exact stepI_mono hM (fun c f σ hk=>ihB _ hlen2 (hR.drop hp hw) (j,q) hjd g2 (waits_drop g3) c f σ hk) h3
   ·exact (conjE_iff.1 h) p hp hw
  ·cases L with
   | nil=>cases hp
   | cons x l =>
   unfold popsA
   split
   ·rename_i j q hpk
    obtain ⟨g1,g2,g3⟩:=pickQ_some hpk
    by_cases hj:j=p.1
    ·have:=same_of hR.pw g1 hp hj
     subst this
     exact h
    ·have hpd:p∈dropI j (x::l):=(dropI_iff hR.pw p).2 ⟨hp,fun e=>hj e.symm⟩
     have hjd:(j,q)∈dropI p.1 (x::l):=(dropI_iff hR.pw (j,q)).2 ⟨g1,hj⟩
     have hlen:(dropI j (x::l)).length=k+1:=by have:=dropI_len g1;omega
     have hlen2:(dropI p.1 (x::l)).length=k+1:=by have:=dropI_len (o:=p.2) hp;omega
     have h2:=stepI_mono hM (fun c f σ hk=>ihA _ hlen2 (hR.drop hp hw) (j,q) hjd (waits_drop g3) c f σ hk) h
     have h3:=swap hM (fun c c' f σ=>popsA_ctx hM k _ c c' f σ) he (hR.apart _ hp _ g1 (fun e=>hj e.symm) he (hR.noanc g1 g3 _ hp) (hR.noanc hp hw _ g1)) (hR.noanc g1 g3 _ hp) h2
     rw [dropI_comm] at h3
     exact stepI_mono hM (fun c f σ hk=>ihB _ hlen (hR.drop g1 g3) p hpd he (waits_drop hw) c f σ hk) h3
   ·rename_i hpk
    have:=pickQ_none hpk p hp he
    rw [hw] at this;cases this
end
def edgesLt (i:Nat) (l:List Edge):Bool:=l.all fun ed=>!(Region.binds .any ed) || Nat.ble (ed.on+1) i
def apartAll (all:List Oper) (ms:List Nat) (L:List (Nat×Oper)):Bool :=
 L.all fun p=>L.all fun q=>Nat.beq p.1 q.1 || isEff p.2.op || anc ms p.1 q.1 || anc ms q.1 p.1 || apartB all p.2 q.2
def ordOK (ops:List Oper):Bool :=
 let ms:=masks ops []
 let L:=numbered 0 ops
 masksOK ms L && (L.all fun p=>edgesLt p.1 p.2.after.toList) && apartAll ops ms L
theorem numbered_pw:∀{l:List Oper} {i:Nat},(numbered i l).Pairwise (fun a b=>a.1≠b.1)
 | [],_=>List.Pairwise.nil
 | o::l,i=>List.Pairwise.cons (fun p hp=>by have:=(numbered_mem hp).1;simp only;omega) numbered_pw
theorem numbered_len:∀{l:List Oper} {i:Nat},(numbered i l).length=l.length
 | [],_=>rfl
 | o::l,i=>by simp [numbered,numbered_len (l:=l)]
theorem numbered_cov:∀{l:List Oper} {i k:Nat} {o:Oper},l[k]?=some o→(i+k,o)∈numbered i l
 | [],_,_,_,h=>by simp at h
 | x::l,i,k,o,h=>by
  unfold numbered
  cases k with
  | zero=>simp at h;subst h;simp
  | succ k =>
   have:=numbered_cov (l:=l) (i:=i+1) (k:=k) (o:=o) (by simpa using h)
   rw [show i+(k+1)=i+1+k by omega]
   exact List.mem_cons_of_mem _ this
section
variable {G:GE} {C:Cx} {e0 e:Env} {σ0 σ:St} {w0 w:World} {a:Act} {f:Frame} {Q:PQ} {ro:Option Nat} {n:Nat} {ds:Nat×List Deferred×Bool} {N:Nat} {Z:Array Value→Prop}
theorem ord_any (hC:CxOK G C ro e0 σ0 w0) (hM:CxMono C) {ops:Array Oper} (hd:∀o,o∈ops→∀d,o.dst=some d→d<N∧∀t v,Z t→Z (t.setIfInBounds d v)) {ms:List Nat} :
  ∀(k:Nat) (L:List (Nat×Oper)),L.length=k→Rem ops.toList ms L→(∀p∈L,ops[p.1]?=some p.2)→(∀p∈L,∀ed∈p.2.after,Region.binds .any ed=true→ed.on<p.1) →
  ∀{listed:Array Bool},listed.size=ops.size→(∀k,k<ops.size→(listed.getD k false=true↔∀p∈L,p.1≠k)) →
  ∀{ctx:List Ld} {e:Env} {σ:St} {w:World} {a:Act} {f:Frame},SRel G e σ w→FRel G e σ w f a.tmps→Later e0 σ0 w0 e σ w→a.tmps.size=N→Marks ds e σ w a.defers→Z a.tmps→popsA C ops.toList ms Q k L ctx f σ →
  wpAnyIn (fw ro) n G.P .any ops (PostOf G e0 σ0 w0 ds N Z Q) k listed a w
 | 0,L,hl,hR,hget,hed,listed,hsz,hli,ctx,e,σ,w,a,f,hS,hF,hL,hN,hds,hZ,h=>by
  have hl0:L=[]:=List.length_eq_zero_iff.1 hl
  subst hl0
  refine ⟨?_,⟨.normal,f,e,σ,h,rfl,hS,hF,hL,hN,hds,hZ⟩⟩
  rw [List.eq_nil_iff_forall_not_mem]
  intro i hi
  obtain ⟨h1,o,ho,_⟩:=mem_ready.1 hi
  have hlt:=(Array.getElem?_eq_some_iff.1 ho).1
  have:=(hli i hlt).2 (fun p hp=>by cases hp)
  have hlt':i<listed.size:=by rw [hsz];exact hlt
  simp [Array.getD,hlt'] at this h1
  rw [this] at h1;cases h1
 | k+1,L,hl,hR,hget,hed,listed,hsz,hli,ctx,e,σ,w,a,f,hS,hF,hL,hN,hds,hZ,h=>by
  have hgd:∀i b,i<ops.size→listed.getD i b=listed.getD i false:=fun i b hi=>by
   have hlt':i<listed.size:=by rw [hsz];exact hi
   simp [Array.getD,hlt']
  have hnl:∀p∈L,listed.getD p.1 true=false:=fun p hp=>by
   have hlt:=(Array.getElem?_eq_some_iff.1 (hget p hp)).1
   rw [hgd _ _ hlt]
   cases hv:listed.getD p.1 false with
   | false=>rfl
   | true=>exact absurd rfl ((hli p.1 hlt).1 hv p hp)
  refine ⟨fun hr=>?_,fun i hi=>?_⟩
  ·exfalso
   have:∀(m:Nat),∀p∈L,p.1≤m→False:=by
    intro m
    induction m with
    | zero =>
     intro p hp hm
     have hlt:=(Array.getElem?_eq_some_iff.1 (hget p hp)).1
     have:p.1∈Region.ready .any ops listed:=mem_ready.2 ⟨hnl p hp,p.2,hget p hp,fun ed he hb=>by have:=hed p hp ed he hb;omega⟩
     rw [hr] at this;cases this
    | succ m ih =>
     intro p hp hm
     have hlt:=(Array.getElem?_eq_some_iff.1 (hget p hp)).1
     have:p.1∈Region.ready .any ops listed:=mem_ready.2 ⟨hnl p hp,p.2,hget p hp,fun ed he hb=>(hli ed.on (by have:=hed p hp ed he hb;omega)).2 fun q hq e=>by
      have:=hed p hp ed he hb
      exact ih q hq (by omega)⟩
     rw [hr] at this;cases this
   cases L with
   | nil=>simp at hl
   | cons x l=>exact this x.1 x (by simp) (Nat.le_refl _)
  ·obtain ⟨h1,o,ho,hall⟩:=mem_ready.1 hi
   have hlt:=(Array.getElem?_eq_some_iff.1 ho).1
   rw [hgd _ _ hlt] at h1
   have hmem:∃p∈L,p.1=i:=by
    apply Classical.byContradiction
    intro hno
    have:=(hli i hlt).2 (fun p hp e=>hno ⟨p,hp,e⟩)
    rw [h1] at this;cases this
   obtain ⟨p,hpl,rfl⟩:=hmem
   have hpo:p.2=o:=by have:=hget p hpl;rw [ho] at this;exact (Option.some.inj this).symm
   subst hpo
   have hw:waits p.2 L=false:=by
    cases hv:waits p.2 L with
    | false=>rfl
    | true =>
     obtain ⟨q,hq,ed,he,hb,hon⟩:=waits_iff.1 hv
     have hq2:=(Array.getElem?_eq_some_iff.1 (hget q hq)).1
     have:=(hli q.1 hq2).1 (by rw [← hon];exact hall ed he hb)
     exact absurd rfl (this q hq)
   have hfront:=(popsA_two hM k).1 L hl hR p hpl hw ctx f σ h
   have hstep:=pstep_sound (ro:=ro) (n:=n) hC hS hF hL hN hds hZ (ops:=ops) (hd p.2 (Array.mem_of_getElem? ho)) hfront
   have hlen:(dropI p.1 L).length=k:=by have:=dropI_len (o:=p.2) hpl;omega
   have next:∀a' w',KRel G e0 σ0 w0 ds N Z (fun f' σ'=>∃c,popsA C ops.toList ms Q k (dropI p.1 L) c f' σ') a' w'→wpAnyIn (fw ro) n G.P .any ops (PostOf G e0 σ0 w0 ds N Z Q) k (listed.setIfInBounds p.1 true) a' w':=fun a' w' ⟨f',e',σ',⟨c,hk1⟩,h2,h3,h4,h5,h6,h7⟩=>by
    refine ord_any hC hM hd k (dropI p.1 L) hlen (hR.drop hpl hw) (fun x hx=>hget x (dropI_mem hx)) (fun x hx=>hed x (dropI_mem hx)) (by simpa using hsz) (fun k hk=>?_) h2 h3 h4 h5 h6 h7 hk1
    by_cases hki:k=p.1
    ·subst hki
     have hlt':p.1<listed.size:=by rw [hsz];exact hlt
     have:(listed.setIfInBounds p.1 true).getD p.1 false=true:=by simp [Array.getD,hlt']
     simp only [this,true_iff]
     exact fun x hx=>((dropI_iff hR.pw x).1 hx).2
    ·have:(listed.setIfInBounds p.1 true).getD k false=listed.getD k false:=getD_set_ne false (Ne.symm hki)
     rw [this,hli k hk]
     constructor
     ·exact fun hh x hx=>hh x (dropI_mem hx)
     ·intro hh x hx hxk
      exact hh x ((dropI_iff hR.pw x).2 ⟨hx,fun e2=>hki (hxk.symm.trans e2)⟩) hxk
   have hK:∀a' w',KRel G e0 σ0 w0 ds N Z (fun f' σ'=>match isEff p.2.op with | true=>chkL ms p.1 σ.bx σ'.bx ctx (popsA C ops.toList ms Q k (dropI p.1 L) ctx f' σ') | false=>popsA C ops.toList ms Q k (dropI p.1 L) (addLd C.T p.2 p.1 f ctx) f' σ') a' w' →
     KRel G e0 σ0 w0 ds N Z (fun f' σ'=>∃c,popsA C ops.toList ms Q k (dropI p.1 L) c f' σ') a' w':=fun a' w' ⟨f',e',σ',hk,hrest⟩=>by
    refine ⟨f',e',σ',?_,hrest⟩
    cases hE:isEff p.2.op with
    | true=>rw [hE] at hk;exact ⟨_,(chkL_iff.1 hk).2⟩
    | false=>rw [hE] at hk;exact ⟨_,hk⟩
   unfold wpOpIn
   rw [ho]
   dsimp only
   split at hstep
   ·rename_i hw
    rw [if_pos hw]
    exact Oper.wpIn_mono (fun a w h=>next a w (hK a w h)) hstep
   ·rename_i hw
    rw [if_neg hw]
    exact ⟨fun _ _=>trivial,next _ _ (hK _ _ hstep)⟩
theorem ord_sound (hC:CxOK G C ro e0 σ0 w0) (hM:CxMono C) {ops:Array Oper} (hd:∀o,o∈ops→∀d,o.dst=some d→d<N∧∀t v,Z t→Z (t.setIfInBounds d v)) (hok:ordOK ops.toList=true)
  (hS:SRel G e σ w) (hF:FRel G e σ w f a.tmps) (hL:Later e0 σ0 w0 e σ w) (hN:a.tmps.size=N) (hds:Marks ds e σ w a.defers) (hZ:Z a.tmps) (h:popsA C ops.toList (masks ops.toList []) Q ops.toList.length (numbered 0 ops.toList) [] f σ) :
  wpAnyIn (fw ro) n G.P .any ops (PostOf G e0 σ0 w0 ds N Z Q) ops.size (Array.replicate ops.size false) a w:=by
 simp only [ordOK,Bool.and_eq_true] at hok
 obtain ⟨⟨k1,k2⟩,k3⟩:=hok
 have hget:∀p∈numbered 0 ops.toList,ops[p.1]?=some p.2:=fun p hp=>by
  have:=(numbered_mem hp).2
  rw [← Array.getElem?_toList];simpa using this
 have hcov:∀k,k<ops.size→∃p∈numbered 0 ops.toList,p.1=k:=fun k hk=>⟨_,numbered_cov (i:=0) (k:=k) (o:=ops[k]) (by rw [Array.getElem?_toList,Array.getElem?_eq_getElem hk]),by simp⟩
 have hlen:ops.toList.length=ops.size:=Array.length_toList
 rw [hlen] at h
 refine ord_any hC hM hd ops.size (numbered 0 ops.toList) (by rw [numbered_len,hlen]) ⟨numbered_pw,masksOK_spec k1,fun p hp q hq hne he h1 h2=>?_,fun j hj q hq=>?_⟩ hget (fun p hp ed he hb=>?_) (by simp) (fun k hk=>?_) hS hF hL hN hds hZ h
 ·have:=List.all_eq_true.1 (List.all_eq_true.1 k3 p hp) q hq
  simp only [Bool.or_eq_true] at this
  rcases this with (((h | h) | h) | h) | h
  ·exact absurd (Nat.eq_of_beq_eq_true h) hne
  ·rw [he] at h;cases h
  ·rw [h1] at h;cases h
  ·rw [h2] at h;cases h
  ·exact h
 ·by_cases hj':j<ops.size
  ·obtain ⟨p,hp,he⟩:=hcov j hj'
   exact absurd he (hj p hp)
  ·unfold anc
   have:(masks ops.toList []).length=ops.size:=by
    have:∀(l:List Oper) (acc:List Nat),(masks l acc).length=acc.length+l.length:=by
     intro l
     induction l with
     | nil=>intro acc;rfl
     | cons o l ih=>intro acc;rw [masks,ih];simp;omega
    rw [this];simp
   rw [List.getD_eq_getElem?_getD,List.getElem?_eq_none (by omega)]
   simp
 ·have:=List.all_eq_true.1 (List.all_eq_true.1 k2 p hp) ed (Array.mem_def.1 he)
  rw [hb] at this
  exact Nat.le_of_ble_eq_true (by simpa using this)
 ·have:(Array.replicate ops.size false).getD k false=false:=by simp [Array.getD]
  rw [this]
  simp only [Bool.false_eq_true,false_iff]
  obtain ⟨p,hp,he⟩:=hcov k hk
  exact fun hh=>hh p hp he
end
end Go.PM
end
