/- A part of the proof: plain logic, contracts and laws over the given program. -/
import Derived.Laws.AppendOwn
import Derived.Below
import Derived.Laws.StructEq
import Derived.Laws.Pointers
import Derived.Laws.Cover3
import Derived.Laws.Cells
import Derived.Laws.Slices
import Derived.Laws.Strings
import GoSem.Dispatch
import Derived.Laws.BytesString
import Derived.Test.YtkoicjdlpkaopaaGreatDoorU00
set_option linter.unusedVariables false
set_option linter.unusedSimpArgs false
set_option linter.all false
set_option maxRecDepth 100000
set_option maxHeartbeats 16000000
section
namespace Go.PM
open Go.RowKit
inductive DRel (ok:Nat->Nat->Prop) (w:World):D->Value->Prop
 | bool (b:Bool):DRel ok w (.bool b) (.bool b)
 | int (k:IntKind) (n:Int):DRel ok w (.int k n) (.int k n)
 | str (s:List UInt8):DRel ok w (.str s) (.string ⟨s.toArray⟩)
 | nilp:DRel ok w .nilp (.pointer none)
 | nilf:DRel ok w .nilf .nilFunc
 | nili:DRel ok w .nili .nilIface
 | slnil:DRel ok w (.sl []) (.slice none 0 0)
 | slz (a:Addr):DRel ok w (.sl []) (.slice (some a) 0 0)
 | sl (rows:List (List D)) (b off cap sz:Nat) (u:Nat->Nat->Value) (hcap:rows.length<=cap) (hsz:∀r∈rows,r.length=sz)
   (hc:∀i j,i<rows.length->j<sz->w.cell? ⟨b,off+i * sz+j,none⟩=some (u i j))
   (ho:∀i j,i<rows.length->j<sz->ok b (off+i * sz+j))
   (hu:∀(i j:Nat) (x:D),(rows[i]?.bind (·[j]?))=some x->DRel ok w x (u i j)):DRel ok w (.sl rows) (.slice (some ⟨b,off,none⟩) rows.length cap)
structure GE where
 P:Program
 w0:World
 nG:Nat
structure Env where
 β:Nat->Nat
 M:Nat->Option (Nat×Nat)
 X:Nat->Nat->Prop
def okc (e:Env) (σ:St) (b off:Nat):Prop :=
 ¬e.X b off/\(∀i,i<σ.bx.length->e.β i≠b)/\∀t,t∈σ.tk->∀p,e.M t=some p->p.1=b->off<p.2
def Owned (G:GE) (e:Env) (w:World) (t el:Nat) (rows:List (List D)) (v:Value):Prop :=
 (v=.slice none 0 0/\rows=[]/\e.M t=none) \/
 ∃ sz, (G.P.info? el).map (·.size) = some sz /\ 0 < sz /\ (∀ r ∈ rows, r.length = sz) /\
    ∃b off cap cs ty fz,v=.slice (some ⟨b,off,none⟩) rows.length cap/\G.nG<=b/\rows.length<=cap/\w.heap[b]?=some (.cells cs ty fz)/\(off+cap * sz<=cs.size/\off=0/\ty=el/\0<cap) /\
     (fz.1<=fz.2/\∀o,off+rows.length * sz<=o->fz.1<=o->fz.2<=o)/\e.M t=some (b,off+rows.length * sz)
inductive VRel (G:GE) (e:Env) (σ:St) (w:World):PV->Value->Prop
 | d (x:D) (v:Value) (h:DRel (okc e σ) w x v):VRel G e σ w (.d x) v
 | undef (v:Value):VRel G e σ w .undef v
 | ptr (b off:Nat) (h:b<σ.bx.length):VRel G e σ w (.ptr b off) (.pointer (some ⟨e.β b,off,none⟩))
 | elem (r:List D) (off b o:Nat) (u:Nat->Value) (hc:∀j,j<r.length->w.cell? ⟨b,o+j,none⟩=some (u j)) (ho:∀j,j<r.length->okc e σ b (o+j))
   (hu:∀(j:Nat) (x:D),r[j]?=some x->DRel (okc e σ) w x (u j)):VRel G e σ w (.elem r off) (.pointer (some ⟨b,o+off,none⟩))
 | sl (t el:Nat) (rows:List (List D)) (v:Value) (hn:t<σ.nx) (hd:DRel (okc e σ) w (.sl rows) v) (ht:t∈σ.tk->Owned G e w t el rows v):VRel G e σ w (.sl t el rows) v
 | nils (el:Nat):VRel G e σ w (.nils el) (.slice none 0 0)
 | asl (b off n:Nat) (h:b<σ.bx.length):VRel G e σ w (.asl b off n) (.slice (some ⟨e.β b,off,none⟩) n n)
 | func (f:FuncId) (a c:List PV) (va vc:Array Value) (ha:va.size=a.length) (hc:vc.size=c.length) (h1:∀(i:Nat) (x:PV) (u:Value),a[i]?=some x->va[i]?=some u->VRel G e σ w x u)
   (h2:∀(i:Nat) (x:PV) (u:Value),c[i]?=some x->vc[i]?=some u->VRel G e σ w x u):VRel G e σ w (.func f a c) (.func (.func f) va vc)
 | iface (t:TypeId) (x:PV) (v:Value) (h:VRel G e σ w x v):VRel G e σ w (.iface t x) (.iface t v)
 | agg (cs:List PV) (vs:Array Value) (hs:vs.size=cs.length) (h:∀(i:Nat) (x:PV) (u:Value),cs[i]?=some x->vs[i]?=some u->VRel G e σ w x u) (h1:∀u∈vs,u.oneCell'=true):VRel G e σ w (.agg cs) (.agg vs)
 | tuple (cs:List PV) (vs:Array Value) (hs:vs.size=cs.length) (h:∀(i:Nat) (x:PV) (u:Value),cs[i]?=some x->vs[i]?=some u->VRel G e σ w x u):VRel G e σ w (.tuple cs) (.tuple vs)
 | raw (v:Value):VRel G e σ w (.raw v) v
theorem DRel.mono {ok ok':Nat->Nat->Prop} {w w':World} {x:D} {v:Value} (h:DRel ok w x v)
  (hp:∀b off u,w.cell? ⟨b,off,none⟩=some u->ok b off->ok' b off/\w'.cell? ⟨b,off,none⟩=some u):DRel ok' w' x v:=by
 induction h with
 | bool b=>exact .bool b
 | int k n=>exact .int k n
 | str s=>exact .str s
 | nilp=>exact .nilp
 | nilf=>exact .nilf
 | nili=>exact .nili
 | slnil=>exact .slnil
 | slz a=>exact .slz a
 | sl rows b off cap sz u hcap hsz hc ho _ ih =>
 exact .sl rows b off cap sz u hcap hsz (fun i j hi hj=>(hp _ _ _ (hc i j hi hj) (ho i j hi hj)).2) (fun i j hi hj=>(hp _ _ _ (hc i j hi hj) (ho i j hi hj)).1)
  (fun i j x hx=>ih i j x hx)
structure Later (e:Env) (σ:St) (w:World) (e':Env) (σ':St) (w':World):Prop where
 len:σ.bx.length<=σ'.bx.length
 beta:∀i,i<σ.bx.length->e'.β i=e.β i
 X:e'.X=e.X
 pres:∀b off u,w.cell? ⟨b,off,none⟩=some u->okc e σ b off->okc e' σ' b off/\w'.cell? ⟨b,off,none⟩=some u
 blocks:∀b,b<w.heap.size->(∀i,i<σ.bx.length->e.β i≠b)->(∀t,t∈σ.tk->∀p,e.M t=some p->p.1≠b)->w'.heap[b]?=w.heap[b]?
 size:w.heap.size<=w'.heap.size
 os:w'.os=w.os
 tape:w'.tape=w.tape
 output:w'.output=w.output
 fresh:∀i,σ.bx.length<=i->i<σ'.bx.length->w.heap.size<=e'.β i
 ftok:∀t,t∈σ'.tk->∀p,e'.M t=some p->w.heap.size<=p.1\/∃t0,t0∈σ.tk/\∃p0,e.M t0=some p0/\p0.1=p.1
structure Stepped (e:Env) (σ:St) (w:World) (e':Env) (σ':St) (w':World):Prop extends Later e σ w e' σ' w' where
 nx:σ.nx<=σ'.nx
 toks:∀t,t<σ.nx->t∈σ'.tk->t∈σ.tk/\e'.M t=e.M t
 own:∀t,t<σ.nx->t∈σ'.tk->∀p,e.M t=some p->p.1<w.heap.size->w'.heap[p.1]?=w.heap[p.1]?
theorem Uo {w:World} {b off:Nat} {u:Value} (h:w.cell? ⟨b,off,none⟩=some u):b<w.heap.size:=World.block_lt_of_cell? w ⟨b,off,none⟩ h
theorem DRel.later {e:Env} {σ:St} {w:World} {e':Env} {σ':St} {w':World} {x:D} {v:Value} (h:DRel (okc e σ) w x v) (hl:Later e σ w e' σ' w'):DRel (okc e' σ') w' x v :=
 h.mono fun b off u hc ho=>hl.pres b off u hc ho
theorem Later.refl (e:Env) (σ:St) (w:World):Later e σ w e σ w:=⟨Tr _,fun _ _=>rfl,rfl,fun _ _ _ hc h=>⟨h,hc⟩,fun _ _ _ _=>rfl,Tr _,rfl,rfl,rfl,fun i h1 h2=>oM,fun t ht p hp=>.inr ⟨t,ht,p,hp,rfl⟩⟩
theorem Later.trans {e0 e1 e2:Env} {σ0 σ1 σ2:St} {w0 w1 w2:World} (h:Later e0 σ0 w0 e1 σ1 w1) (k:Later e1 σ1 w1 e2 σ2 w2):Later e0 σ0 w0 e2 σ2 w2 where
 len:=TW h.len k.len
 beta:=fun i hi=>(k.beta i (TH hi h.len)).trans (h.beta i hi)
 X:=k.X.trans h.X
 pres:=fun b off u hu ho=>let ⟨h1,h2⟩:=h.pres b off u hu ho;k.pres b off u h2 h1
 blocks:=fun b hb hn ht=>(k.blocks b (TH hb h.size) (fun i hi=>by
   by_cases hi0:i<σ0.bx.length
   ·rw [h.beta i hi0];exact hn i hi0
   ·have:=h.fresh i oM hi;omega) (fun t htm p hp=>by
   rcases h.ftok t htm p hp with h1 | ⟨t0,ht0,p0,ol,h1⟩
   ·omega
   rw [<- h1];exact ht t0 ht0 p0 ol)).trans (h.blocks b hb hn ht)
 size:=TW h.size k.size
 os:=k.os.trans h.os
 tape:=k.tape.trans h.tape
 output:=k.output.trans h.output
 fresh:=fun i h1 h2=>by
  by_cases hi:i<σ1.bx.length
  ·rw [k.beta i hi];exact h.fresh i h1 hi
  exact TW h.size (k.fresh i oM h2)
 ftok:=fun t ht p hp=>by
  rcases k.ftok t ht p hp with h1 | ⟨t1,fi,p1,qu,h1⟩
  ·exact .inl (TW h.size h1)
  rcases h.ftok t1 fi p1 qu with h2 | ⟨t0,ht0,p0,ol,h2⟩
  ·exact .inl (by rw [<- h1];exact h2)
  exact .inr ⟨t0,ht0,p0,ol,h2.trans h1⟩
theorem Stepped.refl (e:Env) (σ:St) (w:World):Stepped e σ w e σ w:={ Later.refl e σ w with nx:=Tr _,toks:=fun _ _ h=>⟨h,rfl⟩,own:=fun _ _ _ _ _ _=>rfl }
theorem Owned.step {G:GE} {e:Env} {σ:St} {w:World} {e':Env} {σ':St} {w':World} {t el:Nat} {rows:List (List D)} {v:Value} (h:Owned G e w t el rows v)
  (hs:Stepped e σ w e' σ' w') (hn:t<σ.nx) (ht:t∈σ'.tk):Owned G e' w' t el rows v:=by
 rcases h with ⟨rfl,hr,hm⟩ | ⟨sz,h1,h2,h3,b,off,cap,cs,ty,fz,rfl,hb,hc,hh,hsz,ky,hm⟩
 ·exact .inl ⟨rfl,hr,(hs.toks t hn ht).2.trans hm⟩
 exact .inr ⟨sz,h1,h2,h3,b,off,cap,cs,ty,fz,rfl,hb,hc,(hs.own t hn ht _ hm (Tq.1 hh).1).trans hh,hsz,ky,(hs.toks t hn ht).2.trans hm⟩
theorem VRel.step {G:GE} {e:Env} {σ:St} {w:World} {e':Env} {σ':St} {w':World} {x:PV} {v:Value} (h:VRel G e σ w x v) (hs:Stepped e σ w e' σ' w'):VRel G e' σ' w' x v:=by
 induction h with
 | d x v h=>exact .d x v (h.later hs.toLater)
 | undef v=>exact .undef v
 | ptr b off h=>rw [<- hs.beta b h];exact .ptr b off (TH h hs.len)
 | elem r off b o u hc ho hu =>
  exact .elem r off b o u (fun j hj=>(hs.pres b _ _ (hc j hj) (ho j hj)).2) (fun j hj=>(hs.pres b _ _ (hc j hj) (ho j hj)).1)
   (fun j x hx=>(hu j x hx).later hs.toLater)
 | sl t el rows v hn hd ht=>exact .sl t el rows v (TH hn hs.nx) (hd.later hs.toLater) fun h=>(ht (hs.toks t hn h).1).step hs hn h
 | nils el=>exact .nils el
 | asl b off n h=>rw [<- hs.beta b h];exact .asl b off n (TH h hs.len)
 | func f a c va vc ha hc _ _ ih1 ih2=>exact .func f a c va vc ha hc ih1 ih2
 | iface t x v _ ih=>exact .iface t x v ih
 | agg cs vs om _ h1 ih=>exact .agg cs vs om ih h1
 | tuple cs vs om _ ih=>exact .tuple cs vs om ih
 | raw v=>exact .raw v
def BRel (G:GE) (e:Env) (σ:St) (w:World):Box->Nat->Prop
 | .cells t cs,b=>∃vs:Array Value,w.heap[b]?=some (.cells vs t (0,0))/\vs.size=cs.length/\∀(i:Nat) (x:PV) (u:Value),cs[i]?=some x->vs[i]?=some u->VRel G e σ w x u/\u.oneCell'=true
 | .iter s pos,b=>w.heap[b]?=some (.stringIter ⟨s.toArray⟩ pos)
 | .loop st pd r,b=>w.heap[b]?=some (.loop { r with state:=st,pending:=pd })
structure SRel (G:GE) (e:Env) (σ:St) (w:World):Prop where
 inj:∀i j,i<σ.bx.length->j<σ.bx.length->e.β i=e.β j->i=j
 box:∀i x,σ.bx[i]?=some x->BRel G e σ w x (e.β i)
 low:∀i,i<σ.bx.length->G.nG<=e.β i
 tkn:∀t,t∈σ.tk->t<σ.nx
 own:∀t,t∈σ.tk->∀p,e.M t=some p->G.nG<=p.1/\(∀i,i<σ.bx.length->e.β i≠p.1)/\∃cs ty fz,w.heap[p.1]?=some (.cells cs ty fz)
 dis:∀t t',t∈σ.tk->t'∈σ.tk->t≠t'->∀p p',e.M t=some p->e.M t'=some p'->p.1≠p'.1
 xlt:∀b off,e.X b off->b<w.heap.size
 xown:∀t,t∈σ.tk->∀p,e.M t=some p->∀off,p.2<=off->¬e.X p.1 off
 glob:∀b,b<G.nG->w.heap[b]?=G.w0.heap[b]?
 big:G.nG<=w.heap.size
theorem SRel.lt {G:GE} {e:Env} {σ:St} {w:World} (h:SRel G e σ w) {i:Nat} (hi:i<σ.bx.length):e.β i<w.heap.size:=by
 have:=h.box i _ (Ti hi);generalize σ.bx[i]=x at this
 cases x with
 | cells t cs=>obtain ⟨vs,hv,_⟩:=this;exact (Tq.1 hv).1
 | iter s p=>exact (Tq.1 this).1
 | loop st pd r=>exact (Tq.1 this).1
theorem BRel.step {G:GE} {e:Env} {σ:St} {w:World} {e':Env} {σ':St} {w':World} {x:Box} {b:Nat} (h:BRel G e σ w x b) (hs:Stepped e σ w e' σ' w') (hb:w'.heap[b]?=w.heap[b]?):BRel G e' σ' w' x b:=by
 cases x with
 | cells t cs =>
  obtain ⟨vs,h1,h2,h3⟩:=h;exact ⟨vs,hb.trans h1,h2,fun i x u hx hu=>⟨(h3 i x u hx hu).1.step hs,(h3 i x u hx hu).2⟩⟩
 | iter s p=>exact Eq.trans hb h
 | loop st pd r=>exact Eq.trans hb h
def FRel (G:GE) (e:Env) (σ:St) (w:World) (f:Frame) (tmps:Array Value):Prop:=∀i,VRel G e σ w (f i) (tmps.getD i Go.undef)
theorem FRel.step {G:GE} {e:Env} {σ:St} {w:World} {e':Env} {σ':St} {w':World} {f:Frame} {tmps:Array Value} (h:FRel G e σ w f tmps) (hs:Stepped e σ w e' σ' w'):FRel G e' σ' w' f tmps :=
 fun i=>(h i).step hs
theorem YY (f:Frame) (i:Nat) (v:PV):JH f i v i=v:=by simp [JH]
theorem X1 (f:Frame) {i j:Nat} (v:PV) (h:i≠j):JH f i v j=f j:=by
 have:Nat.beq i j=false:=by
  cases h':Nat.beq i j
  ·rfl
  exact absurd (Tn h') h
 simp [JH,this]
def YK (f:Frame) (d:Option Nat) (v:PV):Frame:=match d with | some i=>JH f i v | none=>f
theorem FRel.put {G:GE} {e:Env} {σ:St} {w:World} {f:Frame} {a:Act} (h:FRel G e σ w f a.tmps) {d:Option Nat} {x:PV} {v:Value} (hv:VRel G e σ w x v) (hd:∀i,d=some i->i<a.tmps.size) :
  FRel G e σ w (YK f d x) (a.put d v).tmps:=by
 cases d with
 | none=>exact h
 | some i =>
 intro j
 have hi:=hd i rfl;simp only [Act.put,YK]
 by_cases km:i=j
 ·subst km;rw [YY];simpa [hi] using hv
 rw [X1 f x km];have:=h j;simpa [T5,km] using this
theorem Zb7 (G:GE) (e:Env) (σ:St) (w:World) (v:Value):VRel G e σ w (Zcz v) v:=by
 unfold Zcz
 split
 ·exact .d _ _ (.bool _)
 ·exact .d _ _ (.int _ _)
 ·rename_i s;exact .d _ _ (.str _)
 ·exact .d _ _ .nilp
 ·exact .nils 0
 ·exact .d _ _ .nilf
 ·exact .d _ _ .nili
 exact .raw _
theorem Zmv {v:Value} (h:Zy9 v=true):v.oneCell'=true:=by cases v <;> first | rfl | (simp [Zy9] at h)
theorem Zib (G:GE) (e:Env) (σ:St) (w:World) (v:Value):VRel G e σ w (Zh7 v) v:=by
 unfold Zh7
 split
 ·rename_i cs
  split
  ·rename_i h
   refine .agg _ cs sM (fun i x u hx hu=>?_) fun u hu=>Zmv (Tm.1 h u (Array.mem_toList_iff.2 hu))
   rw [TL,TA,hu] at hx
   cases hx
   exact Zb7 G e σ w u
  exact .raw _
 exact Zb7 G e σ w v
theorem Zb8 {G:GE} {e:Env} {σ:St} {w:World} {f:Frame} {a:Act} (h:FRel G e σ w f a.tmps) (x:Operand):VRel G e σ w (ev f x) (a.eval x):=by
 cases x with
 | tmp t=>exact h t
 | const v=>exact Zib G e σ w v
 | global g=>exact .undef _
 | func g=>exact .func g [] [] #[] #[] rfl rfl (fun i x u hx=>by simp at hx) (fun i x u hx=>by simp at hx)
end Go.PM
end

section
namespace Go.PM
def Zmw:D->Value->Bool
 | .bool a,.bool b=>a == b
 | .int k a,.int k' b=>keq k k' && (a == b)
 | .str s,.string t=>s == t.data.toList
 | .nilp,.pointer none=>true
 | .nilf,.nilFunc=>true
 | .nili,.nilIface=>true
 | _,_=>false
def ZtE:PV->Value->Bool
 | .d x,v=>Zmw x v
 | .nils _,.slice none 0 0=>true
 | _,_=>false
def Zmx:List PV->List Value->Bool
 | [],[]=>true
 | x::l,v::m=>ZtE x v && Zmx l m
 | _,_=>false
def Zft (P:Program):List (Nat×Nat)->List Field->Bool
 | [],[]=>true
 | (o,t)::l,f::m=>Nat.beq o f.offset && Nat.beq t f.type && (match P.info? t with | some i=>Nat.ble 1 i.size | none=>false) && Zft P l m
 | _,_=>false
def ZtF (P:Program):TK->TypeDesc->Bool
 | .int k,.int k'=>keq k k'
 | .bool,.bool=>true
 | .string,.string=>true
 | .ptr e,.pointer e'=>Nat.beq e e'
 | .slice e,.slice e'=>Nat.beq e e'
 | .array n e,.array n' e'=>Nat.beq n n' && Nat.beq e e'
 | .struct fs,.struct gs=>Zft P fs gs.toList
 | .func,.func _ _ _=>true
 | .iface,.interface _=>true
 | _,_=>false
def eqB (P:Program) (t:Nat) (d:TypeDesc):Bool:=match d with
 | .struct gs => gs.toList.all (fun f => f.name != "_") && !P.stoodInHeld t && !P.eqGuardType P.depth t
 | .int _=>match P.info? t with | some i=>i.comparable | none=>false
 | _=>false
def Zmy (P:Program) (t:Nat) (v:TI):Bool:=match v.kind with
 | .other=>true
 | k=>match P.info? t,P.underlying t with
  | some i,some d=>Nat.beq i.size v.size && Nat.beq i.bytes v.bytes && ZtF P k d && Nat.beq v.zero.length v.size && (k.isAgg || Nat.beq v.size 1) && (!v.eqok || eqB P t d) && (match i.zero with | some z=>Zmx v.zero z.cells.toList | none=>false)
  | _,_=>false
def Tab.all (p:Nat->TI->Bool):Tab->Bool
 | .leaf=>true
 | .node l k v r=>p k v && (l.all p && r.all p)
theorem ZBQ {p:Nat->TI->Bool}:∀{T:Tab},T.all p=true->∀t,T.get t=TI.no\/p t (T.get t)=true:=by
 intro T
 induction T with
 | leaf=>exact fun _ _=>.inl rfl
 | node l k v r ihl ihr =>
 intro h t
 simp only [Tab.all,Tk] at h;unfold Tab.get
 split
 ·rename_i hb
  have:t=k:=Tn hb;subst this;exact .inr h.1
 split
 ·exact ihl h.2.1 t
 exact ihr h.2.2 t
theorem ZcX {a b:IntKind} (h:keq a b=true):a=b:=by cases a <;> cases b <;> first | rfl | cases h
inductive FieldsOK (P:Program):List (Nat×Nat)->List Field->Prop
 | nil:FieldsOK P [] []
 | cons (o t:Nat) (l) (f:Field) (m) (i:TypeInfo) (ho:f.offset=o) (ht:f.type=t) (hi:P.info? t=some i) (hs:1<=i.size) (h:FieldsOK P l m):FieldsOK P ((o,t)::l) (f::m)
theorem ZeJ {P:Program}:∀{l:List (Nat×Nat)} {m:List Field},Zft P l m=true->FieldsOK P l m
 | [],[],_=>.nil
 | (o,t)::l,f::m,h=>by
  simp only [Zft,Tk] at h;obtain ⟨⟨⟨h1,h2⟩,h3⟩,h4⟩:=h
  cases hi:P.info? t with
  | none=>rw [hi] at h3;cases h3
  | some i =>
  rw [hi] at h3;exact .cons o t l f m i (Tn h1).symm (Tn h2).symm hi (Ta h3) (ZeJ h4)
 | [],_::_,h=>by cases h
 | _::_,[],h=>by cases h
theorem FieldsOK.get {P:Program} {l:List (Nat×Nat)} {m:List Field} (h:FieldsOK P l m):∀{i o t:Nat},l[i]?=some (o,t)->∃f j,m[i]?=some f/\f.offset=o/\f.type=t/\P.info? t=some j/\1<=j.size:=by
 induction h with
 | nil=>intro i o t h;simp at h
 | cons o t l f m j ho ht hi hs _ ih =>
 intro i o' t' h'
 cases i with
 | zero=>simp at h';obtain ⟨rfl,rfl⟩:=h';exact ⟨f,j,rfl,ho,ht,hi,hs⟩
 | succ i=>simpa using ih (by simpa using h')
def KindOK (P:Program):TK->TypeDesc->Prop
 | .int k,d=>d=.int k
 | .bool,d=>d=.bool
 | .string,d=>d=.string
 | .ptr e,d=>d=.pointer e
 | .slice e,d=>d=.slice e
 | .array n e,d=>d=.array n e
 | .struct fs,d=>∃gs,d=.struct gs/\FieldsOK P fs gs.toList
 | .func,d=>∃a b c,d=.func a b c
 | .iface,d=>∃ms,d=.interface ms
 | .other,_=>False
theorem Zqs {P:Program} {k:TK} {d:TypeDesc} (h:ZtF P k d=true):KindOK P k d:=by
 cases k <;> cases d <;> simp only [ZtF,Tk] at h <;> first
  | (cases h;done)
  | rfl
  | (have:=ZcX h;subst this;rfl)
  | (have:=Tn h;subst this;rfl)
  | (have h1:=Tn h.1;have h2:=Tn h.2;subst h1;subst h2;rfl)
  | exact ⟨_,rfl,ZeJ h⟩
  | exact ⟨_,_,_,rfl⟩
  | exact ⟨_,rfl⟩
structure TIOK (P:Program) (t:Nat) (v:TI):Prop where
 ex:∃i d z,P.info? t=some i/\P.underlying t=some d/\i.size=v.size/\i.bytes=v.bytes/\KindOK P v.kind d/\i.zero=some z/\Zmx v.zero z.cells.toList=true/\v.zero.length=v.size/\(v.kind.isAgg=true\/v.size=1)/\(v.eqok=true->eqB P t d=true)
def TabOK (T:Tab) (P:Program):Prop:=T.all (Zmy P)=true
theorem TabOK.get {T:Tab} {P:Program} (h:TabOK T P) {t:Nat} (hk:(T.get t).kind≠.other):TIOK P t (T.get t):=by
 rcases ZBQ h t with h1 | h1
 ·rw [h1] at hk;exact absurd rfl hk
 refine ⟨?_⟩;unfold Zmy at h1
 split at h1
 ·rename_i h2;exact absurd h2 hk
 split at h1
 ·rename_i i d hi hd
  simp only [Tk] at h1;obtain ⟨⟨⟨⟨⟨⟨h2,h3⟩,h4⟩,h6⟩,h7⟩,h8⟩,h5⟩:=h1;split at h5
  ·rename_i z hz
   exact ⟨i,d,z,hi,hd,Tn h2,Tn h3,Zqs h4,hz,h5,Tn h6,by
    rw [Sb] at h7;exact h7.imp id Tn,fun he=>by
    rw [he] at h8;simpa using h8⟩
  cases h5
 cases h1
theorem TabOK.one {T:Tab} {P:Program} (h:TabOK T P) {t:Nat} (hk:(T.get t).kind≠.other) (ha:(T.get t).kind.isAgg=false):(T.get t).size=1:=by
 obtain ⟨i,d,z,_,_,_,_,_,_,_,_,h1,_⟩:=(h.get hk).ex;exact h1.resolve_left (by rw [ha];simp)
theorem ZgJ {ok:Nat->Nat->Prop} {w:World} {x:D} {v:Value} (h:Zmw x v=true):DRel ok w x v/\v.oneCell'=true:=by
 cases x <;> cases v <;> try (first | (cases h;done) | (rename_i a;cases a <;> first | (cases h;done) | exact ⟨.nilp,rfl⟩))
 ·rename_i a b;have:a=b:=by simpa [Zmw] using h
  subst this;exact ⟨.bool _,rfl⟩
 ·rename_i k a k' b
  simp only [Zmw,Tk] at h;have h1:=ZcX h.1;have h2:a=b:=by simpa using h.2
  subst h1;subst h2;exact ⟨.int _ _,rfl⟩
 ·rename_i s t
  have:s=t.data.toList:=by simpa [Zmw] using h
  subst this;exact ⟨.str _,rfl⟩
 ·exact ⟨.nilf,rfl⟩
 exact ⟨.nili,rfl⟩
theorem Zmz {G:GE} {e:Env} {σ:St} {w:World} {x:PV} {v:Value} (h:ZtE x v=true):VRel G e σ w x v/\v.oneCell'=true:=by
 cases x with
 | d x=>exact ⟨.d _ _ (ZgJ h).1,(ZgJ (ok:=okc e σ) (w:=w) h).2⟩
 | nils el =>
  unfold ZtE at h
  split at h <;> first | (cases h;done) | skip
  ·rename_i cz;cases cz
  exact ⟨.nils _,rfl⟩
 | _=>cases h
theorem W7 {G:GE} {e:Env} {σ:St} {w:World}:∀{l:List PV} {m:List Value},Zmx l m=true->m.length=l.length/\∀(i:Nat) (x:PV) (u:Value),l[i]?=some x->m[i]?=some u->VRel G e σ w x u/\u.oneCell'=true
 | [],[],_=>⟨rfl,fun i x u h=>by simp at h⟩
 | x::l,v::m,h=>by
  simp only [Zmx,Tk] at h;obtain ⟨h1,h2⟩:=W7 (G:=G) (e:=e) (σ:=σ) (w:=w) h.2;refine ⟨by simp [h1],fun i x' u hx hu=>?_⟩
  cases i with
  | zero=>simp at hx hu;subst hx;subst hu;exact Zmz h.1
  | succ i=>exact h2 i x' u (by simpa using hx) (by simpa using hu)
 | [],_::_,h=>by cases h
 | _::_,[],h=>by cases h
end Go.PM
end

section
namespace Go.PM
section inv
variable {G:GE} {e:Env} {σ:St} {w:World} {v:Value}
theorem DRel.one {ok:Nat->Nat->Prop} {x:D} (h:DRel ok w x v):v.oneCell'=true:=by cases h <;> rfl
theorem VRel.dint {k:IntKind} {n:Int} (h:VRel G e σ w (.d (.int k n)) v):v=.int k n:=by cases h with | d _ _ h=>cases h;rfl
theorem VRel.dbool {b:Bool} (h:VRel G e σ w (.d (.bool b)) v):v=.bool b:=by cases h with | d _ _ h=>cases h;rfl
theorem VRel.dstr {s:List UInt8} (h:VRel G e σ w (.d (.str s)) v):v=.string ⟨s.toArray⟩:=by cases h with | d _ _ h=>cases h;rfl
theorem VRel.mkint {k:IntKind} {n:Int}:VRel G e σ w (.d (.int k n)) (.int k n):=.d _ _ (.int _ _)
theorem VRel.mkbool {b:Bool}:VRel G e σ w (.d (.bool b)) (.bool b):=.d _ _ (.bool _)
theorem VRel.mkstr {s:List UInt8}:VRel G e σ w (.d (.str s)) (.string ⟨s.toArray⟩):=.d _ _ (.str _)
theorem Up {x:PV} {y:D} (hy:toD x=some y) (h:VRel G e σ w x v):DRel (okc e σ) w y v:=by
 cases h with
 | d x v h=>cases hy;exact h
 | sl t el rows v hn hd _=>cases hy;exact hd
 | nils el=>cases hy;exact .slnil
 | _=>cases hy
theorem DRel.sl_inv {ok:Nat->Nat->Prop} {rows:List (List D)} (h:DRel ok w (.sl rows) v):∃a cap,v=.slice a rows.length cap/\rows.length<=cap:=by
 cases h with
 | slnil=>exact ⟨none,0,rfl,Tr _⟩
 | slz a=>exact ⟨some a,0,rfl,Tr _⟩
 | sl rows b off cap sz u hcap hsz hc ho hu=>exact ⟨some ⟨b,off,none⟩,cap,rfl,hcap⟩
end inv
theorem YB {P:Program} {t:TypeId} {i:TypeInfo} (h:P.info? t=some i) (w:World):(typeInfo t).run P w=.ok i w:=by simp [typeInfo,h]
theorem ZF {P:Program} {t:TypeId} {i:TypeInfo} (h:P.info? t=some i) (w:World):(sizeOf t).run P w=.ok i.size w:=by simp [sizeOf,YB h]
theorem Zc {P:Program} {t:TypeId} {d:TypeDesc} (h:P.underlying t=some d) (w:World):(underlying t).run P w=.ok d w:=by simp [underlying,h]
theorem Jg {P:Program} {k:TK} {d:TypeDesc} (h:KindOK P k d) {t:TypeId} (hd:P.underlying t=some d) (w:World):(isAgg t).run P w=.ok k.isAgg w:=by
 unfold isAgg
 simp only [Sem.run_bind,Zc hd,Result.andThen]
 cases k with
 | struct fs=>obtain ⟨gs,rfl,_⟩:=h;rfl
 | func=>obtain ⟨a,b,c,rfl⟩:=h;rfl
 | iface=>obtain ⟨ms,rfl⟩:=h;rfl
 | other=>cases h
 | _=>cases h;rfl
theorem VV {α:Type}:∀{n:Nat} {l r:List α},UK n l=some r->r.length=n/\∀i,i<n->l[i]?=r[i]?
 | 0,l,r,h=>by simp [UK] at h;subst h;exact ⟨rfl,fun i hi=>oM⟩
 | n+1,[],r,h=>by simp [UK] at h
 | n+1,x::l,r,h=>by
  simp only [UK] at h;split at h
  ·rename_i r' hr
   cases h
   obtain ⟨h1,h2⟩:=VV hr;refine ⟨by simp [h1],fun i hi=>?_⟩
   cases i with
   | zero=>rfl
   | succ i=>simpa using h2 i oM
  cases h
theorem Ym (b o i:Nat):(⟨b,o,none⟩:Addr).add i=⟨b,o+i,none⟩:=by
 unfold Addr.add
 split
 ·subst_vars;rfl
 rfl
theorem Vt {P:Program} {t:TypeId} {i:TypeInfo} {d:TypeDesc} {k:TK} (hi:P.info? t=some i) (hd:P.underlying t=some d) (hk:KindOK P k d) (w:World) (b o:Nat) (g:Nat->Value)
  (hc:∀j,j<(if k.isAgg then i.size else 1)->w.cell? ⟨b,o+j,none⟩=some (g j)) :
  (loadVar t ⟨b,o,none⟩).run P w=.ok (if k.isAgg then .agg ((List.range i.size).map g).toArray else g 0) w:=by
 unfold loadVar
 simp only [Sem.run_bind,Jg hk hd,Result.andThen]
 cases l5:k.isAgg with
 | true =>
  simp only [if_true,Sem.run_bind,ZF hi,Result.andThen];rw [run_loadCells w ⟨b,o,none⟩ i.size g (fun j hj=>by rw [Ym];exact hc j (by simp [l5,hj]))];rfl
 | false =>
 simp only [To,if_false,run_load];have:=hc 0 (by simp [l5]);simp only [Se] at this;rw [this]
section
variable {G:GE} {e:Env} {σ:St} {w:World}
theorem BRel.cell {t:TypeId} {cs:List PV} {b:Nat} (h:BRel G e σ w (.cells t cs) b) {o:Nat} {x:PV} (hx:cs[o]?=some x):∃u,w.cell? ⟨b,o,none⟩=some u/\VRel G e σ w x u/\u.oneCell'=true:=by
 obtain ⟨vs,h1,h2,h3⟩:=h;have ho:o<vs.size:=by rw [h2];exact (Tj.1 hx).1
 have hv:vs[o]?=some vs[o]:=TF ho;exact ⟨vs[o],by simp [World.cell?,h1,hv],(h3 o x _ hx hv).1,(h3 o x _ hx hv).2⟩
theorem ZeK {T:Tab} {K:PV->Prop} (hT:TabOK T G.P) (hS:SRel G e σ w) {t:TypeId} {x:PV} {v:Value} (hv:VRel G e σ w x v)
  (h:Zbm T t x σ.bx K):∃pv u,K pv/\VRel G e σ w pv u/\(Instr.loadAt t v).run G.P w=.ok u w:=by
 cases hv with
 | ptr b off hb =>
  simp only [Zbm] at h;split at h
  ·rename_i ty cs nr
   have hB:=hS.box b _ nr;split at h
   ·rename_i hk
    obtain ⟨i,d,z,hi,hd,hs,ff,bh,hz,ei,_⟩:=(hT.get (t:=t) (by intro h0;rw [h0] at hk;cases hk)).ex;split at h
    ·rename_i l hl
     obtain ⟨ww,ub⟩:=VV hl;have ba:∀j,j<i.size->∃u x,l[j]?=some x/\w.cell? ⟨e.β b,off+j,none⟩=some u/\VRel G e σ w x u/\u.oneCell'=true:=fun j hj=>by
      have h1:j<l.length:=oM;have h2:=ub j oM;rw [Ti h1,Sy] at h2;obtain ⟨u,hu1,xw,hu3⟩:=hB.cell h2;exact ⟨u,l[j],Ti h1,hu1,xw,hu3⟩
     have am:=Vt hi hd bh w (e.β b) off (fun j=>(w.cell? ⟨e.β b,off+j,none⟩).getD undef) (fun j hj=>by
      rw [hk] at hj;obtain ⟨u,x,_,hu,_⟩:=ba j hj;rw [hu];rfl)
     rw [hk] at am;refine ⟨_,_,h,?_,by simp only [Instr.loadAt,Instr.sureAddr,Sem.run_bind,Sem.run_pure,Result.andThen];exact am⟩;refine .agg _ _ (by simp [ww,hs]) (fun j x u hx hu=>?_) (fun u hu=>?_)
     ·have hj:j<i.size:=by have:=(Tj.1 hx).1;omega
      obtain ⟨u',x',gy,qe,hr,_⟩:=ba j hj;simp [hj,qe] at hu;rw [gy] at hx;cases hx;subst hu;exact hr
     simp only [List.mem_toArray,SC,List.mem_range] at hu;obtain ⟨j,hj,rfl⟩:=hu;obtain ⟨u',x',gy,qe,hr,h1⟩:=ba j hj;rw [qe];exact h1
    exact h.elim
   rename_i hk
   split at h
   ·exact h.elim
   rename_i cj
   obtain ⟨i,d,z,hi,hd,hs,ff,bh,hz,ei,_⟩:=(hT.get (t:=t) (fun h0=>cj h0)).ex;split at h
   ·rename_i y hy
    obtain ⟨u,hu1,xw,hu3⟩:=hB.cell hy;have am:=Vt hi hd bh w (e.β b) off (fun _=>u) (fun j hj=>by
     rw [hk] at hj;have:j=0:=by simpa using hj
     subst this;simpa using hu1)
    rw [hk] at am;exact ⟨_,_,h,xw,by simp only [Instr.loadAt,Instr.sureAddr,Sem.run_bind,Sem.run_pure,Result.andThen];exact am⟩
   exact h.elim
  exact h.elim
 | elem r off b o u hc ho hu =>
  simp only [Zbm] at h;split at h
  ·rename_i hk
   obtain ⟨i,d,z,hi,hd,hs,ff,bh,hz,ei,_⟩:=(hT.get (t:=t) (by intro h0;rw [h0] at hk;cases hk)).ex;split at h
   ·rename_i l hl
    obtain ⟨ww,ub⟩:=VV hl;have hrj:∀j,j<i.size->off+j<r.length/\r[off+j]?=l[j]?:=fun j hj=>by
     have h1:j<l.length:=oM;have h2:=ub j oM;rw [Sy] at h2;refine ⟨?_,h2⟩;rw [Ti h1] at h2;exact (Tj.1 h2).1
    have am:=Vt hi hd bh w b (o+off) (fun j=>u (off+j)) (fun j hj=>by
     rw [hk] at hj;have:=hc _ (hrj j hj).1
     rwa [<- Sg] at this)
    rw [hk] at am;refine ⟨_,_,h,?_,by simp only [Instr.loadAt,Instr.sureAddr,Sem.run_bind,Sem.run_pure,Result.andThen];exact am⟩;have qv:∀j x,j<i.size->l[j]?=some x->DRel (okc e σ) w x (u (off+j)):=fun j x hj hx=>hu (off+j) x (by rw [(hrj j hj).2];exact hx)
    refine .agg _ _ (by simp [ww,hs]) (fun j x v hx hv=>?_) (fun v hv=>?_)
    ·rw [TL] at hx
     cases hlj:l[j]? with
     | none=>rw [hlj] at hx;cases hx
     | some y =>
     rw [hlj] at hx;cases hx;have hj:j<i.size:=by have:=(Tj.1 hlj).1;omega
     simp [hj] at hv;subst hv;exact .d _ _ (qv j y hj hlj)
    simp only [List.mem_toArray,SC,List.mem_range] at hv;obtain ⟨j,hj,rfl⟩:=hv;have h1:j<l.length:=oM;exact (qv j _ hj (Ti h1)).one
   exact h.elim
  rename_i hk
  split at h
  ·exact h.elim
  rename_i cj
  obtain ⟨i,d,z,hi,hd,hs,ff,bh,hz,ei,_⟩:=(hT.get (t:=t) (fun h0=>cj h0)).ex;split at h
  ·rename_i y hy
   have ah:=(Tj.1 hy).1;have am:=Vt hi hd bh w b (o+off) (fun _=>u off) (fun j hj=>by
    rw [hk] at hj;have:j=0:=by simpa using hj
    subst this;simpa using hc off ah)
   rw [hk] at am;exact ⟨_,_,h,.d _ _ (hu off y hy),by simp only [Instr.loadAt,Instr.sureAddr,Sem.run_bind,Sem.run_pure,Result.andThen];exact am⟩
  exact h.elim
 | _=>exact h.elim
theorem ZaC {P:Program} (op:BinOp) (k:IntKind) (a b:Int) (w:World) (h:op=.and\/op=.or\/op=.xor\/op=.andNot):(Op.intBits op k a b).run P w=.ok (.int k (Zm op k a b)) w:=by
 rw [Yz];rcases h with rfl | rfl | rfl | rfl <;> rfl
theorem J4 {k:IntKind} {n:Int} {K:PV->Prop} (h:ZcR k n K):∃pv,K pv/\VRel G e σ w pv (.int k (k.wrap n)):=by
 rcases h with ⟨h1,h2⟩ | h
 ·exact ⟨_,h2,by rw [show k.wrap n=n from h1];exact .mkint⟩
 exact ⟨_,h,.mkint⟩
theorem US {k:IntKind} {n:Int} {K:PV->Prop} (h:ZcR k n K) {s:Sem Value} {P:Program} (hs:s.run P w=.ok (.int k (k.wrap n)) w):∃pv u,K pv/\VRel G e σ w pv u/\s.run P w=.ok u w:=by
 obtain ⟨pv,h1,h2⟩:=J4 (G:=G) (e:=e) (σ:=σ) (w:=w) h;exact ⟨pv,_,h1,h2,hs⟩
theorem Zle {op:BinOp} {k:IntKind} {a b:Int} {K:PV->Prop} (h:Zwv op k a b K) (t:TypeId) (x y:Operand) :
  ∃pv u,K pv/\VRel G e σ w pv u/\(do eqGuard op t x y (.int k a) (.int k b);binOp op t (.int k a) (.int k b):Sem Value).run G.P w=.ok u w:=by
 have hg:(eqGuard op t x y (.int k a) (.int k b)).run G.P w=.ok () w:=by cases op <;> rfl
 cases op <;> simp only [Zwv] at h <;> simp only [Sem.run_bind,hg,Result.andThen]
 case add=>exact US h (by simp [binOp,Op.intArith])
 case sub=>exact US h (by simp [binOp,Op.intArith])
 case mul=>exact US h (by simp [binOp,Op.intArith])
 case quo=>exact US h.2 (by simp [binOp,Op.intDiv,h.1])
 case rem=>exact ⟨_,_,h.2,.mkint,by simp [binOp,Op.intDiv,h.1]⟩
 case and=>exact ⟨_,_,h,.mkint,by simp [binOp,ZaC]⟩
 case or=>exact ⟨_,_,h,.mkint,by simp [binOp,ZaC]⟩
 case xor=>exact ⟨_,_,h,.mkint,by simp [binOp,ZaC]⟩
 case andNot=>exact ⟨_,_,h,.mkint,by simp [binOp,ZaC]⟩
 case eql=>exact ⟨_,_,h,.mkbool,by simp [binOp,Op.intCmp];rfl⟩
 case neq=>exact ⟨_,_,h,.mkbool,by simp [binOp,Op.intCmp,bne];rfl⟩
 case lss=>exact ⟨_,_,h,.mkbool,by simp [binOp,Op.intCmp]⟩
 case leq=>exact ⟨_,_,h,.mkbool,by simp [binOp,Op.intCmp]⟩
 case gtr=>exact ⟨_,_,h,.mkbool,by simp [binOp,Op.intCmp]⟩
 case geq=>exact ⟨_,_,h,.mkbool,by simp [binOp,Op.intCmp]⟩
theorem toList_mk (s:List UInt8):(⟨s.toArray⟩:ByteArray).toList=s:=ByteArray.toList_mk s
theorem Zbo {α:Type} [BEq α] [LawfulBEq α] [DecidableEq α] (a b:α):(a == b)=decide (a=b):=by rw [Bool.eq_iff_iff];simp
theorem JL {T : Tab} (hT : TabOK T G.P) (d : Nat) {xs ys : Array Value} : ∀ {fs : List (Nat × Nat)} {gs : List Field} {i : Nat} {px py : List PV} {K : Bool -> Prop}, FieldsOK G.P fs gs -> gs.all (fun f => f.name != "_") = true ->
  (∀(j:Nat) (x:PV),px[j]?=some x->∃u,xs[i+j]?=some u/\VRel G e σ w x u)->(∀(j:Nat) (x:PV),py[j]?=some x->∃u,ys[i+j]?=some u/\VRel G e σ w x u)->Xp T i fs px py K ->
  ∃r,K r/\(Op.eqFields (d+1) xs ys gs).run G.P w=.ok r w
 | [],gs,i,px,py,K,hf,hn,hx,hy,h=>by
  cases hf
  cases px <;> cases py <;> first | exact ⟨_,h,rfl⟩ | exact h.elim
 | (o',t')::fs',gs,i',px,py,K,hf,hn,hx,hy,h=>by
  cases hf with
  | cons _ _ _ f gs info ho ht hi hs hf =>
  simp only [List.all_cons,Tk] at hn
  cases px with
  | nil=>exact h.elim
  | cons x xs' =>
  cases py with
  | nil=>exact h.elim
  | cons y ys' =>
  obtain ⟨u,hu,hxu⟩:=hx 0 x rfl;obtain ⟨v,hv,hyv⟩:=hy 0 y rfl;simp only [Se] at hu hv;have gy:∀(j:Nat) (z:PV),xs'[j]?=some z->∃u,xs[i'+1+j]?=some u/\VRel G e σ w z u:=fun j z hz=>by have:=hx (j+1) z (by simpa using hz);rwa [show i'+(j+1)=i'+1+j by omega] at this
  have uc:∀(j:Nat) (z:PV),ys'[j]?=some z->∃u,ys[i'+1+j]?=some u/\VRel G e σ w z u:=fun j z hz=>by have:=hy (j+1) z (by simpa using hz);rwa [show i'+(j+1)=i'+1+j by omega] at this
  have be : f.name ≠ "_" := by simpa using hn.1
  have fin:∀(b:Bool) (K1:Bool->Prop),o'=i'->(T.get t').kind≠.other->(T.get t').kind.isAgg=false->(Op.equalIn (d+1) t' u v).run G.P w=.ok b w->(Xp T (i'+1) fs' xs' ys' fun r=>K1 (b && r)) ->
    ∃r,K1 r/\(Op.eqFields (d+1) xs ys (f::gs)).run G.P w=.ok r w:=fun b K1 ud xx l5 he hk=>by
   obtain ⟨r,h1,h2⟩:=JL hT d hf hn.2 gy uc hk;obtain ⟨i2,d2,z2,aa,bf,gd,jw,bq,_⟩:=(hT.get xx).ex;have hpx:∀(zs:Array Value) (q:Value),zs[i']?=some q->(part t' zs f.offset).run G.P w=.ok q w:=fun zs q hq=>by
    unfold part
    simp only [Sem.run_bind,Jg bq bf,Result.andThen,l5];simp [ho,ud,hq]
   refine ⟨_,h1,?_⟩;simp only [Op.eqFields];rw [Tg be];simp only [Sem.run_bind,ht,hpx xs u hu,hpx ys v hv,he,Result.andThen]
   cases b with
   | true=>simp only [Bool.not_true,To,if_false,Tt];exact h2
   | false=>simp
  have tk:∀(k:TK),(T.get t').kind=k->k≠.other->∃dd,G.P.underlying t'=some dd/\KindOK G.P k dd:=fun k hk xx=>by
   obtain ⟨i2,d2,z2,aa,bf,gd,jw,bq,_⟩:=(hT.get (t:=t') (by rw [hk];exact xx)).ex;exact ⟨d2,bf,by rw [<- hk];exact bq⟩
  simp only [Xp] at h;split at h
  ·rename_i k0 k a k' b ud ck
   obtain ⟨dd,dg,bf⟩:=tk _ ck sM
   cases hxu.dint;cases hyv.dint
   split at h
   ·rename_i hk
    cases ZcX hk
    refine fin (decide (a=b)) K (Tn ud) (by rw [ck];simp) (by rw [ck];rfl) ?_ h;rw [run_equalIn_int w d _ k k0 a b (by rw [dg];exact congrArg some bf),Zbo]
   exact h.elim
  ·rename_i a b ud ck
   obtain ⟨dd,dg,bf⟩:=tk _ ck sM
   cases hxu.dstr;cases hyv.dstr
   refine fin (decide (a=b)) K (Tn ud) (by rw [ck];simp) (by rw [ck];rfl) ?_ h;rw [run_equalIn_string w d _ _ _ (by rw [dg];exact congrArg some bf),toList_mk,toList_mk,Zbo]
  ·rename_i a b ud ck
   obtain ⟨dd,dg,bf⟩:=tk _ ck sM
   cases hxu.dbool;cases hyv.dbool
   refine fin (decide (a=b)) K (Tn ud) (by rw [ck];simp) (by rw [ck];rfl) ?_ h;rw [run_equalIn_bool w d _ a b (by rw [dg];exact congrArg some bf),Zbo]
  exact h.elim
def ZmA:Value->Bool
 | .int _ _=>false | .string _=>false | .float _ _=>false | .complex _ _ _=>false | _=>true
theorem ZmB {t:TypeId} {vx vy:Value} (h:ZmA vx=true):binOp .eql t vx vy=(do pure (.bool (<- Op.equal t vx vy))):=by
 cases vx <;> first | (cases h;done) | (cases vy <;> rfl)
theorem ZmC {t:TypeId} {vx vy:Value} (h:ZmA vx=true):binOp .neq t vx vy=(do pure (.bool (!(<- Op.equal t vx vy)))):=by
 cases vx <;> first | (cases h;done) | (cases vy <;> rfl)
theorem Yj {P:Program} {op:BinOp} {t:TypeId} {x y:Operand} {vx vy:Value} (h:(match vx with | .nilIface=>false | .agg _=>false | _=>true)=true):(eqGuard op t x y vx vy).run P w=.ok () w:=by
 cases op <;> first | rfl | (cases vx <;> first | (cases h;done) | rfl)
theorem YH (t:TypeId) (x y:Value):Op.equal t x y=Op.equalIn (9999+1) t x y:=rfl
theorem ZgK {T:Tab} (hT:TabOK T G.P) {t:TypeId} {x y:Operand} {px py:PV} {vx vy:Value} {K:Bool->Prop} (hx:VRel G e σ w px vx) (hy:VRel G e σ w py vy) (h:peq T t x y px py K) (op:BinOp) :
  ∃b,K b/\(Op.equal t vx vy).run G.P w=.ok b w/\(eqGuard op t x y vx vy).run G.P w=.ok () w/\ZmA vx=true:=by
 have tk:∀(k:TK),(T.get t).kind=k->k≠.other->∃dd,G.P.underlying t=some dd/\KindOK G.P k dd/\((T.get t).eqok=true->eqB G.P t dd=true):=fun k hk xx=>by
  obtain ⟨i2,d2,z2,aa,bf,gd,jw,bq,_,_,_,_,h8⟩:=(hT.get (t:=t) (by rw [hk];exact xx)).ex;exact ⟨d2,bf,by rw [<- hk];exact bq,h8⟩
 have dn:∀{v:Value},VRel G e σ w (.d .nilp) v->v=.pointer none:=fun h=>by cases h with | d _ _ h=>cases h;rfl
 have df:∀{v:Value},VRel G e σ w (.d .nilf) v->v=.nilFunc:=fun h=>by cases h with | d _ _ h=>cases h;rfl
 have di:∀{v:Value},VRel G e σ w (.d .nili) v->v=.nilIface:=fun h=>by cases h with | d _ _ h=>cases h;rfl
 unfold peq at h
 split at h
 ·rename_i ck
  obtain ⟨dd,dg,bf,_⟩:=tk _ ck sM;split at h
  ·rename_i a b
   cases hx.dbool;cases hy.dbool
   exact ⟨_,h,by rw [run_equal_bool w t a b (by rw [dg];exact congrArg some bf),Zbo],Yj rfl,rfl⟩
  exact h.elim
 ·rename_i el ck
  obtain ⟨dd,dg,bf,_⟩:=tk _ ck sM;obtain rfl:dd=.pointer el:=bf;split at h
  ·cases dn hx;cases dn hy
   exact m49
  ·cases dn hx;cases hy
   exact m49
  ·cases dn hx;cases hy
   exact m49
  ·cases dn hy;cases hx
   exact m49
  ·cases dn hy;cases hx
   exact m49
  exact h.elim
 ·rename_i ck
  obtain ⟨dd,dg,⟨q1,q2,q3,rfl⟩,_⟩:=tk _ ck sM;split at h
  ·cases df hx;cases df hy
   exact m49
  ·cases df hx;cases hy
   exact m49
  ·cases df hy;cases hx
   exact m49
  exact h.elim
 ·rename_i ck
  obtain ⟨dd,dg,⟨q1,rfl⟩,_⟩:=tk _ ck sM;split at h
  ·cases di hx;cases di hy
   split at h
   ·rename_i hc
    refine ⟨_,h,by rw [YH,Op.equalIn];simp [Zc dg],?_,rfl⟩
    cases op <;> first | rfl | (unfold eqGuard;cases x <;> cases y <;> first | rfl | (cases hc;done))
   exact h.elim
  ·cases di hx;cases hy
   exact ⟨_,h,by rw [YH,Op.equalIn];simp [Zc dg],by cases op <;> rfl,rfl⟩
  ·cases di hy;cases hx
   exact ⟨_,h,by rw [YH,Op.equalIn];simp [Zc dg],by cases op <;> rfl,rfl⟩
  ·rename_i t1 k a t2 k' b
   cases hx with
   | iface _ _ u hu =>
   cases hy with
   | iface _ _ v hv =>
   cases hu.dint;cases hv.dint
   split at h
   ·rename_i kk hb j9 r7
    cases Tn hb
    split at h
    ·rename_i hkq
     cases ZcX hkq
     obtain ⟨i2,d2,z2,aa,bf,gd,jw,bq,_,_,_,_,h8⟩:=(hT.get (t:=t1) (by rw [j9];simp)).ex;rw [j9] at bq;obtain rfl:d2=.int kk:=bq;have hc:=h8 r7;simp only [eqB,aa] at hc;refine ⟨_,h,?_,by cases op <;> rfl,rfl⟩;rw [YH,Op.equalIn];simp only [Sem.run_bind,Zc dg,Result.andThen,ne_eq,not_true,if_false,YB aa,hc,Bool.not_true,To];rw [run_equalIn_int w 9998 t1 k kk a b bf,Zbo]
    exact h.elim
   ·rename_i hb
    have an:t1≠t2:=fun e=>by subst e;simp at hb
    refine ⟨_,h,?_,by cases op <;> rfl,rfl⟩;rw [YH,Op.equalIn];simp [Zc dg,an]
   exact h.elim
  exact h.elim
 ·rename_i el ck
  obtain ⟨dd,dg,bf,_⟩:=tk _ ck sM;obtain rfl:dd=.slice el:=bf;split at h
  ·cases hx;cases hy
   exact m49
  ·cases hy
   cases hx with
   | d _ _ hx=>cases hx with
    | sl=>exact ⟨_,h,by rw [YH,Op.equalIn];simp [Zc dg],Yj rfl,rfl⟩
  ·cases hy
   cases hx with
   | sl _ _ _ _ _ hx _=>cases hx with
    | sl=>exact ⟨_,h,by rw [YH,Op.equalIn];simp [Zc dg],Yj rfl,rfl⟩
  exact h.elim
 ·rename_i fs ck
  obtain ⟨dd,dg,⟨gs,rfl,hf⟩,h8⟩:=tk _ ck sM;split at h
  ·rename_i r7
   have hB:=h8 r7;simp only [eqB,Tk,TV] at hB;split at h
   ·rename_i xs ys
    cases hx with
    | agg _ vxs hxs jb _ =>
    cases hy with
    | agg _ vys hys hyr _ =>
    have hfo:G.P.fieldsOf t=gs:=by simp [Program.fieldsOf,dg]
    have conv:∀{l:List PV} {vs:Array Value},vs.size=l.length->(∀(i:Nat) (x:PV) (u:Value),l[i]?=some x->vs[i]?=some u->VRel G e σ w x u)->∀(j:Nat) (x:PV),l[j]?=some x->∃u,vs[0+j]?=some u/\VRel G e σ w x u:=fun {l vs} hs hr j x hx=>by
     have hj:=(Tj.1 hx).1;refine ⟨vs[j],by rw [Sf];exact TF oM,hr j x _ hx (TF oM)⟩
    obtain ⟨r,hK,am⟩:=JL hT 9998 hf hB.1.1 (conv hxs jb) (conv hys hyr) h;refine ⟨r,hK,?_,run_eqGuard_agg w op t x y _ _ hB.2,rfl⟩;have:=run_equalIn_struct w 9999 t vxs vys (by rw [hfo];exact dg) hB.1.2;rw [hfo] at this;exact this.trans am
   exact h.elim
  exact h.elim
 exact h.elim
theorem Zlf {T:Tab} (hT:TabOK T G.P) {op:BinOp} {px py:PV} {vx vy:Value} {K:PV->Prop} {t:TypeId} {x y:Operand} (hx:VRel G e σ w px vx) (hy:VRel G e σ w py vy) (h:ZsA T op t x y px py K) :
  ∃pv u,K pv/\VRel G e σ w pv u/\(do eqGuard op t x y vx vy;binOp op t vx vy:Sem Value).run G.P w=.ok u w:=by
 unfold ZsA at h
 split at h
 ·rename_i k a k' b
  cases hx.dint;cases hy.dint
  split at h
  ·have hg:(eqGuard .shl t x y (.int k a) (.int k' b)).run G.P w=.ok () w:=rfl;have:¬b<0:=oM;exact US h.2 (by simp [hg,binOp,Op.shift,this])
  ·refine ⟨_,_,h.2,.mkint,?_⟩;have hg:(eqGuard .shr t x y (.int k a) (.int k' b)).run G.P w=.ok () w:=rfl;have:¬b<0:=oM;simp [hg,binOp,Op.shift,this]
  split at h
  ·rename_i hk
   cases ZcX hk
   exact Zle h t x y
  exact h.elim
 ·rename_i a b
  cases hx.dstr;cases hy.dstr
  have hg:(eqGuard op t x y (.string ⟨a.toArray⟩) (.string ⟨b.toArray⟩)).run G.P w=.ok () w:=by cases op <;> rfl
  cases op <;> simp only at h <;> simp only [Sem.run_bind,hg,Result.andThen]
  case add =>
   refine ⟨_,_,h.2,.mkstr,?_⟩;have h1:¬((a.length:Int)+(b.length:Int)>IntKind.i64.max):=by
    have:IntKind.i64.max=2 ^ 63 - 1:=rfl;rw [this];have:=h.1;omega
   have h2:(⟨a.toArray⟩:ByteArray)++⟨b.toArray⟩=⟨(a++b).toArray⟩:=by
    apply ByteArray.ext;simp [ByteArray.data_append]
   have h3:(⟨a.toArray⟩:ByteArray).size=a.length:=rfl;have h4:(⟨b.toArray⟩:ByteArray).size=b.length:=rfl;simp only [binOp,Op.stringOp,h3,h4,Int.natCast_add];rw [Tc h1,h2];rfl
  all_goals refine ⟨_,_,h,.mkbool,?_⟩
  all_goals simp only [binOp,Op.stringOp,toList_mk,<- Zbo,Sem.run_pure]
 rename_i px' py' af3 xy
 cases op <;> simp only at h <;> first | exact h.elim | skip
 ·obtain ⟨b,hK,h1,h2,n1⟩:=ZgK hT hx hy h .eql;refine ⟨_,_,hK,.mkbool,?_⟩;simp only [Sem.run_bind,h2,Result.andThen,ZmB n1,h1,Sem.run_pure]
 obtain ⟨b,hK,h1,h2,n1⟩:=ZgK hT hx hy h .neq;refine ⟨_,_,hK,.mkbool,?_⟩;simp only [Sem.run_bind,h2,Result.andThen,ZmC n1,h1,Sem.run_pure]
theorem X2 {α:Type}:∀(l:List α) (o:Nat) (vs:List α),(Z9 l o vs).length=l.length
 | [],_,[]=>rfl
 | _::_,_,[]=>rfl
 | [],_,_::_=>rfl
 | _::l,0,_::vs=>by simp [Z9,X2 l 0 vs]
 | _::l,o+1,v::vs=>by simp [Z9,X2 l o (v::vs)]
theorem Vu {α:Type}:∀(l:List α) (o:Nat) (vs:List α) (i:Nat),(Z9 l o vs)[i]?=if o<=i/\i<o+vs.length/\i<l.length then vs[i - o]? else l[i]?
 | l,o,[],i=>by
  have:Z9 l o []=l:=by cases l <;> rfl
  rw [this,Tc];simp;omega
 | [],o,v::vs,i=>by simp [Z9]
 | x::l,0,v::vs,i=>by
  cases i with
  | zero=>simp [Z9]
  | succ i =>
  have:=Vu l 0 vs i;simp only [Z9,T6,this,T7,true_and,Sf,Td,Nat.sub_zero]
  by_cases h:i<vs.length/\i<l.length
  ·rw [Tg h,Tg ⟨oM,oM⟩]
  rw [Tc h,Tc];omega
 | x::l,o+1,v::vs,i=>by
  cases i with
  | zero=>simp [Z9]
  | succ i =>
  have:=Vu l o (v::vs) i;simp only [Z9,T6,this,Td]
  by_cases h:o<=i/\i<o+(vs.length+1)/\i<l.length
  ·rw [Tg h,Tg ⟨oM,oM,oM⟩];congr 1;omega
  rw [Tc h,Tc];omega
theorem Zb9 (vs:Array Value) (off:Nat):∀(l:List Value) (j:Nat) (cs:Array Value),((l.zipIdx j).foldl (fun cs (p:Value×Nat)=>cs.setIfInBounds (off+p.2) p.1) cs).size=cs.size:=by
 intro l
 induction l with
 | nil=>intro j cs;rfl
 | cons v l ih=>intro j cs;simp only [List.zipIdx_cons,List.foldl_cons];rw [ih];simp
theorem ZcY (off:Nat):∀(l:List Value) (j:Nat) (cs:Array Value) (i:Nat),
  ((l.zipIdx j).foldl (fun cs (p:Value×Nat)=>cs.setIfInBounds (off+p.2) p.1) cs)[i]?=if off+j<=i/\i<off+j+l.length/\i<cs.size then l[i - (off+j)]? else cs[i]?:=by
 intro l
 induction l with
 | nil=>intro j cs i;rw [Tc];rfl;simp;omega
 | cons v l ih =>
 intro j cs i
 simp only [List.zipIdx_cons,List.foldl_cons];rw [ih];simp only [Array.size_setIfInBounds,Td,T5]
 by_cases h:off+(j+1)<=i/\i<off+(j+1)+l.length/\i<cs.size
 ·rw [Tg h,Tg ⟨oM,oM,oM⟩];rw [show i - (off+j)=(i - (off+(j+1)))+1 by omega,T6]
 rw [Tc h]
 by_cases h2:off+j=i
 ·subst h2;simp only [if_true]
  by_cases h3:off+j<cs.size
  ·rw [Tg h3,Tg ⟨oM,oM,h3⟩];simp
  rw [Tc h3,Tc oM];simp [h3]
 rw [Tc h2,Tc oM]
theorem VW {x:PV} {v:Value} {l:List PV} (h:VRel G e σ w x v) (hl:x.cells=some l):v.cells.size=l.length/\∀(i:Nat) (y:PV) (u:Value),l[i]?=some y->v.cells[i]?=some u->VRel G e σ w y u/\u.oneCell'=true:=by
 have plain:∀(x:PV) (v:Value),VRel G e σ w x v->v.oneCell'=true->x.cells=some [x]->v.cells=#[v]->x.cells=some l->v.cells.size=l.length/\∀(i:Nat) (y:PV) (u:Value),l[i]?=some y->v.cells[i]?=some u->VRel G e σ w y u/\u.oneCell'=true:=by
  intro x v h h1 hx hv hl
  rw [hx] at hl;cases hl;rw [hv];refine ⟨rfl,fun i y u hy hu=>?_⟩
  cases i with
  | zero=>simp at hy hu;subst hy;subst hu;exact ⟨h,h1⟩
  | succ i=>simp at hy
 cases h with
 | agg cs vs hs h h1 =>
  cases hl
  exact ⟨hs,fun i y u hy hu=>⟨h i y u hy hu,h1 u (Sc hu)⟩⟩
 | undef v=>cases hl
 | d x v h=>exact plain _ _ (.d _ _ h) h.one rfl (by cases h <;> rfl) hl
 | sl t el rows v hn hd ht=>exact plain _ _ (.sl _ _ _ _ hn hd ht) hd.one rfl (by cases hd <;> rfl) hl
 | ptr b off h=>exact plain _ _ (.ptr _ _ h) rfl rfl rfl hl
 | asl b off n h=>exact plain _ _ (.asl _ _ _ h) rfl rfl rfl hl
 | elem r off b o u hc ho hu=>exact plain _ _ (.elem _ _ _ _ u hc ho hu) rfl rfl rfl hl
 | nils el=>exact plain _ _ (.nils _) rfl rfl rfl hl
 | func f a c va vc ha hc h1 h2=>exact plain _ _ (.func _ _ _ _ _ ha hc h1 h2) rfl rfl rfl hl
 | iface t x v h=>exact plain _ _ (.iface _ _ _ h) rfl rfl rfl hl
 | tuple cs vs hs h=>cases hl
 | raw v =>
 cases v with
 | func f a c=>exact plain _ _ (.raw _) rfl rfl rfl hl
 | _=>cases hl
theorem ZmD (off:Nat) (vs cells:Array Value):Array.foldl (fun cs (x:Value×Nat)=>cs.setIfInBounds (off+x.2) x.1) vs cells.zipIdx=List.foldl (fun cs (x:Value×Nat)=>cs.setIfInBounds (off+x.2) x.1) vs (cells.toList.zipIdx 0):=by
 rw [<- Array.foldl_toList,Array.toList_zipIdx]
theorem FieldsOK.length {P:Program} {l:List (Nat×Nat)} {m:List Field} (h:FieldsOK P l m):m.length=l.length:=by
 induction h with
 | nil=>rfl
 | cons _ _ _ _ _ _ _ _ _ _ _ ih=>simp [ih]
theorem Zbp {T:Tab} (hT:TabOK T G.P) {fs:List (Nat×Nat)} {gs:List Field} (hf:FieldsOK G.P fs gs) {ρ:Operand->PV} {ρ':Operand->Value} (hρ:∀x,VRel G e σ w (ρ x) (ρ' x)) {K:List PV->Prop}
  (places:Nat->Option (Nat×Nat)) (hp:∀i f j,gs[i]?=some f->G.P.info? f.type=some j->places i=some (f.offset,j.size)) :
  ∀(ps:List (Nat×Operand)) (cs:List PV) (vs:Array Value),vs.size=cs.length->(∀(i:Nat) (x:PV) (u:Value),cs[i]?=some x->vs[i]?=some u->VRel G e σ w x u/\u.oneCell'=true) ->
   YX T fs ρ ps cs K->∃cs' vs',K cs'/\Instr.fill places vs (ps.map fun p=>(p.1,ρ' p.2))=some vs'/\vs'.size=cs'.length/\(∀(i:Nat) (x:PV) (u:Value),cs'[i]?=some x->vs'[i]?=some u->VRel G e σ w x u/\u.oneCell'=true)
 | [],cs,vs,hs,hr,h=>⟨cs,vs,h,rfl,hs,hr⟩
 | (i,x)::ps,cs,vs,hs,hr,h=>by
  simp only [YX] at h;split at h
  ·rename_i o t l ue hl
   split at h
   ·exact h.elim
   ·rename_i h1 h2 hk
    obtain ⟨f,j,hg,ho,ht,hi,hj⟩:=hf.get ue;obtain ⟨i2,d,z,aa,hd,gd,ff,bh,hz,ei,_⟩:=(hT.get (t:=t) (fun h0=>hk h0)).ex;rw [hi] at aa;cases aa;have e1:=Tn h1;have e2:=Ta h2;obtain ⟨dl,fu⟩:=VW (hρ x) hl;have jx:=hp i f j hg (by rw [ht];exact hi);simp only [TN,Instr.fill,jx];have hsz:(ρ' x).cells.size=j.size:=by rw [dl,e1,gd]
    rw [Tc (by rw [hsz,hs,ho];simp;omega)];refine Zbp hT hf hρ places hp ps _ _ ?_ ?_ h
    ·rw [X2,<- hs];rw [ZmD];exact Zb9 vs f.offset (ρ' x).cells.toList 0 vs
    intro k y u hy hu
    rw [Vu] at hy;have qe:(((ρ' x).cells.toList.zipIdx 0).foldl (fun cs (p:Value×Nat)=>cs.setIfInBounds (f.offset+p.2) p.1) vs)[k]?=some u:=by
     rw [<- ZmD];exact hu
    rw [ZcY] at qe;simp only [Se,Sp] at qe
    by_cases qf:o<=k/\k<o+l.length/\k<cs.length
    ·rw [Tg qf] at hy;rw [Tg ⟨oM,oM,oM⟩,ho] at qe;exact fu (k - o) y u hy (by simpa using qe)
    rw [Tc qf] at hy;rw [Tc oM] at qe;exact hr k y u hy qe
   exact h.elim
  exact h.elim
theorem ZBR {rows:List (List D)} {v:Value} (h:DRel (okc e σ) w (.sl rows) v) {n:Nat} {r:List D} (hr:rows[n]?=some r) :
  ∃(b off cap:Nat) (u:Nat->Value),v=.slice (some ⟨b,off,none⟩) rows.length cap/\n<rows.length/\(∀j,j<r.length->w.cell? ⟨b,off+n * r.length+j,none⟩=some (u j))/\(∀j,j<r.length->okc e σ b (off+n * r.length+j)) /\
   ∀(j:Nat) (x:D),r[j]?=some x->DRel (okc e σ) w x (u j):=by
 cases h with
 | slnil=>simp at hr
 | slz a=>simp at hr
 | sl rows b off cap sz u hcap hsz hc ho hu =>
 have hn:=(Tj.1 hr).1;have ab:r.length=sz:=hsz r (Sh hr);refine ⟨b,off,cap,u n,rfl,hn,fun j hj=>?_,fun j hj=>?_,fun j x hx=>hu n j x (by rw [hr];exact hx)⟩
 ·rw [ab] at hj |-;exact hc n j hn hj
 rw [ab] at hj |-;exact ho n j hn hj
theorem Wp (P:Program) (k:IntKind) (n:Int) (w:World):(asIntOf (.int k n)).run P w=.ok (k,n) w:=rfl
theorem Jh (P:Program) (k:IntKind) (n:Int) (y:Nat) (c:BoundsCode) (w:World) (h0:0<=n) (h:n<=y):(Instr.sliceBound (.int k n) y c).run P w=.ok n.toNat w:=by
 simp [Instr.sliceBound,Wp,h0,h]
theorem JM {P:Program} {lo hi:Option PV} {vlo vhi:Option Value} (isS:Bool) {len cap:Nat} (hcap:len<=cap) (sa:∀v,vlo=some v->∃x,lo=some x/\VRel G e σ w x v) (xz:vlo=none->lo=none)
  (sb:∀v,vhi=some v->∃x,hi=some x/\VRel G e σ w x v) (qw:vhi=none->hi=none) {K:Nat->Nat->Prop} (h:Uk lo hi len K) :
  ∃l u,K l u/\l<=u/\u<=len/\(Instr.sliceBounds isS len cap vlo vhi none).run P w=.ok (l,u,cap) w:=by
 unfold Uk at h
 cases vlo with
 | none =>
  rw [xz rfl] at h
  cases vhi with
  | none =>
   rw [qw rfl] at h;exact ⟨0,len,h,T7 _,Tr _,by simp [Instr.sliceBounds]⟩
  | some v =>
  obtain ⟨x,hx,hr⟩:=sb v rfl;rw [hx] at h;simp only at h;split at h
  ·cases hr.dint
   refine ⟨0,_,h.2.2,T7 _,oM,?_⟩;simp only [Instr.sliceBounds,Sem.run_bind,Sem.run_pure,Result.andThen];rw [Jh P _ _ cap _ w h.1 oM]
  exact h.elim
 | some v =>
 obtain ⟨x,hx,hr⟩:=sa v rfl;rw [hx] at h
 cases vhi with
 | none =>
  rw [qw rfl] at h;simp only at h;split at h
  ·cases hr.dint
   refine ⟨_,len,h.2.2,oM,Tr _,?_⟩;simp only [Instr.sliceBounds,Sem.run_bind,Sem.run_pure,Result.andThen];rw [Jh P _ _ len _ w h.1 h.2.1]
  exact h.elim
 | some v2 =>
 obtain ⟨y,hy,bi⟩:=sb v2 rfl;rw [hy] at h;simp only at h;split at h
 ·cases hr.dint;cases bi.dint
  refine ⟨_,_,h.2.2.2,oM,oM,?_⟩;simp only [Instr.sliceBounds,Sem.run_bind,Sem.run_pure,Result.andThen];rw [Jh P _ _ cap _ w oM oM];simp only [];rw [Jh P _ _ _ _ w h.1 oM]
 exact h.elim
end
end Go.PM
end

section
namespace Go.PM
section
variable {G:GE} {e:Env} {σ:St} {w:World} {T:Tab}
theorem KindOK.slice {P:Program} {e:Nat} {d:TypeDesc} (h:KindOK P (.slice e) d):d=.slice e:=h
theorem Zqt {rows:List (List D)} {v:Value} {a b sz:Nat} (h:DRel (okc e σ) w (.sl rows) v) (hsz:∀r∈rows,r.length=sz) (hab:a<=b) (hb:b<=rows.length) :
  ∃ad cap,v=.slice ad rows.length cap/\rows.length<=cap/\DRel (okc e σ) w (.sl (cut rows a b)) (.slice (if cap=a then ad else ad.map (·.add (a * sz))) (b - a) (cap - a)):=by
 have ab:(cut rows a b).length=b - a:=by simp [cut];omega
 cases h with
 | slnil =>
  refine ⟨none,0,rfl,Tr _,?_⟩;have h1:b=0:=by simpa using hb
  have h2:a=0:=oM;subst h1;subst h2;exact .slnil
 | slz ad =>
  refine ⟨some ad,0,rfl,Tr _,?_⟩;have h1:b=0:=by simpa using hb
  have h2:a=0:=oM;subst h1;subst h2;exact .slz ad
 | sl rows bk off cap sz' u hcap jy hc ho hu =>
 refine ⟨some ⟨bk,off,none⟩,cap,rfl,hcap,?_⟩
 by_cases hr:rows=[]
 ·subst hr;have h1:b=0:=by simpa using hb
  have h2:a=0:=oM;subst h1;subst h2;have hh:DRel (okc e σ) w (.sl (cut ([]:List (List D)) 0 0)) (.slice (some ⟨bk,off,none⟩) ([]:List (List D)).length cap):=.sl [] bk off cap sz' u (T7 _) (fun r h=>by cases h) (fun i j h=>by cases h) (fun i j h=>by cases h) (fun i j x h=>by simp at h);split
  ·exact hh
  simpa [Ym] using hh
 have hss:sz'=sz:=by
  cases rows with
  | nil=>exact absurd rfl hr
  | cons r l=>rw [<- jy r sM,hsz r sM]
 subst hss;have hg:∀i,i<b - a->(cut rows a b)[i]?=rows[a+i]?:=fun i hi=>by
  simp only [cut,Sy,List.getElem?_take];rw [Tg oM]
 have main:DRel (okc e σ) w (.sl (cut rows a b)) (.slice (some ⟨bk,off+a * sz',none⟩) (cut rows a b).length (cap - a)):=by
  refine .sl _ bk (off+a * sz') (cap - a) sz' (fun i j=>u (a+i) j) (by rw [ab];omega) (fun r hr=>jy r (List.mem_of_mem_take (List.mem_of_mem_drop hr))) ?_ ?_ ?_
  ·intro i j hi hj
   rw [ab] at hi;have:=hc (a+i) j oM hj;rw [Si] at this
   rwa [show off+a * sz'+i * sz'+j=off+(a * sz'+i * sz')+j by omega]
  ·intro i j hi hj
   rw [ab] at hi;have:=ho (a+i) j oM hj;rw [Si] at this
   rwa [show off+a * sz'+i * sz'+j=off+(a * sz'+i * sz')+j by omega]
  intro i j x hx
  by_cases hi:i<b - a
  ·rw [hg i hi] at hx;exact hu (a+i) j x hx
  rw [Sk (by rw [ab];omega)] at hx;cases hx
 rw [ab] at main;split
 ·rename_i hca
  have hba:b=a:=oM;subst hba;have:cut rows b b=[]:=by simp [cut]
  rw [this,Nat.sub_self];exact .sl [] bk off (cap - b) sz' u (T7 _) (fun r h=>by cases h) (fun i j h=>by cases h) (fun i j h=>by cases h) (fun i j x h=>by simp at h)
 simpa [Ym] using main
theorem UT {ρ:Operand->PV} {ρ':Operand->Value} (hρ:∀x,VRel G e σ w (ρ x) (ρ' x)) (lo:Option Operand):(∀v,lo.map ρ'=some v->∃x,lo.map ρ=some x/\VRel G e σ w x v)/\(lo.map ρ'=none->lo.map ρ=none):=by
 cases lo with
 | none=>exact ⟨fun v h=>by simp at h,fun _=>rfl⟩
 | some x=>exact ⟨fun v h=>by simp at h;subst h;exact ⟨ρ x,rfl,hρ x⟩,fun h=>by simp at h⟩
theorem Zic (hT:TabOK T G.P) {K:PV->Prop} {t:TypeId} {px:PV} {vx:Value} (hx:VRel G e σ w px vx) {ρ:Operand->PV} {ρ':Operand->Value} (hρ:∀x,VRel G e σ w (ρ x) (ρ' x)) {lo hi:Option Operand}
  (h:JI T t px (lo.map ρ) (hi.map ρ) K):∃pv u,K pv/\VRel G e σ w pv u/\(Instr.sliceAt t vx (lo.map ρ') (hi.map ρ') none).run G.P w=.ok u w:=by
 unfold JI at h
 split at h
 ·rename_i hk
  obtain ⟨i,d,z,mc,hd,hs,ff,bh,hz,ei,_⟩:=(hT.get (t:=t) (by rw [hk];simp)).ex;rw [hk] at bh;cases bh;split at h
  ·rename_i s
   cases hx.dstr
   obtain ⟨l,u,hK,me,uf,am⟩:=JM (G:=G) (e:=e) (σ:=σ) (w:=w) (P:=G.P) false (Tr s.length) (UT hρ lo).1 (UT hρ lo).2 (UT hρ hi).1 (UT hρ hi).2 h;refine ⟨_,_,hK,.mkstr,?_⟩;have hsz:(⟨s.toArray⟩:ByteArray).size=s.length:=rfl;simp only [Instr.sliceAt,Instr.slice,Sem.run_bind,Zc hd,Result.andThen,Option.isSome_none,To,if_false,hsz,am,Sem.run_pure]
   congr 2
   apply ByteArray.ext
   apply Array.ext'
   simp [cut,ByteArray.data_extract,List.drop_take]
  exact h.elim
 ·rename_i el hk
  split at h
  ·exact h.elim
  rename_i cj
  split at h
  ·rename_i rows bj
   obtain ⟨i,d,z,mc,hd,hs,ff,bh,hz,ei,_⟩:=(hT.get (t:=t) (by rw [hk];simp)).ex;rw [hk] at bh;cases bh;have hD:=Up bj hx;obtain ⟨hsz,h⟩:=h;obtain ⟨ad,cap,rfl,hcap⟩:=hD.sl_inv;obtain ⟨l,u,hK,me,uf,am⟩:=JM (G:=G) (e:=e) (σ:=σ) (w:=w) (P:=G.P) true hcap (UT hρ lo).1 (UT hρ lo).2 (UT hρ hi).1 (UT hρ hi).2 h;obtain ⟨ad',cap',hv,_,hR⟩:=Zqt hD hsz me uf
   cases hv
   obtain ⟨i2,d2,z2,aa,bf,gd,_,_,_,_,_⟩:=(hT.get (t:=el) (fun h0=>cj h0)).ex;refine ⟨_,_,hK,.d _ _ hR,?_⟩;simp only [Instr.sliceAt,Instr.slice,Sem.run_bind,Zc hd,Result.andThen,am,ZF aa,Sem.run_pure,gd]
  exact h.elim
 ·rename_i n el hk
  split at h
  ·exact h.elim
  rename_i cj
  obtain ⟨i2,d2,z2,aa,bf,gd,_,_,_,_,_⟩:=(hT.get (t:=el) (fun h0=>cj h0)).ex;obtain ⟨i,d,z,mc,hd,hs,ff,bh,hz,ei,_⟩:=(hT.get (t:=t) (by rw [hk];simp)).ex;rw [hk] at bh;cases bh;split at h
  ·rename_i b off sa sb
   cases hx with
   | ptr _ _ hb =>
   have e1:lo=none:=by cases lo <;> simp_all
   have e2:hi=none:=by cases hi <;> simp_all
   subst e1;subst e2;refine ⟨_,_,h,.asl b off n hb,?_⟩;simp only [Instr.sliceAt,Instr.sureAddr,Instr.sliceBounds,Option.map_none,Sem.run_bind,Zc hd,Result.andThen,Sem.run_pure,ZF aa]
   by_cases hn:n=0
   ·subst hn;simp
   simp [hn,Ym]
  ·rename_i b off kk a sa sb
   obtain ⟨mf,han,hK⟩:=h
   cases hx with
   | ptr _ _ hb =>
   have e2:hi=none:=by cases hi <;> simp_all
   subst e2
   cases lo with
   | none=>simp at sa
   | some x0 =>
   have ka:=hρ x0;simp only [Sw,Option.some.injEq] at sa;rw [sa] at ka;refine ⟨_,_,hK,.asl b _ _ hb,?_⟩;have ak:a<=(n:Int):=oM;have an:¬n=a.toNat:=oM;simp [Instr.sliceAt,Instr.sureAddr,Instr.sliceBounds,Instr.sliceBound,asIntOf,ka.dint,Sem.run_bind,Zc hd,Result.andThen,Sem.run_pure,ZF aa,mf,ak,an,gd,Ym]
  exact h.elim
 exact h.elim
theorem J5:∀(l acc:List UInt8),(l.map (fun b:UInt8=>(b.toNat:Int))).foldl (fun r n=>r.push (UInt8.ofNat n.toNat)) (⟨acc.toArray⟩:ByteArray)=⟨(acc++l).toArray⟩
 | [],acc=>sM
 | b::l,acc=>by
  simp only [TN,List.foldl_cons,Tu,UInt8.ofNat_toNat];have:(⟨acc.toArray⟩:ByteArray).push b=⟨(acc++[b]).toArray⟩:=by
   apply ByteArray.ext;simp [ByteArray.push]
  rw [this,J5 l (acc++[b])];simp
theorem Zid {l:List UInt8} {v:Value} (h:DRel (okc e σ) w (.sl (l.map (fun b=>[.int .u8 b.toNat]))) v):(Conv.bytesToString v).run G.P w=.ok (.string ⟨l.toArray⟩) w:=by
 generalize hr:l.map (fun b:UInt8=>[D.int .u8 b.toNat])=rows at h
 cases h with
 | slnil =>
  have:l=[]:=by simpa using hr
  subst this;rfl
 | slz ad =>
  have:l=[]:=by simpa using hr
  subst this;exact run_bytesToString (P:=G.P) w ad 0 0 [] (run_loadCells_list (P:=G.P) w ad [] (fun j x hx=>by simp at hx))
 | sl rows b off cap sz u hcap hsz hc ho hu =>
 subst hr;have hl:=run_bytesToString (P:=G.P) w ⟨b,off,none⟩ (l.map (fun b=>[D.int .u8 b.toNat])).length cap (l.map (fun b:UInt8=>(b.toNat:Int))) ?_
 ·rw [hl]
  congr 2
  exact (J5 l []).trans sM
 have:=run_loadCells_list (P:=G.P) w ⟨b,off,none⟩ ((l.map (fun b:UInt8=>(b.toNat:Int))).map (Value.int .u8)) (fun j x hx=>?_)
 ·simpa using this
 rw [Ym];simp only [List.map_map,TL] at hx
 cases hj:l[j]? with
 | none=>rw [hj] at hx;cases hx
 | some y =>
 rw [hj] at hx
 cases hx
 have hjl:=(Tj.1 hj).1;have h1:(l.map (fun b:UInt8=>[D.int .u8 b.toNat]))[j]?=some [.int .u8 y.toNat]:=by rw [TL,hj];rfl
 have mg:sz=1:=(hsz _ (Sh h1)).symm;subst mg;have h2:=hc j 0 (by simpa using hjl) oM;have h3:=hu j 0 (.int .u8 y.toNat) (by rw [h1];rfl)
 cases h3v:u j 0 <;> rw [h3v] at h3 <;> cases h3
 rw [h3v] at h2;simpa using h2
theorem ZgL {α:Type}:∀{n:Nat} {l r:List α},UK n l=some r->∀(j:Nat) (x:α),r[j]?=some x->l[j]?=some x
 | 0,l,r,h,j,x,hx=>by simp only [UK] at h;cases h;simp at hx
 | n+1,[],r,h,j,x,hx=>by simp [UK] at h
 | n+1,y::l,r,h,j,x,hx=>by
  simp only [UK] at h;split at h
  ·rename_i r' qg
   cases h
   cases j with
   | zero=>simpa using hx
   | succ j=>simp only [T6] at hx |-;exact ZgL qg j x hx
  cases h
theorem ZmE {b off n:Nat} {tb:TypeId} {cs:List PV} {l:List UInt8} (hb:BRel G e σ w (.cells tb cs) (e.β b)) (ao:UK n (cs.drop off)=some (l.map fun b=>.d (.int .u8 b.toNat))) (x6:l.length=n) :
  (Conv.bytesToString (.slice (some ⟨e.β b,off,none⟩) n n)).run G.P w=.ok (.string ⟨l.toArray⟩) w:=by
 obtain ⟨vs,kz,oq,hv3⟩:=hb;have hl:=run_bytesToString (P:=G.P) w ⟨e.β b,off,none⟩ n n (l.map (fun b:UInt8=>(b.toNat:Int))) ?_
 ·rw [hl]
  congr 2
  exact (J5 l []).trans sM
 have:=run_loadCells_list (P:=G.P) w ⟨e.β b,off,none⟩ ((l.map (fun b:UInt8=>(b.toNat:Int))).map (Value.int .u8)) (fun j x hx=>?_)
 ·rw [<- x6];simpa using this
 rw [Ym];simp only [List.map_map,TL] at hx
 cases hj:l[j]? with
 | none=>rw [hj] at hx;cases hx
 | some y =>
 rw [hj] at hx
 cases hx
 have h1:=ZgL ao j (.d (.int .u8 y.toNat)) (by rw [TL,hj];rfl);rw [Sy] at h1;have ah:off+j<vs.size:=by
  have:=(Tj.1 h1).1;rw [oq];exact this
 have hvj:=TF ah;have h2:=(hv3 (off+j) _ _ h1 hvj).1;have h3:=h2.dint;simp only [World.cell?,kz,hvj,h3];rfl
theorem ZmF (hT:TabOK T G.P) (hS:SRel G e σ w) {K:PV->Prop} {ρ:Operand->PV} {ρ':Operand->Value} (hρ:∀x,VRel G e σ w (ρ x) (ρ' x)) (o:Oper) (h:qop T o.op o.type ρ σ.bx K) :
  ∃pv v,K pv/\VRel G e σ w pv v/\(execOp ρ' o).run G.P w=.ok (.value v) w:=by
 have mv:∀x:Operand,(match ρ x with
  | .nils _=>match (T.get o.type).kind with | .slice e=>K (.nils e) | _=>K (.nils 0)
  | v=>K v)->∃pv,K pv/\VRel G e σ w pv (ρ' x):=by
  intro x hx
  have hr:=hρ x;split at hx
  ·rename_i el cz
   rw [cz] at hr;generalize ρ' x=v at hr |-
   cases hr
   split at hx
   ·exact ⟨_,hx,.nils _⟩
   exact ⟨_,hx,.nils _⟩
  exact ⟨_,hx,hr⟩
 unfold execOp
 unfold qop at h
 split at h
 ·rename_i x ho
  obtain ⟨pv,hK,hr⟩:=mv x h;exact ⟨pv,_,hK,hr,by simp only [ho,Sem.run_pure]⟩
 ·rename_i x ho
  obtain ⟨pv,hK,hr⟩:=mv x h;exact ⟨pv,_,hK,hr,by simp only [ho,Sem.run_pure]⟩
 ·rename_i c a b ho
  have hc:=hρ c;split at h
  ·rename_i t cz
   rw [cz] at hc;have hcb:=hc.dbool
   cases t with
   | true=>exact ⟨_,_,h,hρ a,by simp [ho,hcb,asBool]⟩
   | false=>exact ⟨_,_,h,hρ b,by simp [ho,hcb,asBool]⟩
  exact h.elim
 ·rename_i t ps ho
  split at h
  ·rename_i fs hk
   obtain ⟨i,d,z,hi,hd,hs,ff,bh,hz,ei,_⟩:=(hT.get (t:=t) (by rw [hk];simp)).ex;rw [hk] at bh;obtain ⟨gs,rfl,hf⟩:=bh;obtain ⟨mw,hzr⟩:=W7 (G:=G) (e:=e) (σ:=σ) (w:=w) ei;have qx:∀(l:List Field) (m:List (Nat×Nat)),FieldsOK G.P m l->∃pl:List (Nat×Nat),(l.mapM fun f=>(do pure (f.offset,<- sizeOf f.type):Sem (Nat×Nat))).run G.P w=.ok pl w/\∀(i:Nat) (f:Field) (j:TypeInfo),l[i]?=some f->G.P.info? f.type=some j->pl[i]?=some (f.offset,j.size):=by
    intro l m hm
    induction hm with
    | nil=>exact ⟨[],rfl,fun i f j h=>by simp at h⟩
    | cons o t l f m i' ho ht mc om _ ih =>
    obtain ⟨pl,h1,h2⟩:=ih;have oe:G.P.info? f.type=some i':=by rw [ht];exact mc
    refine ⟨(f.offset,i'.size)::pl,?_,fun k g j hg hj=>?_⟩
    ·simp only [List.mapM_cons,Sem.run_bind,ZF oe,Result.andThen,Sem.run_pure,h1]
    cases k with
    | zero=>simp at hg;subst hg;rw [oe] at hj;cases hj;rfl
    | succ k=>simpa using h2 k g j (by simpa using hg) hj
   obtain ⟨pl,aby,abz⟩:=qx gs.toList fs hf;obtain ⟨cs',vs',hK,ot,om,qg⟩:=Zbp hT hf hρ (fun i=>pl[i]?) abz ps.toList (T.get t).zero z.cells (by simpa using mw) (fun i x u hx hu=>hzr i x u hx (by simpa using hu)) h;refine ⟨_,_,hK,.agg _ vs' om (fun i x u hx hu=>(qg i x u hx hu).1) (fun u hu=>?_),?_⟩
   ·exact m150
   have hm:(gs.mapM fun f=>(do pure (f.offset,<- sizeOf f.type):Sem (Nat×Nat))).run G.P w=.ok pl.toArray w:=by
    rw [Array.mapM_eq_mapM_toList];simp only [Sem.run_map,aby,Result.andThen]
   simp only [ho,Instr.build,zeroValue,Sem.run_bind,YB hi,Result.andThen,hz,Sem.run_pure,Zc hd];rw [hm];have ou:Instr.fill (pl.toArray[·]?) z.cells ((ps.map fun p=>(p.1,ρ' p.2)).toList)=some vs':=by
    rw [<- ot];simp
   simp only [Result.andThen];exact m164
  ·rename_i n el hk
   obtain ⟨i,d,z,hi,hd,hs,ff,bh,hz,ei,_⟩:=(hT.get (t:=t) (by rw [hk];simp)).ex;rw [hk] at bh
   cases bh
   split at h
   ·exact h.elim
   rename_i cj
   split at h
   ·rename_i aj
    have aj:=Ta aj;obtain ⟨ie,de,ze,hie,hde,hse,_⟩:=(hT.get (t:=el) (fun h0=>cj h0)).ex;obtain ⟨mw,hzr⟩:=W7 (G:=G) (e:=e) (σ:=σ) (w:=w) ei;have hgs:∀m i0,FieldsOK G.P (Ztx (T.get el).size el m i0) ((List.range' i0 m).map fun k=>({ (default:Field) with type:=el,offset:=k * (T.get el).size }:Field)):=by
     intro m
     induction m with
     | zero=>exact fun _=>.nil
     | succ m ih=>exact fun i0=>.cons _ _ _ _ _ ie rfl rfl hie (by rw [hse];exact aj) (ih (i0+1))
    have jx:∀(i:Nat) (f:Field) (j:TypeInfo),((List.range' 0 n).map fun k=>({ (default:Field) with type:=el,offset:=k * (T.get el).size }:Field))[i]?=some f->G.P.info? f.type=some j->(fun i=>some (i * ie.size,ie.size)) i=some (f.offset,j.size):=by
     intro i f j hf hj
     have hil:i<n:=by have:=(Tj.1 hf).1;simpa using this
     simp [List.getElem?_range',hil] at hf;subst hf;simp only at hj;rw [hie] at hj;cases hj;simp [hse]
    obtain ⟨cs',vs',hK,ot,om,qg⟩:=Zbp hT (hgs n 0) hρ (fun i=>some (i * ie.size,ie.size)) jx ps.toList (T.get t).zero z.cells (by simpa using mw) (fun i x u hx hu=>hzr i x u hx (by simpa using hu)) h;refine ⟨_,_,hK,.agg _ vs' om (fun i x u hx hu=>(qg i x u hx hu).1) (fun u hu=>?_),?_⟩
    ·exact m150
    simp only [ho,Instr.build,zeroValue,Sem.run_bind,YB hi,Result.andThen,hz,Sem.run_pure,Zc hd,ZF hie];have ou:Instr.fill (fun i=>some (i * ie.size,ie.size)) z.cells ((ps.map fun p=>(p.1,ρ' p.2)).toList)=some vs':=by
     rw [<- ot];simp
    exact m164
   exact h.elim
  exact h.elim
 ·rename_i t a ho
  obtain ⟨pv,u,hK,hr,am⟩:=ZeK hT hS (hρ a) h;exact ⟨pv,u,hK,hr,by simp only [ho,Sem.run_bind,am,Result.andThen,Sem.run_pure]⟩
 ·rename_i x ho
  have hx:=hρ x;split at h
  ·rename_i b off cz;rw [cz] at hx
   exact m136
  ·rename_i r off cz;rw [cz] at hx
   exact m136
  ·rename_i g a c cz;rw [cz] at hx
   exact m136
  exact h.elim
 ·rename_i op t x y yt ho
  obtain ⟨pv,u,hK,hr,am⟩:=Zlf hT (hρ x) (hρ y) h;exact ⟨pv,u,hK,hr,by simp only [ho];rw [Sem.run_bind,am];rfl⟩
 ·rename_i op t x ho
  have hx:=hρ x;split at h
  ·rename_i b cz;rw [cz] at hx
   exact ⟨_,_,h,.mkbool,by simp [ho,hx.dbool,Op.unary]⟩
  ·rename_i k a cz;rw [cz] at hx
   obtain ⟨pv,h1,h2⟩:=J4 (G:=G) (e:=e) (σ:=σ) (w:=w) h;exact ⟨_,_,h1,h2,by simp [ho,hx.dint,Op.unary,Op.intArith]⟩
  ·rename_i k a cz;rw [cz] at hx
   exact ⟨_,_,h,.mkint,by simp [ho,hx.dint,Op.unary,ZaC]⟩
  exact h.elim
 ·rename_i s d x ho
  have hx:=hρ x;split at h
  ·exact h.elim
  ·rename_i el hk
   obtain ⟨i,ds,z,hi,hd,hs,ff,bh,hz,ei,_⟩:=(hT.get (t:=s) (by rw [hk];simp)).ex;rw [hk] at bh;cases bh;split at h
   ·rename_i cj
    obtain ⟨i2,dd,z2,aa,bf,gd,jw,bq,ei,ug,_⟩:=(hT.get (t:=d) (by rw [cj];simp)).ex;rw [cj] at bq;cases bq;split at h
    ·rename_i iq
     obtain ⟨i3,de,z3,hi3,my,hs3,x7,ld,uh,ab2,_⟩:=(hT.get (t:=el) (by rw [iq];simp)).ex;rw [iq] at ld;cases ld;split at h
     ·rename_i rows bj
      obtain ⟨l,rfl,hK⟩:=h;have hD:=Up bj hx;have hb:=Zid (G:=G) hD;refine ⟨_,_,hK,.mkstr,?_⟩;obtain ⟨a,cap,hv,_⟩:=hD.sl_inv;simp only [ho,convert,Sem.run_bind,Zc hd,Zc bf,Result.andThen];rw [hv] at hb |-;simp only [Zc my,Sem.run_bind,Result.andThen,hb,Sem.run_pure]
     exact h.elim
    exact h.elim
   exact h.elim
  rename_i ir cj
  obtain ⟨i,ds,z,hi,hd,hs,ff,bh,hz,ei,_⟩:=(hT.get (t:=s) (fun h0=>ir h0)).ex;split at h
  ·rename_i k j9
   obtain ⟨i2,dd,z2,aa,bf,gd,jw,bq,ei,ug,_⟩:=(hT.get (t:=d) (by rw [j9];simp)).ex;rw [j9] at bq;cases bq;split at h
   ·rename_i k' n cz;rw [cz] at hx
    obtain ⟨pv,h1,h2⟩:=J4 (G:=G) (e:=e) (σ:=σ) (w:=w) h;refine ⟨_,_,h1,h2,?_⟩;simp only [ho,hx.dint,convert,Sem.run_bind,Zc hd,Zc bf,Result.andThen];rfl
   exact h.elim
  ·rename_i j9
   obtain ⟨i2,dd,z2,aa,bf,gd,jw,bq,ei,ug,_⟩:=(hT.get (t:=d) (by rw [j9];simp)).ex;rw [j9] at bq;cases bq;split at h
   ·rename_i s' cz;rw [cz] at hx
    refine ⟨_,_,h,.mkstr,?_⟩;simp only [ho,hx.dstr,convert,Sem.run_bind,Zc hd,Zc bf,Result.andThen];rfl
   ·rename_i k' n cz;rw [cz] at hx
    refine ⟨_,_,h,.mkstr,?_⟩;simp only [ho,hx.dint,convert,Sem.run_bind,Zc hd,Zc bf,Result.andThen];simp [Conv.intToString]
   exact h.elim
  exact h.elim
 ·rename_i s x i ho
  have hx:=hρ x;split at h
  ·rename_i fs hk
   obtain ⟨ti,d,z,hi,hd,hs,ff,bh,hz,ei,_⟩:=(hT.get (t:=s) (by rw [hk];simp)).ex;rw [hk] at bh;obtain ⟨gs,rfl,hf⟩:=bh;split at h
   ·rename_i off t ue
    obtain ⟨f,j,hg,dw,ht,hj,ui⟩:=hf.get ue;have qy:gs[i]?=some f:=by simpa using hg
    have hfp:∀(b oo:Nat),(fieldPlace ⟨b,oo,none⟩ f).run G.P w=.ok ⟨b,oo+off,none⟩ w:=fun b oo=>by
     exact m167
    split at h
    ·rename_i b oo cz;rw [cz] at hx
     generalize hv:ρ' x=v at hx
     cases hx with
     | ptr b oo hb =>
     refine ⟨_,_,h,.ptr b (oo+off) hb,?_⟩;simp [ho,hv,Instr.fieldAt,Zc hd,qy,Instr.sureAddr,hfp]
    ·rename_i r oo cz;rw [cz] at hx
     generalize hv:ρ' x=v at hx
     cases hx with
     | elem r oo b o2 u hc aw hu =>
     refine ⟨_,_,h,.elem r (oo+off) b o2 u hc aw hu,?_⟩;simp [ho,hv,Instr.fieldAt,Zc hd,qy,Instr.sureAddr,hfp,Sg]
    exact h.elim
   exact h.elim
  exact h.elim
 ·rename_i s x i ho
  have hx:=hρ x;split at h
  ·rename_i fs hk
   obtain ⟨ti,d,z,hi,hd,hs,ff,bh,hz,ei,_⟩:=(hT.get (t:=s) (by rw [hk];simp)).ex;rw [hk] at bh;obtain ⟨gs,rfl,hf⟩:=bh;split at h
   ·rename_i off t ue
    obtain ⟨f,j,hg,dw,ht,hj,ui⟩:=hf.get ue;have qy:gs[i]?=some f:=by simpa using hg
    split at h
    ·rename_i cs cz;rw [cz] at hx
     generalize hv:ρ' x=v at hx
     cases hx with
     | agg cs vs hsz hr h1 =>
     split at h
     ·rename_i l5
      obtain ⟨i2,d2,z2,aa,bf,gd,_,bq,_,_,_⟩:=(hT.get (t:=t) (by intro h0;rw [h0] at l5;cases l5)).ex;split at h
      ·rename_i l hl
       obtain ⟨ww,ub⟩:=VV hl;have hb:∀k,k<l.length->off+k<vs.size/\cs[off+k]?=l[k]?:=fun k hk=>by
        exact m182
       refine ⟨_,.agg (vs.extract off (off+j.size)),h,.agg l _ ?_ ?_ ?_,?_⟩
       ·have gh:j.size=l.length:=by rw [hj] at aa;cases aa;omega
        simp only [Array.size_extract,gh]
        by_cases ov:l.length=0
        ·omega
        have:=(hb (l.length - 1) oM).1;omega
       ·intro k y u hy hu
        exact m148
       ·intro u hu
        exact m184
       have ow:=Jg bq bf w;rw [l5] at ow;subst ht;simp [ho,hv,Instr.field,Zc hd,qy,asAgg,part,ow,ZF hj,dw]
      exact h.elim
     rename_i l5
     split at h
     ·exact h.elim
     rename_i cj
     obtain ⟨i2,d2,z2,aa,bf,gd,_,bq,_,_,_⟩:=(hT.get (t:=t) (fun h0=>cj h0)).ex;split at h
     ·rename_i y hy
      have ah:off<vs.size:=by rw [hsz];exact (Tj.1 hy).1
      have sc:vs[off]?=some vs[off]:=TF ah;have ow:=Jg bq bf w;rw [l5] at ow;subst ht;exact ⟨_,vs[off],h,hr off y _ hy sc,by simp [ho,hv,Instr.field,Zc hd,qy,asAgg,part,ow,dw,sc]⟩
     exact h.elim
    exact h.elim
   exact h.elim
  exact h.elim
 ·rename_i t x i ho
  have hx:=hρ x;have hi:=hρ i;split at h
  ·rename_i k n cz;rw [cz] at hi
   have uj:=hi.dint;split at h
   ·rename_i hk
    obtain ⟨ti,d,z,ox,hd,hs,ff,bh,hz,ei,_⟩:=(hT.get (t:=t) (by rw [hk];simp)).ex;rw [hk] at bh;cases bh;split at h
    ·rename_i s uk;rw [uk] at hx
     have x8:=hx.dstr;obtain ⟨h0,h1,hK⟩:=h;have ah:n.toNat<s.length:=oM;have hb:(⟨s.toArray⟩:ByteArray)[n.toNat]?=some (s[n.toNat]):=by
      rw [getElem?_pos (h:=(by show n.toNat<s.length;exact ah))];rfl
     refine ⟨_,_,hK,.mkint,?_⟩;simp [ho,x8,uj,Instr.index,Wp,Zc hd,h0,hb,List.getD,Ti ah]
    exact h.elim
   ·rename_i m el hk
    obtain ⟨ti,d,z,ox,hd,hs,ff,bh,hz,ei,_⟩:=(hT.get (t:=t) (by rw [hk];simp)).ex;rw [hk] at bh;cases bh;split at h
    ·rename_i cs uk;rw [uk] at hx
     generalize hv:ρ' x=v at hx
     cases hx with
     | agg cs vs hsz hr h1 =>
     split at h
     ·rename_i l5
      obtain ⟨i2,d2,z2,aa,bf,gd,_,bq,_,_,_⟩:=(hT.get (t:=el) (by intro h0;rw [h0] at l5;cases l5)).ex;split at h
      ·rename_i l hl
       obtain ⟨g0,g1,h⟩:=h;obtain ⟨ww,ub⟩:=VV hl;obtain ⟨off,kn⟩:∃off,off=n.toNat * (T.get el).size:=⟨_,rfl⟩
       rw [<- kn] at ub;have hb:∀k,k<l.length->off+k<vs.size/\cs[off+k]?=l[k]?:=fun k hk=>by
        exact m182
       refine ⟨_,.agg (vs.extract off (off+i2.size)),h,.agg l _ ?_ ?_ ?_,?_⟩
       ·have gh:i2.size=l.length:=by omega
        simp only [Array.size_extract,gh]
        by_cases ov:l.length=0
        ·have:=gd;have jz:1<=l.length\/l.length=0:=by omega
         have ak:off<=vs.size\/vs.size<off:=oM;omega
        have:=(hb (l.length - 1) oM).1;omega
       ·intro k y u hy hu
        exact m148
       ·intro u hu
        exact m184
       have ow:=Jg bq bf w;rw [l5] at ow;simp [ho,hv,uj,Instr.index,Wp,Zc hd,g0,g1,part,ow,ZF aa,kn,gd]
      exact h.elim
     rename_i l5
     split at h
     ·exact h.elim
     rename_i cj
     obtain ⟨i2,d2,z2,aa,bf,gd,_,bq,_,_,_⟩:=(hT.get (t:=el) (fun h0=>cj h0)).ex;split at h
     ·rename_i jz
      have mg:=Tn jz;split at h
      ·rename_i y hy
       obtain ⟨h0,hm,hK⟩:=h;have ah:n.toNat<vs.size:=by rw [hsz];exact (Tj.1 hy).1
       have sc:vs[n.toNat]?=some vs[n.toNat]:=TF ah;have ow:=Jg bq bf w;rw [l5] at ow;have wx:i2.size=1:=oM;exact ⟨_,vs[n.toNat],hK,hr n.toNat y _ hy sc,by simp [ho,hv,uj,Instr.index,Wp,Zc hd,h0,hm,part,ow,ZF aa,wx,sc]⟩
      exact h.elim
     exact h.elim
    exact h.elim
   exact h.elim
  exact h.elim
 ·rename_i t x i ho
  have hx:=hρ x;have hi:=hρ i;split at h
  ·rename_i k n cz;rw [cz] at hi
   have uj:=hi.dint;split at h
   ·rename_i el hk
    obtain ⟨ti,d,z,ox,hd,hs,ff,bh,hz,ei,_⟩:=(hT.get (t:=t) (by rw [hk];simp)).ex;rw [hk] at bh;cases bh;split at h
    ·exact h.elim
    rename_i cj
    obtain ⟨i2,d2,z2,aa,bf,gd,_,bq,_,_,_⟩:=(hT.get (t:=el) (fun h0=>cj h0)).ex;split at h
    ·rename_i b off m oy
     obtain ⟨h0,ul,hK⟩:=h;rw [oy] at hx;generalize hv:ρ' x=vx at hx
     cases hx with
     | asl _ _ _ hb =>
     refine ⟨_,_,hK,.ptr b (off+n.toNat * (T.get el).size) hb,?_⟩;simp [ho,hv,uj,Instr.indexAt,Wp,Zc hd,h0,ul,ZF aa,Ym,gd]
    split at h
    ·rename_i rows bj
     obtain ⟨r,h0,hr,hK⟩:=h;split at hK
     ·rename_i ab
      have hl:=Tn ab;obtain ⟨b,off,cap,u,hv,hn,hc,aw,hu⟩:=ZBR (Up bj hx) hr;refine ⟨_,_,hK,.elem r 0 b (off+n.toNat * r.length) u hc aw hu,?_⟩;have ul:n<(rows.length:Int):=oM;simp [ho,hv,uj,Instr.indexAt,Wp,Zc hd,h0,ul,ZF aa,Ym,gd,hl]
     exact hK.elim
    exact h.elim
   ·rename_i m el hk
    obtain ⟨ti,d,z,ox,hd,hs,ff,bh,hz,ei,_⟩:=(hT.get (t:=t) (by rw [hk];simp)).ex;rw [hk] at bh;cases bh;split at h
    ·exact h.elim
    rename_i cj
    obtain ⟨i2,d2,z2,aa,bf,gd,_,bq,_,_,_⟩:=(hT.get (t:=el) (fun h0=>cj h0)).ex;split at h
    ·rename_i b off oy
     obtain ⟨h0,ul,hK⟩:=h;rw [oy] at hx;generalize hv:ρ' x=vx at hx
     cases hx with
     | ptr _ _ hb =>
     refine ⟨_,_,hK,.ptr b (off+n.toNat * (T.get el).size) hb,?_⟩;simp [ho,hv,uj,Instr.indexAt,Instr.sureAddr,Wp,Zc hd,h0,ul,ZF aa,Ym,gd]
    exact h.elim
   exact h.elim
  exact h.elim
 ·rename_i t x lo hi ho
  obtain ⟨pv,u,hK,hr,am⟩:=Zic hT (hρ x) hρ h;exact ⟨pv,u,hK,hr,by simp only [ho,Option.map_none,Sem.run_bind,am,Result.andThen,Sem.run_pure]⟩
 ·rename_i x i ho
  have hx:=hρ x;split at h
  ·rename_i cs cz;rw [cz] at hx
   generalize hv:ρ' x=v at hx
   cases hx with
   | tuple cs vs hsz hr =>
   split at h
   ·rename_i y hy
    have ah:i<vs.size:=by rw [hsz];exact (Tj.1 hy).1
    have sc:vs[i]?=some vs[i]:=TF ah;exact ⟨_,vs[i],h,hr i y _ hy sc,by simp [ho,hv,Instr.extract,sc]⟩
   exact h.elim
  exact h.elim
 ·rename_i g a c ho
  refine ⟨_,_,h,.func g _ _ (a.map ρ') (c.map ρ') sM sM ?_ ?_,by simp [ho,Instr.makeFunc]⟩
  ·intro i x u hx hu
   rw [TL] at hx;rw [Array.getElem?_map] at hu
   cases hq:a[i]? with
   | none=>rw [hq] at hu;cases hu
   | some q =>
   exact m181
  intro i x u hx hu
  rw [TL] at hx;rw [Array.getElem?_map] at hu
  cases hq:c[i]? with
  | none=>rw [hq] at hu;cases hu
  | some q =>
  exact m181
 ·rename_i t x ho
  split at h
  ·exact h.elim
  ·exact h.elim
  rename_i ir cj
  obtain ⟨ti,d,z,ox,hd,hs,ff,bh,hz,ei,_⟩:=(hT.get (t:=t) (fun h0=>cj h0)).ex;refine ⟨_,_,h,.iface t _ _ (hρ x),?_⟩;have:∀ms,d≠.interface ms:=fun ms h0=>by
   exact m123
  simp only [ho,Instr.makeInterface,Sem.run_bind,Zc hd,Result.andThen]
  cases d <;> first | rfl | exact absurd rfl (this _)
 ·rename_i x xt t ho
  split at h
  ·exact h.elim
  ·exact h.elim
  rename_i ir cj
  obtain ⟨ti,d,z,ox,hd,hs,ff,bh,hz,ei,_⟩:=(hT.get (t:=t) (fun h0=>cj h0)).ex;have this:∀ms,d≠.interface ms:=fun ms h0=>by
   exact m123
  have hx:=hρ x;split at h
  ·rename_i t' pv cz
   split at h
   ·rename_i hb
    cases Tn hb
    rw [cz] at hx;generalize hv:ρ' x=vv at hx
    cases hx with
    | iface _ _ u hu =>
    refine ⟨_,.tuple #[u,.bool true],h,.tuple _ _ rfl (fun i p q hp hq=>?_),?_⟩
    ·match i with
     | 0=>cases hp;cases hq;exact hu
     | 1=>cases hp;cases hq;exact .mkbool
     | n+2=>simp at hp
    simp only [ho,hv,Instr.typeAssert,Sem.run_bind,Zc hd,Result.andThen]
    cases d <;> first | exact absurd rfl (this _) | simp
   exact h.elim
  exact h.elim
 ·rename_i b args argTypes ho
  have aq:∀vs,args.toList.map ρ=vs->∃us:List Value,(args.map ρ').toList=us/\us.length=vs.length/\∀(i:Nat) (x:PV) (u:Value),vs[i]?=some x->us[i]?=some u->VRel G e σ w x u:=fun vs fg=>by
   refine ⟨_,rfl,by rw [<- fg];simp,fun i x u hx hu=>?_⟩;rw [<- fg,TL] at hx;rw [Array.toList_map,TL] at hu
   cases hq:args.toList[i]? with
   | none=>rw [hq] at hx;cases hx
   | some q=>rw [hq] at hx hu;cases hx;cases hu;exact hρ q
  split at h
  ·rename_i t ts v x9 fg
   obtain ⟨us,um,ab,hr⟩:=aq _ fg;have sd:argTypes[0]?=some t:=by rw [<- TA,x9];rfl
   cases us with
   | nil=>cases ab
   | cons u us2 =>
   cases us2 with
   | cons _ _=>simp at ab
   | nil =>
   have hu:=hr 0 v u rfl rfl;have mf:(args.map ρ')[0]?=some u:=by rw [<- TA,um];rfl
   split at h
   ·rename_i hk
    obtain ⟨ti,d,z,ox,hd,hs,ff,bh,hz,ei,_⟩:=(hT.get (t:=t) (by rw [hk];simp)).ex;rw [hk] at bh;cases bh;split at h
    ·rename_i s
     have um:=hu.dstr;subst um;exact m87
    exact h.elim
   ·rename_i el hk
    obtain ⟨ti,d,z,ox,hd,hs,ff,bh,hz,ei,_⟩:=(hT.get (t:=t) (by rw [hk];simp)).ex;rw [hk] at bh;cases bh;split at h
    ·rename_i b off m
     cases hu with
     | asl _ _ _ hb =>
     exact m87
    split at h
    ·rename_i rows bj
     obtain ⟨a,cap,hv,_⟩:=(Up bj hu).sl_inv;subst hv;exact m87
    exact h.elim
   exact h.elim
  ·rename_i k a k' b fg
   obtain ⟨us,um,ab,hr⟩:=aq _ fg;split at h
   ·rename_i j9
    cases ZcX j9
    match us,ab with
    | [u1,u2],_ =>
     have h1:=(hr 0 _ u1 rfl rfl).dint;have h2:=(hr 1 _ u2 rfl rfl).dint;subst h1;subst h2;refine ⟨_,_,h,.mkint,?_⟩;simp only [ho,resolve,invoke,builtin,Sem.run_bind,Sem.run_pure,Result.andThen,Builtin.min_,um];have:min a b=(if b<a then b else a):=by split <;> omega
     rw [this];rfl
   exact h.elim
  ·rename_i k a k' b fg
   obtain ⟨us,um,ab,hr⟩:=aq _ fg;split at h
   ·rename_i j9
    cases ZcX j9
    match us,ab with
    | [u1,u2],_ =>
     have h1:=(hr 0 _ u1 rfl rfl).dint;have h2:=(hr 1 _ u2 rfl rfl).dint;subst h1;subst h2;refine ⟨_,_,h,.mkint,?_⟩;simp only [ho,resolve,invoke,builtin,Sem.run_bind,Sem.run_pure,Result.andThen,Builtin.max_,um];have:max a b=(if b>a then b else a):=by split <;> omega
     rw [this];rfl
   exact h.elim
  exact h.elim
 exact h.elim
end
end Go.PM
end
