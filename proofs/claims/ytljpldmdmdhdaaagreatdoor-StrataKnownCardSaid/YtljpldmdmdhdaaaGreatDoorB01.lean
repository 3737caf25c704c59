/- A part of the proof: plain logic, contracts and laws over the given program. -/
import Derived.Laws.AppendOwn
import Derived.Below
import Derived.Laws.StructEq
import Derived.Laws.Pointers
import Derived.Laws.Cover3
import Derived.Laws.Cells
import Derived.Laws.Slices
import Derived.Laws.Strings
import GoSem.Dispatch
import Derived.Laws.BytesString
import Derived.Test.YtljpldmdmdhdaaaGreatDoorB00
set_option linter.unusedVariables false
set_option linter.unusedSimpArgs false
set_option linter.all false
set_option maxRecDepth 100000
set_option maxHeartbeats 16000000
section
namespace Go.PM
open Go.RowKit
inductive DRel (ok:Nat->Nat->Prop) (w:World):D->Value->Prop
 | bool (b:Bool):DRel ok w (.bool b) (.bool b)
 | int (k:IntKind) (n:Int):DRel ok w (.int k n) (.int k n)
 | str (s:List UInt8):DRel ok w (.str s) (.string ⟨s.toArray⟩)
 | nilp:DRel ok w .nilp (.pointer none)
 | nilf:DRel ok w .nilf .nilFunc
 | nili:DRel ok w .nili .nilIface
 | slnil:DRel ok w (.sl []) (.slice none 0 0)
 | slz (a:Addr):DRel ok w (.sl []) (.slice (some a) 0 0)
 | sl (rows:List (List D)) (b off cap sz:Nat) (u:Nat->Nat->Value) (hcap:rows.length<=cap) (hsz:∀r∈rows,r.length=sz)
   (hc:∀i j,i<rows.length->j<sz->w.cell? ⟨b,off+i * sz+j,none⟩=some (u i j))
   (ho:∀i j,i<rows.length->j<sz->ok b (off+i * sz+j))
   (hu:∀(i j:Nat) (x:D),(rows[i]?.bind (·[j]?))=some x->DRel ok w x (u i j)):DRel ok w (.sl rows) (.slice (some ⟨b,off,none⟩) rows.length cap)
structure GE where
 P:Program
 w0:World
 nG:Nat
structure Env where
 β:Nat->Nat
 M:Nat->Option (Nat×Nat)
 X:Nat->Nat->Prop
 H:Nat->Option ((Nat×List UInt8)×Nat)
def okc (e:Env) (σ:St) (b off:Nat):Prop :=
 ¬e.X b off/\(∀i,i<σ.bx.length->e.β i≠b)/\(∀t,t∈σ.tk->∀p,e.M t=some p->p.1=b->off<p.2)/\∀q,e.H b=some q->off<q.2
def OwnedAt (G:GE) (w:World) (el:Nat) (rows:List (List D)) (v:Value) (p:Option (Nat×Nat)):Prop :=
 (v=.slice none 0 0/\rows=[]/\p=none) \/
 ∃ sz, (G.P.info? el).map (·.size) = some sz /\ 0 < sz /\ (∀ r ∈ rows, r.length = sz) /\
    ∃b off cap cs ty fz,v=.slice (some ⟨b,off,none⟩) rows.length cap/\G.nG<=b/\rows.length<=cap/\w.heap[b]?=some (.cells cs ty fz)/\(off+cap * sz<=cs.size/\off=0/\ty=el/\0<cap) /\
     (fz.1<=fz.2/\∀o,off+rows.length * sz<=o->fz.1<=o->fz.2<=o)/\p=some (b,off+rows.length * sz)
def Owned (G:GE) (e:Env) (w:World) (t el:Nat) (rows:List (List D)) (v:Value):Prop:=OwnedAt G w el rows v (e.M t)
def HOwned (G:GE) (e:Env) (w:World) (bb:Nat) (k:List UInt8) (el:Nat) (rows:List (List D)) (v:Value):Prop:=∃p,OwnedAt G w el rows v p/\∀q,p=some q->e.H q.1=some ((bb,k),q.2)
inductive VRel (G:GE) (e:Env) (σ:St) (w:World):PV->Value->Prop
 | d (x:D) (v:Value) (h:DRel (okc e σ) w x v):VRel G e σ w (.d x) v
 | undef (v:Value):VRel G e σ w .undef v
 | ptr (b off:Nat) (h:b<σ.bx.length):VRel G e σ w (.ptr b off) (.pointer (some ⟨e.β b,off,none⟩))
 | elem (r:List D) (off b o:Nat) (u:Nat->Value) (hc:∀j,j<r.length->w.cell? ⟨b,o+j,none⟩=some (u j)) (ho:∀j,j<r.length->okc e σ b (o+j))
   (hu:∀(j:Nat) (x:D),r[j]?=some x->DRel (okc e σ) w x (u j)):VRel G e σ w (.elem r off) (.pointer (some ⟨b,o+off,none⟩))
 | sl (t el:Nat) (rows:List (List D)) (v:Value) (hn:t<σ.nx) (hd:DRel (okc e σ) w (.sl rows) v) (ht:t∈σ.tk->Owned G e w t el rows v):VRel G e σ w (.sl t el rows) v
 | nils (el:Nat):VRel G e σ w (.nils el) (.slice none 0 0)
 | asl (b off n:Nat) (h:b<σ.bx.length):VRel G e σ w (.asl b off n) (.slice (some ⟨e.β b,off,none⟩) n n)
 | func (f:FuncId) (a c:List PV) (va vc:Array Value) (ha:va.size=a.length) (hc:vc.size=c.length) (h1:∀(i:Nat) (x:PV) (u:Value),a[i]?=some x->va[i]?=some u->VRel G e σ w x u)
   (h2:∀(i:Nat) (x:PV) (u:Value),c[i]?=some x->vc[i]?=some u->VRel G e σ w x u):VRel G e σ w (.func f a c) (.func (.func f) va vc)
 | iface (t:TypeId) (x:PV) (v:Value) (h:VRel G e σ w x v):VRel G e σ w (.iface t x) (.iface t v)
 | agg (cs:List PV) (vs:Array Value) (hs:vs.size=cs.length) (h:∀(i:Nat) (x:PV) (u:Value),cs[i]?=some x->vs[i]?=some u->VRel G e σ w x u) (h1:∀u∈vs,u.oneCell'=true):VRel G e σ w (.agg cs) (.agg vs)
 | tuple (cs:List PV) (vs:Array Value) (hs:vs.size=cs.length) (h:∀(i:Nat) (x:PV) (u:Value),cs[i]?=some x->vs[i]?=some u->VRel G e σ w x u):VRel G e σ w (.tuple cs) (.tuple vs)
 | raw (v:Value):VRel G e σ w (.raw v) v
 | mp (b:Nat) (h:b<σ.bx.length):VRel G e σ w (.mp b) (.map (some (e.β b)))
 | nilm:VRel G e σ w .nilm (.map none)
def DRel.mono {ok ok':Nat->Nat->Prop} {w w':World} {x:D} {v:Value} (h:DRel ok w x v)
  (hp:∀b off u,w.cell? ⟨b,off,none⟩=some u->ok b off->ok' b off/\w'.cell? ⟨b,off,none⟩=some u):DRel ok' w' x v:=by
 induction h with
 | bool b=>exact .bool b
 | int k n=>exact .int k n
 | str s=>exact .str s
 | nilp=>exact .nilp
 | nilf=>exact .nilf
 | nili=>exact .nili
 | slnil=>exact .slnil
 | slz a=>exact .slz a
 | sl rows b off cap sz u hcap hsz hc ho _ ih =>
 exact .sl rows b off cap sz u hcap hsz (fun i j hi hj=>(hp _ _ _ (hc i j hi hj) (ho i j hi hj)).2) (fun i j hi hj=>(hp _ _ _ (hc i j hi hj) (ho i j hi hj)).1)
  (fun i j x hx=>ih i j x hx)
structure Later (e:Env) (σ:St) (w:World) (e':Env) (σ':St) (w':World):Prop where
 len:σ.bx.length<=σ'.bx.length
 beta:∀i,i<σ.bx.length->e'.β i=e.β i
 X:∀b off,e.X b off->e'.X b off
 pres:∀b off u,w.cell? ⟨b,off,none⟩=some u->okc e σ b off->okc e' σ' b off/\w'.cell? ⟨b,off,none⟩=some u
 blocks:∀b,b<w.heap.size->(∀i,i<σ.bx.length->e.β i≠b)->(∀t,t∈σ.tk->∀p,e.M t=some p->p.1≠b)->e.H b=none->w'.heap[b]?=w.heap[b]?
 size:w.heap.size<=w'.heap.size
 os:w'.os=w.os
 tape:w'.tape=w.tape
 output:w'.output=w.output
 fresh:∀i,σ.bx.length<=i->i<σ'.bx.length->w.heap.size<=e'.β i
 ftok:∀t,t∈σ'.tk->∀p,e'.M t=some p->w.heap.size<=p.1\/(∃t0,t0∈σ.tk/\∃p0,e.M t0=some p0/\p0.1=p.1)\/e.H p.1≠none
 fhid:∀b,e'.H b≠none->w.heap.size<=b\/(∃t0,t0∈σ.tk/\∃p0,e.M t0=some p0/\p0.1=b)\/e.H b≠none
structure Stepped (e:Env) (σ:St) (w:World) (e':Env) (σ':St) (w':World):Prop extends Later e σ w e' σ' w' where
 nx:σ.nx<=σ'.nx
 toks:∀t,t<σ.nx->t∈σ'.tk->t∈σ.tk/\e'.M t=e.M t
 own:∀t,t<σ.nx->t∈σ'.tk->∀p,e.M t=some p->p.1<w.heap.size->w'.heap[p.1]?=w.heap[p.1]?
def Vf {w:World} {b off:Nat} {u:Value} (h:w.cell? ⟨b,off,none⟩=some u):b<w.heap.size:=World.block_lt_of_cell? w ⟨b,off,none⟩ h
def DRel.later {e:Env} {σ:St} {w:World} {e':Env} {σ':St} {w':World} {x:D} {v:Value} (h:DRel (okc e σ) w x v) (hl:Later e σ w e' σ' w'):DRel (okc e' σ') w' x v :=
 h.mono fun b off u hc ho=>hl.pres b off u hc ho
def Later.refl (e:Env) (σ:St) (w:World):Later e σ w e σ w:=⟨Tt _,fun _ _=>rfl,fun _ _ h=>h,fun _ _ _ hc h=>⟨h,hc⟩,fun _ _ _ _ _=>rfl,Tt _,rfl,rfl,rfl,fun i h1 h2=>oM,fun t ht p hp=>.inr (.inl ⟨t,ht,p,hp,rfl⟩),fun b h=>.inr (.inr h)⟩
theorem Later.trans {e0 e1 e2:Env} {σ0 σ1 σ2:St} {w0 w1 w2:World} (h:Later e0 σ0 w0 e1 σ1 w1) (k:Later e1 σ1 w1 e2 σ2 w2):Later e0 σ0 w0 e2 σ2 w2 where
 len:=TP h.len k.len
 beta:=fun i hi=>(k.beta i (TC hi h.len)).trans (h.beta i hi)
 X:=fun b off h0=>k.X b off (h.X b off h0)
 pres:=fun b off u hu ho=>let ⟨h1,h2⟩:=h.pres b off u hu ho;k.pres b off u h2 h1
 blocks:=fun b hb hn ht hH=>(k.blocks b (TC hb h.size) (fun i hi=>by
   by_cases hi0:i<σ0.bx.length
   ·rw [h.beta i hi0];simp_all
   ·have:=h.fresh i oM hi;omega) (fun t ym p hp=>by
   rcases h.ftok t ym p hp with h1 | ⟨t0,qm,p0,w5,h1⟩ | h1
   ·omega
   ·grind
   grind) (by
   cases hq:e1.H b with
   | none=>rfl
   | some q =>
   rcases h.fhid b (by grind) with h1 | ⟨t0,qm,p0,w5,h1⟩ | h1
   ·omega
   ·grind
   simp_all)).trans (h.blocks b hb hn ht hH)
 size:=TP h.size k.size
 os:=k.os.trans h.os
 tape:=k.tape.trans h.tape
 output:=k.output.trans h.output
 fresh:=fun i h1 h2=>by
  by_cases hi:i<σ1.bx.length
  ·rw [k.beta i hi];exact h.fresh i h1 hi
  exact TP h.size (k.fresh i oM h2)
 ftok:=fun t ht p hp=>by
  rcases k.ftok t ht p hp with h1 | ⟨t1,ic,p1,yo,h1⟩ | h1
  ·exact .inl (TP h.size h1)
  ·rcases h.ftok t1 ic p1 yo with h2 | ⟨t0,qm,p0,w5,h2⟩ | h2
   ·omega
   ·grind
   simp_all
  exact h.fhid _ h1
 fhid:=fun b hb=>by
  rcases k.fhid b hb with h1 | ⟨t1,ic,p1,yo,h1⟩ | h1
  ·exact .inl (TP h.size h1)
  ·rcases h.ftok t1 ic p1 yo with h2 | ⟨t0,qm,p0,w5,h2⟩ | h2
   ·omega
   ·grind
   simp_all
  exact h.fhid _ h1
def Stepped.refl (e:Env) (σ:St) (w:World):Stepped e σ w e σ w:={ Later.refl e σ w with nx:=Tt _,toks:=fun _ _ h=>⟨h,rfl⟩,own:=fun _ _ _ _ _ _=>rfl }
def Owned.step {G:GE} {e:Env} {σ:St} {w:World} {e':Env} {σ':St} {w':World} {t el:Nat} {rows:List (List D)} {v:Value} (h:Owned G e w t el rows v)
  (hs:Stepped e σ w e' σ' w') (hn:t<σ.nx) (ht:t∈σ'.tk):Owned G e' w' t el rows v:=by
 rcases h with ⟨rfl,hr,hm⟩ | ⟨sz,h1,h2,h3,b,off,cap,cs,ty,fz,rfl,hb,hc,hh,hsz,ll,hm⟩
 ·exact .inl ⟨rfl,hr,(hs.toks t hn ht).2.trans hm⟩
 exact .inr ⟨sz,h1,h2,h3,b,off,cap,cs,ty,fz,rfl,hb,hc,(hs.own t hn ht _ hm (Tv.1 hh).1).trans hh,hsz,ll,(hs.toks t hn ht).2.trans hm⟩
def VRel.step {G:GE} {e:Env} {σ:St} {w:World} {e':Env} {σ':St} {w':World} {x:PV} {v:Value} (h:VRel G e σ w x v) (hs:Stepped e σ w e' σ' w'):VRel G e' σ' w' x v:=by
 induction h with
 | d x v h=>exact .d x v (h.later hs.toLater)
 | undef v=>exact .undef v
 | ptr b off h=>rw [<- hs.beta b h];exact .ptr b off (TC h hs.len)
 | elem r off b o u hc ho hu =>
  exact .elem r off b o u (fun j hj=>(hs.pres b _ _ (hc j hj) (ho j hj)).2) (fun j hj=>(hs.pres b _ _ (hc j hj) (ho j hj)).1)
   (fun j x hx=>(hu j x hx).later hs.toLater)
 | sl t el rows v hn hd ht=>exact .sl t el rows v (TC hn hs.nx) (hd.later hs.toLater) fun h=>(ht (hs.toks t hn h).1).step hs hn h
 | nils el=>exact .nils el
 | asl b off n h=>rw [<- hs.beta b h];exact .asl b off n (TC h hs.len)
 | func f a c va vc ha hc _ _ ih1 ih2=>exact .func f a c va vc ha hc ih1 ih2
 | iface t x v _ ih=>exact .iface t x v ih
 | agg cs vs qf _ h1 ih=>exact .agg cs vs qf ih h1
 | tuple cs vs qf _ ih=>exact .tuple cs vs qf ih
 | raw v=>exact .raw v
 | mp b h=>rw [<- hs.beta b h];exact .mp b (TC h hs.len)
 | nilm=>exact .nilm
def StB (bn:List Nat) (ck:Nat):Prop:=bn.Nodup/\∀x∈bn,x<ck
def BRel (G:GE) (e:Env) (σ:St) (w:World):Box->Nat->Prop
 | .cells t cs,b=>∃vs:Array Value,w.heap[b]?=some (.cells vs t (0,0))/\vs.size=cs.length/\∀(i:Nat) (x:PV) (u:Value),cs[i]?=some x->vs[i]?=some u->VRel G e σ w x u/\u.oneCell'=true
 | .iter s pos,b=>w.heap[b]?=some (.stringIter ⟨s.toArray⟩ pos)
 | .loop st pd r,b=>w.heap[b]?=some (.loop { r with state:=st,pending:=pd })
 | .dmap m,b=>∃(bn:List Nat) (ck:Nat),StB bn ck/\∃es:Array MapEntry,w.heap[b]?=some (.map es ck)/\es.size=bn.length/\(J1 m).length=2 * bn.length /\
   ∀(i:Nat) (u:MapEntry),es[i]?=some u->bn[i]?=some u.born/\∃k x,(J1 m)[2 * i]?=some (.d (.str k))/\(J1 m)[2 * i+1]?=some x/\u.key=.string ⟨k.toArray⟩/\VRel G e σ w x u.val
 | .smap el m fo,b=>∃es:Array MapEntry,(∃(bn:List Nat) (ck:Nat),w.heap[b]?=some (.map es ck)/\es.size=bn.length/\(VR m fo).length=2 * bn.length /\
   ∀(i:Nat) (u:MapEntry),es[i]?=some u->bn[i]?=some u.born/\∃k x,(VR m fo)[2 * i]?=some (.d (.str k))/\(VR m fo)[2 * i+1]?=some x/\u.key=.string ⟨k.toArray⟩/\VRel G e σ w x u.val) /\
   (∀(i:Nat) (u:MapEntry) (x:List UInt8×List (List D)),es[i]?=some u->m[i]?=some x->(∀kv,fo=some kv->x.1≠kv.1)->HOwned G e w b x.1 el x.2 u.val) /\
   (∀kv,fo=some kv->lkM kv.1 m=none->kv.2=.nils el)/\(m.map (·.1)).Nodup
 | .map cs bn ck,b=>∃es:Array MapEntry,w.heap[b]?=some (.map es ck)/\es.size=bn.length/\cs.length=2 * bn.length /\
   ∀(i:Nat) (u:MapEntry),es[i]?=some u->bn[i]?=some u.born/\∃k x,cs[2 * i]?=some (.d (.str k))/\cs[2 * i+1]?=some x/\u.key=.string ⟨k.toArray⟩/\VRel G e σ w x u.val
structure SRel (G:GE) (e:Env) (σ:St) (w:World):Prop where
 inj:∀i j,i<σ.bx.length->j<σ.bx.length->e.β i=e.β j->i=j
 box:∀i x,σ.bx[i]?=some x->BRel G e σ w x (e.β i)
 low:∀i,i<σ.bx.length->G.nG<=e.β i
 tkn:∀t,t∈σ.tk->t<σ.nx
 own:∀t,t∈σ.tk->∀p,e.M t=some p->G.nG<=p.1/\(∀i,i<σ.bx.length->e.β i≠p.1)/\∃cs ty fz,w.heap[p.1]?=some (.cells cs ty fz)
 dis:∀t t',t∈σ.tk->t'∈σ.tk->t≠t'->∀p p',e.M t=some p->e.M t'=some p'->p.1≠p'.1
 xlt:∀b off,e.X b off->b<w.heap.size
 xown:∀t,t∈σ.tk->∀p,e.M t=some p->∀off,p.2<=off->¬e.X p.1 off
 hid:∀b q,e.H b=some q->G.nG<=b/\b<w.heap.size/\(∀i,i<σ.bx.length->e.β i≠b)/\(∀t,t∈σ.tk->∀p,e.M t=some p->p.1≠b)/\∀off,q.2<=off->¬e.X b off
 glob:∀b,b<G.nG->w.heap[b]?=G.w0.heap[b]?
 big:G.nG<=w.heap.size
theorem SRel.lt {G:GE} {e:Env} {σ:St} {w:World} (h:SRel G e σ w) {i:Nat} (hi:i<σ.bx.length):e.β i<w.heap.size:=by
 have:=h.box i _ (Ta hi);generalize σ.bx[i]=x at this
 cases x with
 | cells t cs=>obtain ⟨vs,hv,_⟩:=this;grind
 | iter s p=>exact (Tv.1 this).1
 | loop st pd r=>exact (Tv.1 this).1
 | map cs bn ck=>obtain ⟨es,hv,_⟩:=this;grind
 | dmap m=>obtain ⟨bn,ck,_,es,hv,_⟩:=this;grind
 | smap el m fo=>obtain ⟨es,⟨bn,ck,hv,_⟩,_⟩:=this;grind
def BRel.of_dmap {G:GE} {e:Env} {σ:St} {w:World} {m:List (List UInt8×MV)} {b:Nat} (h:BRel G e σ w (.dmap m) b):∃bn ck,StB bn ck/\BRel G e σ w (.map (J1 m) bn ck) b:=h
def BRel.to_dmap {G:GE} {e:Env} {σ:St} {w:World} {m:List (List UInt8×MV)} {b:Nat} {bn:List Nat} {ck:Nat} (h:BRel G e σ w (.map (J1 m) bn ck) b) (hb:StB bn ck):BRel G e σ w (.dmap m) b:=⟨bn,ck,hb,h⟩
def HKeep (e:Env) (w:World) (e':Env) (w':World) (bb:Nat):Prop:=∀b q,e.H b=some q->q.1.1=bb->e'.H b=some q/\w'.heap[b]?=w.heap[b]?
def HKeep.rfl' {e:Env} {w:World} {bb:Nat}:HKeep e w e w bb:=fun _ _ h _=>⟨h,rfl⟩
def OwnedAt.keep {G:GE} {w w':World} {el:Nat} {rows:List (List D)} {v:Value} {p:Option (Nat×Nat)} (h:OwnedAt G w el rows v p) (hk:∀q,p=some q->w'.heap[q.1]?=w.heap[q.1]?):OwnedAt G w' el rows v p:=by
 rcases h with h | ⟨sz,h1,h2,h3,b,off,cap,cs,ty,fz,h4,h5,h6,h7,h8,h9,w6⟩
 ·exact .inl h
 exact .inr ⟨sz,h1,h2,h3,b,off,cap,cs,ty,fz,h4,h5,h6,(hk _ w6).trans h7,h8,h9,w6⟩
def HOwned.keep {G:GE} {e e':Env} {w w':World} {bb el:Nat} {k:List UInt8} {rows:List (List D)} {v:Value} (h:HOwned G e w bb k el rows v) (hk:HKeep e w e' w' bb):HOwned G e' w' bb k el rows v:=by
 obtain ⟨p,h1,h2⟩:=h;exact ⟨p,h1.keep fun q hq=>(hk _ _ (h2 q hq) rfl).2,fun q hq=>(hk _ _ (h2 q hq) rfl).1⟩
theorem Zs7 {g:PV->PV} (hg:∀d,g (.d d)=.d d) (k:List UInt8) (rows:List (List D)):∀fo:Option (List UInt8×PV),Zh3 k rows (fo.map fun kv=>(kv.1,g kv.2))=g (Zh3 k rows fo)
 | none=>(hg _).symm
 | some (k',v)=>by
  simp only [TX,Zh3]
  grind
def Zcl {g:PV->PV} (hg:∀d,g (.d d)=.d d) (fo:Option (List UInt8×PV)):∀m:List (List UInt8×List (List D)),VR m (fo.map fun kv=>(kv.1,g kv.2))=(VR m fo).map g
 | []=>rfl
 | (k,rows)::m=>by simp only [VR,Tx,Zs7 hg,Zcl hg fo m,hg]
theorem ZvU {x:PV}:∀{m:List (List UInt8×List (List D))} {i:Nat},(VR m none)[i]?=some x->∃d,x=.d d
 | (k,v)::l,0,h=>by simp [VR] at h;grind
 | (k,v)::l,1,h=>by simp [VR,Zh3] at h;grind
 | (k,v)::l,i+2,h=>ZvU (m:=l) (i:=i) (by assumption)
 | [],i,h=>by trivial
theorem BRel.smapTo {G:GE} {e:Env} {σ:St} {w:World} {e':Env} {σ':St} {w':World} {el:Nat} {m:List (List UInt8×List (List D))} {fo:Option (List UInt8×PV)} {b:Nat} (h:BRel G e σ w (.smap el m fo) b) (hb:w'.heap[b]?=w.heap[b]?)
  (g:PV->PV) (hg:∀d,g (.d d)=.d d) (hn:∀n,g (.nils n)=.nils n) (hv:∀(i:Nat) (x:PV) v,(VR m fo)[i]?=some x->VRel G e σ w x v->VRel G e' σ' w' (g x) v) (hk:HKeep e w e' w' b):BRel G e' σ' w' (.smap el m (fo.map fun kv=>(kv.1,g kv.2))) b:=by
 obtain ⟨es,⟨bn,ck,h1,h2,h3,h4⟩,h5,h6,h7⟩:=h;refine ⟨es,⟨bn,ck,hb.trans h1,h2,by rw [Zcl hg,Td];exact h3,fun i u hu=>?_⟩,fun i u x hu hx ai=>(h5 i u x hu hx fun kv ka=>ai (kv.1,g kv.2) (by grind)).keep hk,fun kv ka hl=>?_,h7⟩
 ·obtain ⟨g1,k,x,g2,g3,g4,g5⟩:=h4 i u hu;refine ⟨g1,k,g x,?_,?_,g4,hv _ _ _ g3 g5⟩
  ·rw [Zcl hg,Th,g2,TX,hg]
  rw [Zcl hg,Th,g3,TX]
 cases fo with
 | none=>cases ka
 | some kv0 =>
 grind
def BRel.smap0 {G:GE} {e:Env} {σ:St} {w:World} {e':Env} {σ':St} {w':World} {el:Nat} {m:List (List UInt8×List (List D))} {b:Nat} (h:BRel G e σ w (.smap el m none) b) (hb:w'.heap[b]?=w.heap[b]?)
  (hD:∀d v,DRel (okc e σ) w d v->DRel (okc e' σ') w' d v) (hk:HKeep e w e' w' b):BRel G e' σ' w' (.smap el m none) b :=
 h.smapTo hb id (fun _=>rfl) (fun _=>rfl) (fun i x v hx hv=>by
  obtain ⟨d,rfl⟩:=ZvU hx
  cases hv with | d _ _ hv=>exact .d _ _ (hD _ _ hv)) hk
theorem BRel.step {G:GE} {e:Env} {σ:St} {w:World} {e':Env} {σ':St} {w':World} {x:Box} {b:Nat} (h:BRel G e σ w x b) (hs:Stepped e σ w e' σ' w') (hb:w'.heap[b]?=w.heap[b]?) (hk:HKeep e w e' w' b):BRel G e' σ' w' x b:=by
 cases x with
 | cells t cs =>
  obtain ⟨vs,h1,h2,h3⟩:=h;exact ⟨vs,hb.trans h1,h2,fun i x u hx hu=>⟨(h3 i x u hx hu).1.step hs,(h3 i x u hx hu).2⟩⟩
 | iter s p=>exact Eq.trans hb h
 | loop st pd r=>exact Eq.trans hb h
 | map cs bn ck =>
  obtain ⟨es,h1,h2,h3,h4⟩:=h;refine ⟨es,hb.trans h1,h2,h3,fun i u hu=>?_⟩;obtain ⟨g1,k,x,g2,g3,g4,g5⟩:=h4 i u hu;exact ⟨g1,k,x,g2,g3,g4,g5.step hs⟩
 | dmap m =>
  obtain ⟨bn,ck,qg,es,h1,h2,h3,h4⟩:=h;refine ⟨bn,ck,qg,es,hb.trans h1,h2,h3,fun i u hu=>?_⟩;obtain ⟨g1,k,x,g2,g3,g4,g5⟩:=h4 i u hu;exact ⟨g1,k,x,g2,g3,g4,g5.step hs⟩
 | smap el m fo =>
 have:=h.smapTo hb id (fun _=>rfl) (fun _=>rfl) (fun _ _ _ _ hv=>hv.step hs) hk
 simp_all
theorem BRel.mapTo {G:GE} {e:Env} {σ:St} {w:World} {e':Env} {σ':St} {w':World} {cs cs':List PV} {bn:List Nat} {ck b b':Nat} (h:BRel G e σ w (.map cs bn ck) b) (hb:w'.heap[b']?=w.heap[b]?) (hl:cs'.length=cs.length)
  (hr:∀(i:Nat) (x y:PV),cs[i]?=some x->cs'[i]?=some y->(∀v,VRel G e σ w x v->VRel G e' σ' w' y v)/\∀d,x=.d d->y=.d d):BRel G e' σ' w' (.map cs' bn ck) b':=by
 obtain ⟨es,h1,h2,h3,h4⟩:=h;refine ⟨es,hb.trans h1,h2,hl.trans h3,fun i u hu=>?_⟩
 grind
theorem Zh9 {x:PV}:∀{m:List (List UInt8×MV)} {i:Nat},(J1 m)[i]?=some x->(∃d,x=.d d)\/∃l:List D,x=.agg (l.map .d)
 | (k,v)::l,0,h=>by simp [J1] at h;grind
 | (k,v)::l,1,h=>by
  simp [J1] at h;subst h
  cases v with
  | one y=>exact .inl ⟨y,rfl⟩
  | agg y=>exact .inr ⟨y,rfl⟩
 | (k,v)::l,i+2,h=>Zh9 (m:=l) (i:=i) (by assumption)
 | [],i,h=>by trivial
def BRel.dmapTo {G:GE} {e:Env} {σ:St} {w:World} {e':Env} {σ':St} {w':World} {m:List (List UInt8×MV)} {b b':Nat} (h:BRel G e σ w (.dmap m) b) (hb:w'.heap[b']?=w.heap[b]?)
  (hD:∀d v,DRel (okc e σ) w d v->DRel (okc e' σ') w' d v):BRel G e' σ' w' (.dmap m) b':=by
 obtain ⟨bn,ck,n8,h⟩:=h.of_dmap;refine (h.mapTo hb rfl fun i x y hx hy=>?_).to_dmap n8;rw [hx] at hy
 cases hy
 refine ⟨fun v hv=>?_,fun d hd=>hd⟩;rcases Zh9 hx with ⟨d,rfl⟩ | ⟨l,rfl⟩
 ·cases hv with | d _ _ hv=>exact .d _ _ (hD _ _ hv)
 cases hv with
 | agg _ vs h1 h2 h3 =>
 refine .agg _ vs h1 (fun j z u hz hu=>?_) h3;have h4:=h2 j z u hz hu;rw [Th] at hz;obtain ⟨d,_,rfl⟩:=TD.1 hz
 cases h4 with | d _ _ h4=>exact .d _ _ (hD _ _ h4)
def FRel (G:GE) (e:Env) (σ:St) (w:World) (f:Frame) (tmps:Array Value):Prop:=∀i,VRel G e σ w (f i) (tmps.getD i Go.undef)
def FRel.step {G:GE} {e:Env} {σ:St} {w:World} {e':Env} {σ':St} {w':World} {f:Frame} {tmps:Array Value} (h:FRel G e σ w f tmps) (hs:Stepped e σ w e' σ' w'):FRel G e' σ' w' f tmps :=
 fun i=>(h i).step hs
def Yw (f:Frame) (i:Nat) (v:PV):Va f i v i=v:=by simp [Va]
theorem Y9 (f:Frame) {i j:Nat} (v:PV) (h:i≠j):Va f i v j=f j:=by
 have:Nat.beq i j=false:=by
  cases h':Nat.beq i j
  ·rfl
  simp_all
 simp [Va,this]
def Yk (f:Frame) (d:Option Nat) (v:PV):Frame:=match d with | some i=>Va f i v | none=>f
theorem FRel.put {G:GE} {e:Env} {σ:St} {w:World} {f:Frame} {a:Act} (h:FRel G e σ w f a.tmps) {d:Option Nat} {x:PV} {v:Value} (hv:VRel G e σ w x v) (hd:∀i,d=some i->i<a.tmps.size) :
  FRel G e σ w (Yk f d x) (a.put d v).tmps:=by
 cases d with
 | none=>exact h
 | some i =>
 intro j
 have hi:=hd i rfl;simp only [Act.put,Yk]
 by_cases ji:i=j
 ·subst ji;rw [Yw]
  simp_all
 rw [Y9 f x ji];have:=h j
 simp_all
def ZbB (G:GE) (e:Env) (σ:St) (w:World) (v:Value):VRel G e σ w (Zcj v) v:=by
 unfold Zcj
 split
 ·exact .d _ _ (.bool _)
 ·exact .d _ _ (.int _ _)
 ·rename_i s;exact .d _ _ (.str _)
 ·exact .d _ _ .nilp
 ·exact .nils 0
 ·exact .d _ _ .nilf
 ·exact .d _ _ .nili
 ·exact .nilm
 exact .raw _
def Zo7 {v:Value} (h:ZFj v=true):v.oneCell'=true:=by assumption
def ZjW (G:GE) (e:Env) (σ:St) (w:World) (v:Value):VRel G e σ w (ZjS v) v:=by
 unfold ZjS
 split
 ·rename_i cs
  split
  ·rename_i h
   refine .agg _ cs sM (fun i x u hx hu=>?_) fun u hu=>Zo7 (Tn.1 h u (Array.mem_toList_iff.2 hu))
   rw [Th,TG,hu] at hx
   cases hx
   exact ZbB G e σ w u
  exact .raw _
 exact ZbB G e σ w v
def ZbC {G:GE} {e:Env} {σ:St} {w:World} {f:Frame} {a:Act} (h:FRel G e σ w f a.tmps) (x:Operand):VRel G e σ w (ev f x) (a.eval x):=by
 cases x with
 | tmp t=>exact h t
 | const v=>exact ZjW G e σ w v
 | global g=>exact .undef _
 | func g=>exact .func g [] [] #[] #[] rfl rfl (fun i x u hx=>sM) (fun i x u hx=>sM)
end Go.PM
end

section
namespace Go.PM
def Zo8:D->Value->Bool
 | .bool a,.bool b=>a == b
 | .int k a,.int k' b=>keq k k' && (a == b)
 | .str s,.string t=>s == t.data.toList
 | .nilp,.pointer none=>true
 | .nilf,.nilFunc=>true
 | .nili,.nilIface=>true
 | _,_=>false
def Zs8:PV->Value->Bool
 | .d x,v=>Zo8 x v
 | .nils _,.slice none 0 0=>true
 | .nilm,.map none=>true
 | _,_=>false
def Zo9:List PV->List Value->Bool
 | [],[]=>true
 | x::l,v::m=>Zs8 x v && Zo9 l m
 | _,_=>false
def Zgq (P:Program):List (Nat×Nat)->List Field->Bool
 | [],[]=>true
 | (o,t)::l,f::m=>Nat.beq o f.offset && Nat.beq t f.type && (match P.info? t with | some i=>Nat.ble 1 i.size | none=>false) && Zgq P l m
 | _,_=>false
def ZwM (P:Program):TK->TypeDesc->Bool
 | .int k,.int k'=>keq k k'
 | .bool,.bool=>true
 | .string,.string=>true
 | .ptr e,.pointer e'=>Nat.beq e e'
 | .slice e,.slice e'=>Nat.beq e e'
 | .array n e,.array n' e'=>Nat.beq n n' && Nat.beq e e'
 | .struct fs,.struct gs=>Zgq P fs gs.toList
 | .func,.func _ _ _=>true
 | .iface,.interface _=>true
 | .map k e,.map k' e'=>(Nat.beq k k' && Nat.beq e e') && (match P.underlying k with | some .string=>true | _=>false)
 | _,_=>false
def eqB (P:Program) (t:Nat) (d:TypeDesc):Bool:=match d with
 | .struct gs => gs.toList.all (fun f => f.name != "_") && !P.stoodInHeld t && !P.eqGuardType P.depth t
 | .int _=>match P.info? t with | some i=>i.comparable | none=>false
 | _=>false
def ZvV:Value->Bool | .agg _=>true | _=>false
def Zpa (P:Program) (t:Nat) (v:TI):Bool:=match v.kind with
 | .other=>true
 | k=>match P.info? t,P.underlying t with
  | some i,some d=>Nat.beq i.size v.size && Nat.beq i.bytes v.bytes && ZwM P k d && Nat.beq v.zero.length v.size && (k.isAgg || Nat.beq v.size 1) && (!v.eqok || eqB P t d) && (match i.zero with | some z=>Zo9 v.zero z.cells.toList && (ZvV z == k.isAgg) | none=>false)
  | _,_=>false
def Tab.all (p:Nat->TI->Bool):Tab->Bool
 | .leaf=>true
 | .node l k v r=>p k v && (l.all p && r.all p)
theorem ZGH {p:Nat->TI->Bool}:∀{T:Tab},T.all p=true->∀t,T.get t=TI.no\/p t (T.get t)=true:=by
 intro T
 induction T with
 | leaf=>exact fun _ _=>.inl rfl
 | node l k v r ihl ihr =>
 intro h t
 simp only [Tab.all,Tl] at h;unfold Tab.get
 split
 ·simp_all
 grind
def ZcW {a b:IntKind} (h:keq a b=true):a=b:=by cases a <;> cases b <;> first | rfl | cases h
inductive FieldsOK (P:Program):List (Nat×Nat)->List Field->Prop
 | nil:FieldsOK P [] []
 | cons (o t:Nat) (l) (f:Field) (m) (i:TypeInfo) (ho:f.offset=o) (ht:f.type=t) (hi:P.info? t=some i) (hs:1<=i.size) (h:FieldsOK P l m):FieldsOK P ((o,t)::l) (f::m)
theorem Zfi {P:Program}:∀{l:List (Nat×Nat)} {m:List Field},Zgq P l m=true->FieldsOK P l m
 | [],[],_=>.nil
 | (o,t)::l,f::m,h=>by
  simp only [Zgq,Tl] at h;obtain ⟨⟨⟨h1,h2⟩,h3⟩,h4⟩:=h
  cases hi:P.info? t with
  | none=>simp_all
  | some i =>
  rw [hi] at h3;exact .cons o t l f m i (Tu h1).symm (Tu h2).symm hi (Tb h3) (Zfi h4)
 | [],_::_,h=>by cases h
 | _::_,[],h=>by cases h
theorem FieldsOK.get {P:Program} {l:List (Nat×Nat)} {m:List Field} (h:FieldsOK P l m):∀{i o t:Nat},l[i]?=some (o,t)->∃f j,m[i]?=some f/\f.offset=o/\f.type=t/\P.info? t=some j/\1<=j.size:=by
 induction h with
 | nil=>simp_all
 | cons o t l f m j ho ht hi hs _ ih =>
 intro i o' t' h'
 cases i with
 | zero=>simp_all
 | succ i=>simp_all
def KindOK (P:Program):TK->TypeDesc->Prop
 | .int k,d=>d=.int k
 | .bool,d=>d=.bool
 | .string,d=>d=.string
 | .ptr e,d=>d=.pointer e
 | .slice e,d=>d=.slice e
 | .array n e,d=>d=.array n e
 | .struct fs,d=>∃gs,d=.struct gs/\FieldsOK P fs gs.toList
 | .func,d=>∃a b c,d=.func a b c
 | .iface,d=>∃ms,d=.interface ms
 | .map k e,d=>d=.map k e/\P.underlying k=some .string
 | .other,_=>False
def Zs9 {P:Program} {k:TK} {d:TypeDesc} (h:ZwM P k d=true):KindOK P k d:=by
 cases k <;> cases d <;> simp only [ZwM,Tl] at h <;> first
  | (cases h;done)
  | rfl
  | (have:=ZcW h;subst this;rfl)
  | (have:=Tu h;subst this;rfl)
  | (have h1:=Tu h.1;have h2:=Tu h.2;subst h1;subst h2;rfl)
  | exact ⟨_,rfl,Zfi h⟩
  | exact ⟨_,_,_,rfl⟩
  | (have h1:=Tu h.1.1;have h2:=Tu h.1.2;subst h1;subst h2;refine ⟨rfl,?_⟩;have h3:=h.2;split at h3 <;> first | assumption | (cases h3;done))
  | exact ⟨_,rfl⟩
structure TIOK (P:Program) (t:Nat) (v:TI):Prop where
 ex:∃i d z,P.info? t=some i/\P.underlying t=some d/\i.size=v.size/\i.bytes=v.bytes/\KindOK P v.kind d/\i.zero=some z/\Zo9 v.zero z.cells.toList=true/\v.zero.length=v.size/\(v.kind.isAgg=true\/v.size=1)/\(v.eqok=true->eqB P t d=true)
 agg:∀i z,P.info? t=some i->i.zero=some z->ZvV z=v.kind.isAgg
def TabOK (T:Tab) (P:Program):Prop:=T.all (Zpa P)=true
theorem TabOK.get {T:Tab} {P:Program} (h:TabOK T P) {t:Nat} (hk:(T.get t).kind≠.other):TIOK P t (T.get t):=by
 rcases ZGH h t with h1 | h1
 ·rw [h1] at hk;trivial
 unfold Zpa at h1
 split at h1
 ·simp_all
 split at h1
 ·rename_i i d hi hd
  simp only [Tl] at h1;obtain ⟨⟨⟨⟨⟨⟨h2,h3⟩,h4⟩,h6⟩,h7⟩,h8⟩,h5⟩:=h1;split at h5
  ·rename_i z hz
   rw [Tl] at h5;obtain ⟨h5,h9⟩:=h5;refine ⟨⟨i,d,z,hi,hd,Tu h2,Tu h3,Zs9 h4,hz,h5,Tu h6,by
    simp_all,fun he=>by
    simp_all⟩,fun i' z' gu hz'=>?_⟩
   simp_all
  grind
 grind
theorem TabOK.one {T:Tab} {P:Program} (h:TabOK T P) {t:Nat} (hk:(T.get t).kind≠.other) (ha:(T.get t).kind.isAgg=false):(T.get t).size=1:=by
 obtain ⟨i,d,z,_,_,_,_,_,_,_,_,h1,_⟩:=(h.get hk).ex
 simp_all
theorem Zia {ok:Nat->Nat->Prop} {w:World} {x:D} {v:Value} (h:Zo8 x v=true):DRel ok w x v/\v.oneCell'=true:=by
 cases x <;> cases v <;> try (first | (cases h;done) | (rename_i a;cases a <;> first | (cases h;done) | exact ⟨.nilp,rfl⟩))
 ·rename_i a b;have:a=b:=by simpa [Zo8] using h
  subst this;exact ⟨.bool _,rfl⟩
 ·rename_i k a k' b
  simp only [Zo8,Tl] at h;have h1:=ZcW h.1;have h2:a=b:=by simp_all
  subst h1;subst h2;exact ⟨.int _ _,rfl⟩
 ·rename_i s t
  have:s=t.data.toList:=by simpa [Zo8] using h
  subst this;exact ⟨.str _,rfl⟩
 ·exact ⟨.nilf,rfl⟩
 exact ⟨.nili,rfl⟩
def Zpb {G:GE} {e:Env} {σ:St} {w:World} {x:PV} {v:Value} (h:Zs8 x v=true):VRel G e σ w x v/\v.oneCell'=true:=by
 cases x with
 | d x=>exact ⟨.d _ _ (Zia h).1,(Zia (ok:=okc e σ) (w:=w) h).2⟩
 | nils el =>
  unfold Zs8 at h
  split at h <;> first | (cases h;done) | skip
  ·rename_i bm;cases bm
  ·exact ⟨.nils _,rfl⟩
  rename_i bm;cases bm
 | nilm =>
  unfold Zs8 at h
  split at h <;> first | (cases h;done) | skip
  ·rename_i bm;cases bm
  ·rename_i bm;cases bm
  exact ⟨.nilm,rfl⟩
 | _=>cases h
theorem Xv {G:GE} {e:Env} {σ:St} {w:World}:∀{l:List PV} {m:List Value},Zo9 l m=true->m.length=l.length/\∀(i:Nat) (x:PV) (u:Value),l[i]?=some x->m[i]?=some u->VRel G e σ w x u/\u.oneCell'=true
 | [],[],_=>⟨rfl,fun i x u h=>by simp at h⟩
 | x::l,v::m,h=>by
  simp only [Zo9,Tl] at h;obtain ⟨h1,h2⟩:=Xv (G:=G) (e:=e) (σ:=σ) (w:=w) h.2;refine ⟨by simp [h1],fun i x' u hx hu=>?_⟩
  cases i with
  | zero=>simp at hx hu;subst hx;subst hu;exact Zpb h.1
  | succ i=>grind
 | [],_::_,h=>by cases h
 | _::_,[],h=>by cases h
theorem Znp {T:Tab} {G:GE} (hT:TabOK T G.P) {t:Nat} (hk:(T.get t).kind≠.other) {z:PV} (hz:Zo2 (T.get t)=some z) {e:Env} {σ:St} {w:World}:∃v,VRel G e σ w z v/\(zeroValue t).run G.P w=.ok v w:=by
 obtain ⟨i,d,v,hi,hd,hs,ec,aq,hv,om,_⟩:=(hT.get hk).ex;have ha:=(hT.get hk).agg i v hi hv;refine ⟨v,?_,by simp [zeroValue,typeInfo,hi,hv]⟩;obtain ⟨h1,h2⟩:=Xv (G:=G) (e:=e) (σ:=σ) (w:=w) om;unfold Zo2 at hz
 split at hz
 ·rename_i hb
  cases hz
  rw [hb] at ha
  cases v with
  | agg vs =>
   have h1:vs.size=(T.get t).zero.length:=h1;exact .agg _ vs h1 (fun i x u hx hu=>(h2 i x u hx (by simpa [Value.cells] using hu)).1) (fun u hu=>by
    obtain ⟨k,hk,he⟩:=SB hu;have cu:k<(T.get t).zero.length:=oM;exact (h2 k _ u (Ta cu) (by simp [Value.cells,TL hk,he])).2)
  | _=>cases ha
 ·rename_i z' hb qh
  cases hz
  rw [hb] at ha;rw [qh] at h2
  cases v <;> first | exact (h2 0 _ _ rfl rfl).1 | trivial
 grind
end Go.PM
end

section
namespace Go.PM
section inv
variable {G:GE} {e:Env} {σ:St} {w:World} {v:Value}
def DRel.one {ok:Nat->Nat->Prop} {x:D} (h:DRel ok w x v):v.oneCell'=true:=by cases h <;> rfl
def VRel.dint {k:IntKind} {n:Int} (h:VRel G e σ w (.d (.int k n)) v):v=.int k n:=by cases h with | d _ _ h=>cases h;rfl
def VRel.dbool {b:Bool} (h:VRel G e σ w (.d (.bool b)) v):v=.bool b:=by cases h with | d _ _ h=>cases h;rfl
def VRel.dstr {s:List UInt8} (h:VRel G e σ w (.d (.str s)) v):v=.string ⟨s.toArray⟩:=by cases h with | d _ _ h=>cases h;rfl
def VRel.mkint {k:IntKind} {n:Int}:VRel G e σ w (.d (.int k n)) (.int k n):=.d _ _ (.int _ _)
def VRel.mkbool {b:Bool}:VRel G e σ w (.d (.bool b)) (.bool b):=.d _ _ (.bool _)
def VRel.mkstr {s:List UInt8}:VRel G e σ w (.d (.str s)) (.string ⟨s.toArray⟩):=.d _ _ (.str _)
def X0 {x:PV} {y:D} (hy:toD x=some y) (h:VRel G e σ w x v):DRel (okc e σ) w y v:=by
 cases h with
 | d x v h=>cases hy;exact h
 | sl t el rows v hn hd _=>cases hy;exact hd
 | nils el=>cases hy;exact .slnil
 | _=>cases hy
theorem DRel.sl_inv {ok:Nat->Nat->Prop} {rows:List (List D)} (h:DRel ok w (.sl rows) v):∃a cap,v=.slice a rows.length cap/\rows.length<=cap:=by
 cases h with
 | slnil=>simp_all
 | slz a=>simp_all
 | sl rows b off cap sz u hcap hsz hc ho hu=>grind
end inv
def Ya {P:Program} {t:TypeId} {i:TypeInfo} (h:P.info? t=some i) (w:World):(typeInfo t).run P w=.ok i w:=by simp [typeInfo,h]
def Zt {P:Program} {t:TypeId} {i:TypeInfo} (h:P.info? t=some i) (w:World):(sizeOf t).run P w=.ok i.size w:=by simp [sizeOf,Ya h]
def Za {P:Program} {t:TypeId} {d:TypeDesc} (h:P.underlying t=some d) (w:World):(underlying t).run P w=.ok d w:=by simp [underlying,h]
def Uv {P:Program} {k:TK} {d:TypeDesc} (h:KindOK P k d) {t:TypeId} (hd:P.underlying t=some d) (w:World):(isAgg t).run P w=.ok k.isAgg w:=by
 unfold isAgg
 simp only [Sem.run_bind,Za hd,Result.andThen]
 cases k with
 | struct fs=>obtain ⟨gs,rfl,_⟩:=h;rfl
 | func=>obtain ⟨a,b,c,rfl⟩:=h;rfl
 | iface=>obtain ⟨ms,rfl⟩:=h;rfl
 | map k e=>obtain ⟨rfl,_⟩:=h;rfl
 | other=>cases h
 | _=>cases h;rfl
theorem WJ {α:Type}:∀{n:Nat} {l r:List α},UV n l=some r->r.length=n/\∀i,i<n->l[i]?=r[i]?
 | 0,l,r,h=>by simp [UV] at h;simp_all
 | n+1,[],r,h=>by trivial
 | n+1,x::l,r,h=>by
  simp only [UV] at h;split at h
  ·rename_i r' hr
   cases h
   obtain ⟨h1,h2⟩:=WJ hr
   grind
  cases h
theorem Yb (b o i:Nat):(⟨b,o,none⟩:Addr).add i=⟨b,o+i,none⟩:=by
 unfold Addr.add
 simp_all
theorem Wi {P:Program} {t:TypeId} {i:TypeInfo} {d:TypeDesc} {k:TK} (hi:P.info? t=some i) (hd:P.underlying t=some d) (hk:KindOK P k d) (w:World) (b o:Nat) (g:Nat->Value)
  (hc:∀j,j<(if k.isAgg then i.size else 1)->w.cell? ⟨b,o+j,none⟩=some (g j)) :
  (loadVar t ⟨b,o,none⟩).run P w=.ok (if k.isAgg then .agg ((List.range i.size).map g).toArray else g 0) w:=by
 unfold loadVar
 simp only [Sem.run_bind,Uv hk hd,Result.andThen]
 cases lm:k.isAgg with
 | true =>
  simp only [if_true,Sem.run_bind,Zt hi,Result.andThen];rw [run_loadCells w ⟨b,o,none⟩ i.size g (fun j hj=>by rw [Yb];simp_all)];rfl
 | false =>
 simp_all
section
variable {G:GE} {e:Env} {σ:St} {w:World}
theorem BRel.cell {t:TypeId} {cs:List PV} {b:Nat} (h:BRel G e σ w (.cells t cs) b) {o:Nat} {x:PV} (hx:cs[o]?=some x):∃u,w.cell? ⟨b,o,none⟩=some u/\VRel G e σ w x u/\u.oneCell'=true:=by
 obtain ⟨vs,h1,h2,h3⟩:=h;have ho:o<vs.size:=by grind
 have hv:vs[o]?=some vs[o]:=TL ho;exact ⟨vs[o],by simp [World.cell?,h1,hv],(h3 o x _ hx hv).1,(h3 o x _ hx hv).2⟩
theorem Zfj {T:Tab} {K:PV->Prop} (hT:TabOK T G.P) (hS:SRel G e σ w) {t:TypeId} {x:PV} {v:Value} (hv:VRel G e σ w x v)
  (h:ZaS T t x σ.bx K):∃pv u,K pv/\VRel G e σ w pv u/\(Instr.loadAt t v).run G.P w=.ok u w:=by
 cases hv with
 | ptr b off hb =>
  simp only [ZaS] at h;split at h
  ·rename_i ty cs d8
   have hB:=hS.box b _ d8;split at h
   ·rename_i hk
    obtain ⟨i,d,z,hi,hd,hs,ec,aq,hz,cx,_⟩:=(hT.get (t:=t) (by intro h0;rw [h0] at hk;cases hk)).ex;split at h
    ·rename_i l hl
     obtain ⟨oq,yq⟩:=WJ hl;have az:∀j,j<i.size->∃u x,l[j]?=some x/\w.cell? ⟨e.β b,off+j,none⟩=some u/\VRel G e σ w x u/\u.oneCell'=true:=fun j hj=>by
      have h1:j<l.length:=oM;have h2:=yq j oM;rw [Ta h1,List.getElem?_drop] at h2;obtain ⟨u,yu,n9,hu3⟩:=hB.cell h2
      simp_all
     have aj:=Wi hi hd aq w (e.β b) off (fun j=>(w.cell? ⟨e.β b,off+j,none⟩).getD undef) (fun j hj=>by
      grind)
     rw [hk] at aj;refine ⟨_,_,h,?_,by assumption⟩;refine .agg _ _ (by simp_all) (fun j x u hx hu=>?_) (fun u hu=>?_)
     ·grind
     grind
    simp_all
   rename_i hk
   split at h
   ·grind
   rename_i cu
   obtain ⟨i,d,z,hi,hd,hs,ec,aq,hz,cx,_⟩:=(hT.get (t:=t) (fun h0=>cu h0)).ex;split at h
   ·rename_i y hy
    obtain ⟨u,yu,n9,hu3⟩:=hB.cell hy;have aj:=Wi hi hd aq w (e.β b) off (fun _=>u) (fun j hj=>by
     simp_all)
    rw [hk] at aj;exact ⟨_,_,h,n9,by assumption⟩
   simp_all
  simp_all
 | elem r off b o u hc ho hu =>
  simp only [ZaS] at h;split at h
  ·rename_i hk
   obtain ⟨i,d,z,hi,hd,hs,ec,aq,hz,cx,_⟩:=(hT.get (t:=t) (by intro h0;rw [h0] at hk;cases hk)).ex;split at h
   ·rename_i l hl
    obtain ⟨oq,yq⟩:=WJ hl;have hrj:∀j,j<i.size->off+j<r.length/\r[off+j]?=l[j]?:=fun j hj=>by
     grind
    have aj:=Wi hi hd aq w b (o+off) (fun j=>u (off+j)) (fun j hj=>by
     grind)
    rw [hk] at aj;refine ⟨_,_,h,?_,by assumption⟩;have hrel:∀j x,j<i.size->l[j]?=some x->DRel (okc e σ) w x (u (off+j)):=fun j x hj hx=>hu (off+j) x (by simp_all)
    refine .agg _ _ (by simp_all) (fun j x v hx hv=>?_) (fun v hv=>?_)
    ·rw [Th] at hx
     cases jj:l[j]? with
     | none=>simp_all
     | some y =>
     rw [jj] at hx;cases hx;have hj:j<i.size:=by grind
     simp [hj] at hv;subst hv;exact .d _ _ (hrel j y hj jj)
    simp only [List.mem_toArray,Sr,List.mem_range] at hv;obtain ⟨j,hj,rfl⟩:=hv;have h1:j<l.length:=oM;exact (hrel j _ hj (Ta h1)).one
   simp_all
  rename_i hk
  split at h
  ·grind
  rename_i cu
  obtain ⟨i,d,z,hi,hd,hs,ec,aq,hz,cx,_⟩:=(hT.get (t:=t) (fun h0=>cu h0)).ex;split at h
  ·rename_i y hy
   have aa:=(To.1 hy).1;have aj:=Wi hi hd aq w b (o+off) (fun _=>u off) (fun j hj=>by
    simp_all)
   rw [hk] at aj;exact ⟨_,_,h,.d _ _ (hu off y hy),by assumption⟩
  simp_all
 | _=>exact h.elim
def J2 {P:Program} (op:BinOp) (k:IntKind) (a b:Int) (w:World) (h:op=.and\/op=.or\/op=.xor\/op=.andNot):(Op.intBits op k a b).run P w=.ok (.int k (Zi op k a b)) w:=by
 rw [Yu];rcases h with rfl | rfl | rfl | rfl <;> rfl
def Jm {k:IntKind} {n:Int} {K:PV->Prop} (h:ZcS k n K):∃pv,K pv/\VRel G e σ w pv (.int k (k.wrap n)):=by
 rcases h with ⟨h1,h2⟩ | h
 ·exact ⟨_,h2,by rw [show k.wrap n=n from h1];exact .mkint⟩
 exact ⟨_,h,.mkint⟩
theorem VU {k:IntKind} {n:Int} {K:PV->Prop} (h:ZcS k n K) {s:Sem Value} {P:Program} (hs:s.run P w=.ok (.int k (k.wrap n)) w):∃pv u,K pv/\VRel G e σ w pv u/\s.run P w=.ok u w:=by
 obtain ⟨pv,h1,h2⟩:=Jm (G:=G) (e:=e) (σ:=σ) (w:=w) h
 grind
def Znq {op:BinOp} {k:IntKind} {a b:Int} {K:PV->Prop} (h:ZAH op k a b K) (t:TypeId) (x y:Operand) :
  ∃pv u,K pv/\VRel G e σ w pv u/\(do eqGuard op t x y (.int k a) (.int k b);binOp op t (.int k a) (.int k b):Sem Value).run G.P w=.ok u w:=by
 have hg:(eqGuard op t x y (.int k a) (.int k b)).run G.P w=.ok () w:=by cases op <;> rfl
 cases op <;> simp only [ZAH] at h <;> simp only [Sem.run_bind,hg,Result.andThen]
 case add=>exact VU h (by simp [binOp,Op.intArith])
 case sub=>exact VU h (by simp [binOp,Op.intArith])
 case mul=>exact VU h (by simp [binOp,Op.intArith])
 case quo=>exact VU h.2 (by simp [binOp,Op.intDiv,h.1])
 case rem=>exact ⟨_,_,h.2,.mkint,by simp [binOp,Op.intDiv,h.1]⟩
 case and=>exact ⟨_,_,h,.mkint,by simp [binOp,J2]⟩
 case or=>exact ⟨_,_,h,.mkint,by simp [binOp,J2]⟩
 case xor=>exact ⟨_,_,h,.mkint,by simp [binOp,J2]⟩
 case andNot=>exact ⟨_,_,h,.mkint,by simp [binOp,J2]⟩
 case eql=>exact ⟨_,_,h,.mkbool,by simp [binOp,Op.intCmp];rfl⟩
 case neq=>exact ⟨_,_,h,.mkbool,by simp [binOp,Op.intCmp,bne];rfl⟩
 case lss=>exact ⟨_,_,h,.mkbool,by simp [binOp,Op.intCmp]⟩
 case leq=>exact ⟨_,_,h,.mkbool,by simp [binOp,Op.intCmp]⟩
 case gtr=>exact ⟨_,_,h,.mkbool,by simp [binOp,Op.intCmp]⟩
 case geq=>exact ⟨_,_,h,.mkbool,by simp [binOp,Op.intCmp]⟩
def toList_mk (s:List UInt8):(⟨s.toArray⟩:ByteArray).toList=s:=ByteArray.toList_mk s
theorem ZaT {α:Type} [BEq α] [LawfulBEq α] [DecidableEq α] (a b:α):(a == b)=decide (a=b):=by grind
theorem U5 {T : Tab} (hT : TabOK T G.P) (d : Nat) {xs ys : Array Value} : ∀ {fs : List (Nat × Nat)} {gs : List Field} {i : Nat} {px py : List PV} {K : Bool -> Prop}, FieldsOK G.P fs gs -> gs.all (fun f => f.name != "_") = true ->
  (∀(j:Nat) (x:PV),px[j]?=some x->∃u,xs[i+j]?=some u/\VRel G e σ w x u)->(∀(j:Nat) (x:PV),py[j]?=some x->∃u,ys[i+j]?=some u/\VRel G e σ w x u)->YI T i fs px py K ->
  ∃r,K r/\(Op.eqFields (d+1) xs ys gs).run G.P w=.ok r w
 | [],gs,i,px,py,K,hf,hn,hx,hy,h=>by
  cases hf
  cases px <;> cases py <;> first | exact ⟨_,h,rfl⟩ | exact h.elim
 | (o',t')::fs',gs,i',px,py,K,hf,hn,hx,hy,h=>by
  cases hf with
  | cons _ _ _ f gs info ho ht hi hs hf =>
  simp only [List.all_cons,Tl] at hn
  cases px with
  | nil=>exact h.elim
  | cons x xs' =>
  cases py with
  | nil=>exact h.elim
  | cons y ys' =>
  obtain ⟨u,hu,hxu⟩:=hx 0 x rfl;obtain ⟨v,hv,hyv⟩:=hy 0 y rfl;simp only [Nat.add_zero] at hu hv;have ig:∀(j:Nat) (z:PV),xs'[j]?=some z->∃u,xs[i'+1+j]?=some u/\VRel G e σ w z u:=fun j z hz=>by have:=hx (j+1) z (by simp_all);grind
  have hy':∀(j:Nat) (z:PV),ys'[j]?=some z->∃u,ys[i'+1+j]?=some u/\VRel G e σ w z u:=fun j z hz=>by have:=hy (j+1) z (by simp_all);grind
  have ao : f.name ≠ "_" := by simp_all
  have fin:∀(b:Bool) (K1:Bool->Prop),o'=i'->(T.get t').kind≠.other->(T.get t').kind.isAgg=false->(Op.equalIn (d+1) t' u v).run G.P w=.ok b w->(YI T (i'+1) fs' xs' ys' fun r=>K1 (b && r)) ->
    ∃r,K1 r/\(Op.eqFields (d+1) xs ys (f::gs)).run G.P w=.ok r w:=fun b K1 w7 hko lm he hk=>by
   obtain ⟨r,h1,h2⟩:=U5 hT d hf hn.2 ig hy' hk;obtain ⟨i2,d2,z2,af,cg,fj,jc,bi,_⟩:=(hT.get hko).ex;have hpx:∀(zs:Array Value) (q:Value),zs[i']?=some q->(part t' zs f.offset).run G.P w=.ok q w:=fun zs q hq=>by
    unfold part
    simp only [Sem.run_bind,Uv bi cg,Result.andThen,lm]
    simp_all
   refine ⟨_,h1,?_⟩;simp only [Op.eqFields];rw [Ti ao];simp only [Sem.run_bind,ht,hpx xs u hu,hpx ys v hv,he,Result.andThen]
   cases b with
   | true=>simp_all
   | false=>simp
  have tk:∀(k:TK),(T.get t').kind=k->k≠.other->∃dd,G.P.underlying t'=some dd/\KindOK G.P k dd:=fun k hk hko=>by
   obtain ⟨i2,d2,z2,af,cg,fj,jc,bi,_⟩:=(hT.get (t:=t') (by simp_all)).ex
   simp_all
  simp only [YI] at h;split at h
  ·rename_i k0 k a k' b w7 bf
   obtain ⟨dd,fx,cg⟩:=tk _ bf sM
   cases hxu.dint;cases hyv.dint
   split at h
   ·rename_i hk
    cases ZcW hk
    refine fin (decide (a=b)) K (Tu w7) (by simp_all) (by rw [bf];rfl) ?_ h;rw [run_equalIn_int w d _ k k0 a b (by rw [fx];exact congrArg some cg),ZaT]
   simp_all
  ·rename_i a b w7 bf
   obtain ⟨dd,fx,cg⟩:=tk _ bf sM
   cases hxu.dstr;cases hyv.dstr
   refine fin (decide (a=b)) K (Tu w7) (by simp_all) (by rw [bf];rfl) ?_ h;rw [run_equalIn_string w d _ _ _ (by rw [fx];exact congrArg some cg),toList_mk,toList_mk,ZaT]
  ·rename_i a b w7 bf
   obtain ⟨dd,fx,cg⟩:=tk _ bf sM
   cases hxu.dbool;cases hyv.dbool
   refine fin (decide (a=b)) K (Tu w7) (by simp_all) (by rw [bf];rfl) ?_ h;rw [run_equalIn_bool w d _ a b (by rw [fx];exact congrArg some cg),ZaT]
  simp_all
def Zpc:Value->Bool
 | .int _ _=>false | .string _=>false | .float _ _=>false | .complex _ _ _=>false | _=>true
def Zpd {t:TypeId} {vx vy:Value} (h:Zpc vx=true):binOp .eql t vx vy=(do pure (.bool (<- Op.equal t vx vy))):=by
 cases vx <;> first | (cases h;done) | (cases vy <;> rfl)
def Zpe {t:TypeId} {vx vy:Value} (h:Zpc vx=true):binOp .neq t vx vy=(do pure (.bool (!(<- Op.equal t vx vy)))):=by
 cases vx <;> first | (cases h;done) | (cases vy <;> rfl)
def ZK {P:Program} {op:BinOp} {t:TypeId} {x y:Operand} {vx vy:Value} (h:(match vx with | .nilIface=>false | .agg _=>false | _=>true)=true):(eqGuard op t x y vx vy).run P w=.ok () w:=by
 cases op <;> first | rfl | (cases vx <;> first | (cases h;done) | rfl)
def ZY (t:TypeId) (x y:Value):Op.equal t x y=Op.equalIn (9999+1) t x y:=rfl
def Zib {T:Tab} (hT:TabOK T G.P) {t:TypeId} {x y:Operand} {px py:PV} {vx vy:Value} {K:Bool->Prop} (hx:VRel G e σ w px vx) (hy:VRel G e σ w py vy) (h:peq T t x y px py K) (op:BinOp) :
  ∃b,K b/\(Op.equal t vx vy).run G.P w=.ok b w/\(eqGuard op t x y vx vy).run G.P w=.ok () w/\Zpc vx=true:=by
 have tk:∀(k:TK),(T.get t).kind=k->k≠.other->∃dd,G.P.underlying t=some dd/\KindOK G.P k dd/\((T.get t).eqok=true->eqB G.P t dd=true):=fun k hk hko=>by
  obtain ⟨i2,d2,z2,af,cg,fj,jc,bi,_,_,_,_,h8⟩:=(hT.get (t:=t) (by rw [hk];exact hko)).ex;exact ⟨d2,cg,by rw [<- hk];exact bi,h8⟩
 have dn:∀{v:Value},VRel G e σ w (.d .nilp) v->v=.pointer none:=fun h=>by cases h with | d _ _ h=>cases h;rfl
 have df:∀{v:Value},VRel G e σ w (.d .nilf) v->v=.nilFunc:=fun h=>by cases h with | d _ _ h=>cases h;rfl
 have di:∀{v:Value},VRel G e σ w (.d .nili) v->v=.nilIface:=fun h=>by cases h with | d _ _ h=>cases h;rfl
 unfold peq at h
 split at h
 ·rename_i bf
  obtain ⟨dd,fx,cg,_⟩:=tk _ bf sM;split at h
  ·rename_i a b
   cases hx.dbool;cases hy.dbool
   exact ⟨_,h,by rw [run_equal_bool w t a b (by rw [fx];exact congrArg some cg),ZaT],ZK rfl,rfl⟩
  exact h.elim
 ·rename_i el bf
  obtain ⟨dd,fx,cg,_⟩:=tk _ bf sM;obtain rfl:dd=.pointer el:=cg;split at h
  ·cases dn hx;cases dn hy
   exact mq23
  ·cases dn hx;cases hy
   exact mq23
  ·cases dn hx;cases hy
   exact mq23
  ·cases dn hy;cases hx
   exact mq23
  ·cases dn hy;cases hx
   exact mq23
  exact h.elim
 ·rename_i bf
  obtain ⟨dd,fx,⟨q1,q2,q3,rfl⟩,_⟩:=tk _ bf sM;split at h
  ·cases df hx;cases df hy
   exact mq23
  ·cases df hx;cases hy
   exact mq23
  ·cases df hy;cases hx
   exact mq23
  exact h.elim
 ·rename_i bf
  obtain ⟨dd,fx,⟨q1,rfl⟩,_⟩:=tk _ bf sM;split at h
  ·cases di hx;cases di hy
   split at h
   ·rename_i hc
    refine ⟨_,h,by rw [ZY,Op.equalIn];simp [Za fx],?_,rfl⟩
    cases op <;> first | rfl | (unfold eqGuard;cases x <;> cases y <;> first | rfl | (cases hc;done))
   exact h.elim
  ·cases di hx;cases hy
   exact ⟨_,h,by rw [ZY,Op.equalIn];simp [Za fx],by cases op <;> rfl,rfl⟩
  ·cases di hy;cases hx
   exact ⟨_,h,by rw [ZY,Op.equalIn];simp [Za fx],by cases op <;> rfl,rfl⟩
  ·rename_i t1 k a t2 k' b
   cases hx with
   | iface _ _ u hu =>
   cases hy with
   | iface _ _ v hv =>
   cases hu.dint;cases hv.dint
   split at h
   ·rename_i kk hb kb hek
    cases Tu hb
    split at h
    ·rename_i hkq
     cases ZcW hkq
     obtain ⟨i2,d2,z2,af,cg,fj,jc,bi,_,_,_,_,h8⟩:=(hT.get (t:=t1) (by rw [kb];simp)).ex;rw [kb] at bi;obtain rfl:d2=.int kk:=bi;have hc:=h8 hek;simp only [eqB,af] at hc;refine ⟨_,h,?_,by cases op <;> rfl,rfl⟩;rw [ZY,Op.equalIn];simp only [Sem.run_bind,Za fx,Result.andThen,ne_eq,not_true,if_false,Ya af,hc,Bool.not_true,TB];rw [run_equalIn_int w 9998 t1 k kk a b cg,ZaT]
    exact h.elim
   ·rename_i hb
    have ai:t1≠t2:=fun e=>by subst e;simp at hb
    refine ⟨_,h,?_,by cases op <;> rfl,rfl⟩;rw [ZY,Op.equalIn];simp [Za fx,ai]
   exact h.elim
  exact h.elim
 ·rename_i k1 e1 bf
  obtain ⟨dd,fx,⟨rfl,_⟩,_⟩:=tk _ bf sM;split at h
  ·cases hx;cases hy
   exact mq23
  ·cases hx;cases hy
   exact mq23
  ·cases hx;cases hy
   exact mq23
  exact h.elim
 ·rename_i el bf
  obtain ⟨dd,fx,cg,_⟩:=tk _ bf sM;obtain rfl:dd=.slice el:=cg;split at h
  ·cases hx;cases hy
   exact mq23
  ·cases hy
   cases hx with
   | d _ _ hx=>cases hx with
    | sl=>exact ⟨_,h,by rw [ZY,Op.equalIn];simp [Za fx],ZK rfl,rfl⟩
  ·cases hy
   cases hx with
   | sl _ _ _ _ _ hx _=>cases hx with
    | sl=>exact ⟨_,h,by rw [ZY,Op.equalIn];simp [Za fx],ZK rfl,rfl⟩
  exact h.elim
 ·rename_i fs bf
  obtain ⟨dd,fx,⟨gs,rfl,hf⟩,h8⟩:=tk _ bf sM;split at h
  ·rename_i hek
   have hB:=h8 hek;simp only [eqB,Tl,TV] at hB;split at h
   ·rename_i xs ys
    cases hx with
    | agg _ vxs sb ii _ =>
    cases hy with
    | agg _ vys hys hyr _ =>
    have hfo:G.P.fieldsOf t=gs:=by simp [Program.fieldsOf,fx]
    have conv:∀{l:List PV} {vs:Array Value},vs.size=l.length->(∀(i:Nat) (x:PV) (u:Value),l[i]?=some x->vs[i]?=some u->VRel G e σ w x u)->∀(j:Nat) (x:PV),l[j]?=some x->∃u,vs[0+j]?=some u/\VRel G e σ w x u:=fun {l vs} hs hr j x hx=>by
     have hj:=(To.1 hx).1;refine ⟨vs[j],by rw [Sx];exact TL oM,hr j x _ hx (TL oM)⟩
    obtain ⟨r,hK,aj⟩:=U5 hT 9998 hf hB.1.1 (conv sb ii) (conv hys hyr) h;refine ⟨r,hK,?_,run_eqGuard_agg w op t x y _ _ hB.2,rfl⟩;have:=run_equalIn_struct w 9999 t vxs vys (by rw [hfo];exact fx) hB.1.2;rw [hfo] at this;exact this.trans aj
   exact h.elim
  exact h.elim
 exact h.elim
def Znr {T:Tab} (hT:TabOK T G.P) {op:BinOp} {px py:PV} {vx vy:Value} {K:PV->Prop} {t:TypeId} {x y:Operand} (hx:VRel G e σ w px vx) (hy:VRel G e σ w py vy) (h:ZvQ T op t x y px py K) :
  ∃pv u,K pv/\VRel G e σ w pv u/\(do eqGuard op t x y vx vy;binOp op t vx vy:Sem Value).run G.P w=.ok u w:=by
 unfold ZvQ at h
 split at h
 ·rename_i k a k' b
  cases hx.dint;cases hy.dint
  split at h
  ·have hg:(eqGuard .shl t x y (.int k a) (.int k' b)).run G.P w=.ok () w:=rfl;have:¬b<0:=oM;exact VU h.2 (by simp [hg,binOp,Op.shift,this])
  ·refine ⟨_,_,h.2,.mkint,?_⟩;have hg:(eqGuard .shr t x y (.int k a) (.int k' b)).run G.P w=.ok () w:=rfl;have:¬b<0:=oM;simp [hg,binOp,Op.shift,this]
  split at h
  ·rename_i hk
   cases ZcW hk
   exact Znq h t x y
  exact h.elim
 ·rename_i a b
  cases hx.dstr;cases hy.dstr
  have hg:(eqGuard op t x y (.string ⟨a.toArray⟩) (.string ⟨b.toArray⟩)).run G.P w=.ok () w:=by cases op <;> rfl
  cases op <;> simp only at h <;> simp only [Sem.run_bind,hg,Result.andThen]
  case add =>
   refine ⟨_,_,h.2,.mkstr,?_⟩;have h1:¬((a.length:Int)+(b.length:Int)>IntKind.i64.max):=by
    have:IntKind.i64.max=2 ^ 63 - 1:=rfl;rw [this];have:=h.1;omega
   have h2:(⟨a.toArray⟩:ByteArray)++⟨b.toArray⟩=⟨(a++b).toArray⟩:=by
    apply ByteArray.ext;simp [ByteArray.data_append]
   have h3:(⟨a.toArray⟩:ByteArray).size=a.length:=rfl;have h4:(⟨b.toArray⟩:ByteArray).size=b.length:=rfl;simp only [binOp,Op.stringOp,h3,h4,Int.natCast_add];rw [Te h1,h2];rfl
  all_goals refine ⟨_,_,h,.mkbool,?_⟩
  all_goals simp only [binOp,Op.stringOp,toList_mk,<- ZaT,Sem.run_pure]
 rename_i px' py' agp yv
 cases op <;> simp only at h <;> first | exact h.elim | skip
 ·obtain ⟨b,hK,h1,h2,n1⟩:=Zib hT hx hy h .eql;refine ⟨_,_,hK,.mkbool,?_⟩;simp only [Sem.run_bind,h2,Result.andThen,Zpd n1,h1,Sem.run_pure]
 obtain ⟨b,hK,h1,h2,n1⟩:=Zib hT hx hy h .neq;refine ⟨_,_,hK,.mkbool,?_⟩;simp only [Sem.run_bind,h2,Result.andThen,Zpe n1,h1,Sem.run_pure]
def Xa {α:Type}:∀(l:List α) (o:Nat) (vs:List α),(Yi l o vs).length=l.length
 | [],_,[]=>rfl
 | _::_,_,[]=>rfl
 | [],_,_::_=>rfl
 | _::l,0,_::vs=>by simp [Yi,Xa l 0 vs]
 | _::l,o+1,v::vs=>by simp [Yi,Xa l o (v::vs)]
theorem Wj {α:Type}:∀(l:List α) (o:Nat) (vs:List α) (i:Nat),(Yi l o vs)[i]?=if o<=i/\i<o+vs.length/\i<l.length then vs[i - o]? else l[i]?
 | l,o,[],i=>by
  have:Yi l o []=l:=by cases l <;> rfl
  grind
 | [],o,v::vs,i=>by simp [Yi]
 | x::l,0,v::vs,i=>by
  cases i with
  | zero=>rfl
  | succ i =>
  have:=Wj l 0 vs i;simp only [Yi,TZ,this,T6,true_and,Sx,Tf,Nat.sub_zero]
  simp_all
 | x::l,o+1,v::vs,i=>by
  cases i with
  | zero=>rfl
  | succ i =>
  have:=Wj l o (v::vs) i;simp only [Yi,TZ,this,Tf]
  grind
theorem ZbD (vs:Array Value) (off:Nat):∀(l:List Value) (j:Nat) (cs:Array Value),((l.zipIdx j).foldl (fun cs (p:Value×Nat)=>cs.setIfInBounds (off+p.2) p.1) cs).size=cs.size:=by
 intro l
 induction l with
 | nil=>simp_all
 | cons v l ih=>simp_all
theorem ZcX (off:Nat):∀(l:List Value) (j:Nat) (cs:Array Value) (i:Nat),
  ((l.zipIdx j).foldl (fun cs (p:Value×Nat)=>cs.setIfInBounds (off+p.2) p.1) cs)[i]?=if off+j<=i/\i<off+j+l.length/\i<cs.size then l[i - (off+j)]? else cs[i]?:=by
 intro l
 induction l with
 | nil=>intro j cs i;rw [Te];rfl;grind
 | cons v l ih =>
 intro j cs i
 simp only [List.zipIdx_cons,SI]
 grind
theorem WK {x:PV} {v:Value} {l:List PV} (h:VRel G e σ w x v) (hl:x.cells=some l):v.cells.size=l.length/\∀(i:Nat) (y:PV) (u:Value),l[i]?=some y->v.cells[i]?=some u->VRel G e σ w y u/\u.oneCell'=true:=by
 have plain:∀(x:PV) (v:Value),VRel G e σ w x v->v.oneCell'=true->x.cells=some [x]->v.cells=#[v]->x.cells=some l->v.cells.size=l.length/\∀(i:Nat) (y:PV) (u:Value),l[i]?=some y->v.cells[i]?=some u->VRel G e σ w y u/\u.oneCell'=true:=by
  grind
 cases h with
 | agg cs vs hs h h1 =>
  cases hl
  exact ⟨hs,fun i y u hy hu=>⟨h i y u hy hu,h1 u (Sc hu)⟩⟩
 | undef v=>cases hl
 | d x v h=>exact plain _ _ (.d _ _ h) h.one rfl (by cases h <;> rfl) hl
 | sl t el rows v hn hd ht=>exact plain _ _ (.sl _ _ _ _ hn hd ht) hd.one rfl (by cases hd <;> rfl) hl
 | ptr b off h=>exact plain _ _ (.ptr _ _ h) rfl rfl rfl hl
 | asl b off n h=>exact plain _ _ (.asl _ _ _ h) rfl rfl rfl hl
 | elem r off b o u hc ho hu=>exact plain _ _ (.elem _ _ _ _ u hc ho hu) rfl rfl rfl hl
 | nils el=>exact plain _ _ (.nils _) rfl rfl rfl hl
 | func f a c va vc ha hc h1 h2=>exact plain _ _ (.func _ _ _ _ _ ha hc h1 h2) rfl rfl rfl hl
 | iface t x v h=>exact plain _ _ (.iface _ _ _ h) rfl rfl rfl hl
 | tuple cs vs hs h=>cases hl
 | raw v =>
  cases v with
  | func f a c=>exact plain _ _ (.raw _) rfl rfl rfl hl
  | _=>cases hl
 | mp b h=>exact plain _ _ (.mp _ h) rfl rfl rfl hl
 | nilm=>exact plain _ _ .nilm rfl rfl rfl hl
def Zpf (off:Nat) (vs cells:Array Value):Array.foldl (fun cs (x:Value×Nat)=>cs.setIfInBounds (off+x.2) x.1) vs cells.zipIdx=List.foldl (fun cs (x:Value×Nat)=>cs.setIfInBounds (off+x.2) x.1) vs (cells.toList.zipIdx 0):=by
 rw [<- Array.foldl_toList,Array.toList_zipIdx]
def FieldsOK.length {P:Program} {l:List (Nat×Nat)} {m:List Field} (h:FieldsOK P l m):m.length=l.length:=by
 induction h with
 | nil=>rfl
 | cons _ _ _ _ _ _ _ _ _ _ _ ih=>simp [ih]
theorem ZaU {T:Tab} (hT:TabOK T G.P) {fs:List (Nat×Nat)} {gs:List Field} (hf:FieldsOK G.P fs gs) {ρ:Operand->PV} {ρ':Operand->Value} (hρ:∀x,VRel G e σ w (ρ x) (ρ' x)) {K:List PV->Prop}
  (places:Nat->Option (Nat×Nat)) (hp:∀i f j,gs[i]?=some f->G.P.info? f.type=some j->places i=some (f.offset,j.size)) :
  ∀(ps:List (Nat×Operand)) (cs:List PV) (vs:Array Value),vs.size=cs.length->(∀(i:Nat) (x:PV) (u:Value),cs[i]?=some x->vs[i]?=some u->VRel G e σ w x u/\u.oneCell'=true) ->
   Yv T fs ρ ps cs K->∃cs' vs',K cs'/\Instr.fill places vs (ps.map fun p=>(p.1,ρ' p.2))=some vs'/\vs'.size=cs'.length/\(∀(i:Nat) (x:PV) (u:Value),cs'[i]?=some x->vs'[i]?=some u->VRel G e σ w x u/\u.oneCell'=true)
 | [],cs,vs,hs,hr,h=>⟨cs,vs,h,rfl,hs,hr⟩
 | (i,x)::ps,cs,vs,hs,hr,h=>by
  simp only [Yv] at h;split at h
  ·rename_i o t l tv hl
   split at h
   ·grind
   ·rename_i h1 h2 hk
    obtain ⟨f,j,hg,ho,ht,hi,hj⟩:=hf.get tv;obtain ⟨i2,d,z,af,hd,fj,ec,aq,hz,cx,_⟩:=(hT.get (t:=t) (fun h0=>hk h0)).ex;rw [hi] at af;cases af;have e1:=Tu h1;have e2:=Tb h2;obtain ⟨dv,bw⟩:=WK (hρ x) hl;have eg:=hp i f j hg (by simp_all);simp only [Tx,Instr.fill,eg];have hsz:(ρ' x).cells.size=j.size:=oM;rw [Te (by simp_all)];refine ZaU hT hf hρ places hp ps _ _ ?_ ?_ h
    ·rw [Xa,<- hs];rw [Zpf];exact ZbD vs f.offset (ρ' x).cells.toList 0 vs
    intro k y u hy hu
    rw [Wj] at hy;have hu':(((ρ' x).cells.toList.zipIdx 0).foldl (fun cs (p:Value×Nat)=>cs.setIfInBounds (f.offset+p.2) p.1) vs)[k]?=some u:=by
     rw [<- Zpf];exact hu
    rw [ZcX] at hu'
    grind
   simp_all
  simp_all
theorem ZGK {rows:List (List D)} {v:Value} (h:DRel (okc e σ) w (.sl rows) v) {n:Nat} {r:List D} (hr:rows[n]?=some r) :
  ∃(b off cap:Nat) (u:Nat->Value),v=.slice (some ⟨b,off,none⟩) rows.length cap/\n<rows.length/\(∀j,j<r.length->w.cell? ⟨b,off+n * r.length+j,none⟩=some (u j))/\(∀j,j<r.length->okc e σ b (off+n * r.length+j)) /\
   ∀(j:Nat) (x:D),r[j]?=some x->DRel (okc e σ) w x (u j):=by
 cases h with
 | slnil=>simp at hr
 | slz a=>simp at hr
 | sl rows b off cap sz u hcap hsz hc ho hu =>
 have hn:=(To.1 hr).1;have hlen:r.length=sz:=hsz r (TW hr);refine ⟨b,off,cap,u n,rfl,hn,fun j hj=>?_,fun j hj=>?_,fun j x hx=>hu n j x (by simp_all)⟩
 ·simp_all
 simp_all
def Xw (P:Program) (k:IntKind) (n:Int) (w:World):(asIntOf (.int k n)).run P w=.ok (k,n) w:=rfl
def Uw (P:Program) (k:IntKind) (n:Int) (y:Nat) (c:BoundsCode) (w:World) (h0:0<=n) (h:n<=y):(Instr.sliceBound (.int k n) y c).run P w=.ok n.toNat w:=by
 simp [Instr.sliceBound,Xw,h0,h]
theorem U6 {P:Program} {lo hi:Option PV} {vlo vhi:Option Value} (isS:Bool) {len cap:Nat} (hcap:len<=cap) (kh:∀v,vlo=some v->∃x,lo=some x/\VRel G e σ w x v) (yw:vlo=none->lo=none)
  (sc:∀v,vhi=some v->∃x,hi=some x/\VRel G e σ w x v) (qn:vhi=none->hi=none) {K:Nat->Nat->Prop} (h:Vd lo hi len K) :
  ∃l u,K l u/\l<=u/\u<=len/\(Instr.sliceBounds isS len cap vlo vhi none).run P w=.ok (l,u,cap) w:=by
 unfold Vd at h
 cases vlo with
 | none =>
  rw [yw rfl] at h
  cases vhi with
  | none =>
   rw [qn rfl] at h;exact ⟨0,len,h,T6 _,Tt _,by rfl⟩
  | some v =>
  obtain ⟨x,hx,hr⟩:=sc v rfl;rw [hx] at h;simp only at h;split at h
  ·cases hr.dint
   refine ⟨0,_,h.2.2,T6 _,oM,?_⟩;simp only [Instr.sliceBounds,Sem.run_bind,Sem.run_pure,Result.andThen];rw [Uw P _ _ cap _ w h.1 oM]
  simp_all
 | some v =>
 obtain ⟨x,hx,hr⟩:=kh v rfl;rw [hx] at h
 cases vhi with
 | none =>
  rw [qn rfl] at h;simp only at h;split at h
  ·cases hr.dint
   refine ⟨_,len,h.2.2,oM,Tt _,?_⟩;simp only [Instr.sliceBounds,Sem.run_bind,Sem.run_pure,Result.andThen];rw [Uw P _ _ len _ w h.1 h.2.1]
  simp_all
 | some v2 =>
 obtain ⟨y,hy,fd⟩:=sc v2 rfl;rw [hy] at h;simp only at h;split at h
 ·cases hr.dint;cases fd.dint
  refine ⟨_,_,h.2.2.2,oM,oM,?_⟩;simp only [Instr.sliceBounds,Sem.run_bind,Sem.run_pure,Result.andThen];rw [Uw P _ _ cap _ w oM oM];simp only [];rw [Uw P _ _ _ _ w h.1 oM]
 simp_all
end
end Go.PM
end

section
namespace Go.PM
section
variable {G:GE} {e:Env} {σ:St} {w:World} {T:Tab}
def KindOK.slice {P:Program} {e:Nat} {d:TypeDesc} (h:KindOK P (.slice e) d):d=.slice e:=h
theorem Zta {rows:List (List D)} {v:Value} {a b sz:Nat} (h:DRel (okc e σ) w (.sl rows) v) (hsz:∀r∈rows,r.length=sz) (w8:a<=b) (hb:b<=rows.length) :
  ∃ad cap,v=.slice ad rows.length cap/\rows.length<=cap/\DRel (okc e σ) w (.sl (cut rows a b)) (.slice (if cap=a then ad else ad.map (·.add (a * sz))) (b - a) (cap - a)):=by
 have hlen:(cut rows a b).length=b - a:=by simp [cut];omega
 cases h with
 | slnil =>
  refine ⟨none,0,rfl,Tt _,?_⟩;have h1:b=0:=by simp_all
  have h2:a=0:=oM;subst h1;subst h2;exact .slnil
 | slz ad =>
  refine ⟨some ad,0,rfl,Tt _,?_⟩;have h1:b=0:=by simp_all
  have h2:a=0:=oM;subst h1;subst h2;exact .slz ad
 | sl rows bk off cap sz' u hcap ki hc ho hu =>
 refine ⟨some ⟨bk,off,none⟩,cap,rfl,hcap,?_⟩
 by_cases hr:rows=[]
 ·subst hr;have h1:b=0:=by simp_all
  have h2:a=0:=oM;subst h1;subst h2;have hh:DRel (okc e σ) w (.sl (cut ([]:List (List D)) 0 0)) (.slice (some ⟨bk,off,none⟩) ([]:List (List D)).length cap):=.sl [] bk off cap sz' u (T6 _) (fun r h=>by cases h) (fun i j h=>by cases h) (fun i j h=>by cases h) (fun i j x h=>by simp at h);split
  ·exact hh
  simpa [Yb] using hh
 have hss:sz'=sz:=by
  cases rows with
  | nil=>simp_all
  | cons r l=>simp_all
 subst hss;have hg:∀i,i<b - a->(cut rows a b)[i]?=rows[a+i]?:=fun i hi=>by
  simp only [cut,List.getElem?_drop,List.getElem?_take]
  grind
 have main:DRel (okc e σ) w (.sl (cut rows a b)) (.slice (some ⟨bk,off+a * sz',none⟩) (cut rows a b).length (cap - a)):=by
  refine .sl _ bk (off+a * sz') (cap - a) sz' (fun i j=>u (a+i) j) oM (fun r hr=>ki r (List.mem_of_mem_take (List.mem_of_mem_drop hr))) ?_ ?_ ?_
  ·grind
  ·grind
  grind
 rw [hlen] at main;split
 ·rename_i hca
  have hba:b=a:=oM;subst hba;have:cut rows b b=[]:=by simp [cut]
  rw [this,Nat.sub_self];exact .sl [] bk off (cap - b) sz' u (T6 _) (fun r h=>by cases h) (fun i j h=>by cases h) (fun i j h=>by cases h) (fun i j x h=>by simp at h)
 simpa [Yb] using main
theorem VV {ρ:Operand->PV} {ρ':Operand->Value} (hρ:∀x,VRel G e σ w (ρ x) (ρ' x)) (lo:Option Operand):(∀v,lo.map ρ'=some v->∃x,lo.map ρ=some x/\VRel G e σ w x v)/\(lo.map ρ'=none->lo.map ρ=none):=by
 cases lo with
 | none=>simp_all
 | some x=>simp_all
theorem ZjX (hT:TabOK T G.P) {K:PV->Prop} {t:TypeId} {px:PV} {vx:Value} (hx:VRel G e σ w px vx) {ρ:Operand->PV} {ρ':Operand->Value} (hρ:∀x,VRel G e σ w (ρ x) (ρ' x)) {lo hi:Option Operand}
  (h:U1 T t px (lo.map ρ) (hi.map ρ) K):∃pv u,K pv/\VRel G e σ w pv u/\(Instr.sliceAt t vx (lo.map ρ') (hi.map ρ') none).run G.P w=.ok u w:=by
 unfold U1 at h
 split at h
 ·rename_i hk
  obtain ⟨i,d,z,gu,hd,hs,ec,aq,hz,cx,_⟩:=(hT.get (t:=t) (by grind)).ex;rw [hk] at aq;cases aq;split at h
  ·rename_i s
   cases hx.dstr
   obtain ⟨l,u,hK,hlu,hul,aj⟩:=U6 (G:=G) (e:=e) (σ:=σ) (w:=w) (P:=G.P) false (Tt s.length) (VV hρ lo).1 (VV hρ lo).2 (VV hρ hi).1 (VV hρ hi).2 h;refine ⟨_,_,hK,.mkstr,?_⟩;have hsz:(⟨s.toArray⟩:ByteArray).size=s.length:=rfl;simp only [Instr.sliceAt,Instr.slice,Sem.run_bind,Za hd,Result.andThen,Option.isSome_none,TB,if_false,hsz,aj,Sem.run_pure]
   congr 2
   apply ByteArray.ext
   apply Array.ext'
   simp [cut,ByteArray.data_extract,List.drop_take]
  simp_all
 ·rename_i el hk
  split at h
  ·grind
  rename_i cu
  split at h
  ·rename_i rows bu
   obtain ⟨i,d,z,gu,hd,hs,ec,aq,hz,cx,_⟩:=(hT.get (t:=t) (by grind)).ex;rw [hk] at aq;cases aq;have hD:=X0 bu hx;obtain ⟨hsz,h⟩:=h;obtain ⟨ad,cap,rfl,hcap⟩:=hD.sl_inv;obtain ⟨l,u,hK,hlu,hul,aj⟩:=U6 (G:=G) (e:=e) (σ:=σ) (w:=w) (P:=G.P) true hcap (VV hρ lo).1 (VV hρ lo).2 (VV hρ hi).1 (VV hρ hi).2 h;obtain ⟨ad',cap',hv,_,hR⟩:=Zta hD hsz hlu hul
   cases hv
   obtain ⟨i2,d2,z2,af,cg,fj,_,_,_,_,_⟩:=(hT.get (t:=el) (fun h0=>cu h0)).ex;refine ⟨_,_,hK,.d _ _ hR,?_⟩;simp only [Instr.sliceAt,Instr.slice,Sem.run_bind,Za hd,Result.andThen,aj,Zt af,Sem.run_pure,fj]
  simp_all
 ·rename_i n el hk
  split at h
  ·grind
  rename_i cu
  obtain ⟨i2,d2,z2,af,cg,fj,_,_,_,_,_⟩:=(hT.get (t:=el) (fun h0=>cu h0)).ex;obtain ⟨i,d,z,gu,hd,hs,ec,aq,hz,cx,_⟩:=(hT.get (t:=t) (by grind)).ex;rw [hk] at aq;cases aq;split at h
  ·rename_i b off kh sc
   cases hx with
   | ptr _ _ hb =>
   have e1:lo=none:=by simp_all
   have e2:hi=none:=by simp_all
   subst e1;subst e2;refine ⟨_,_,h,.asl b off n hb,?_⟩;simp only [Instr.sliceAt,Instr.sureAddr,Instr.sliceBounds,Option.map_none,Sem.run_bind,Za hd,Result.andThen,Sem.run_pure,Zt af]
   by_cases hn:n=0
   ·simp_all
   simp [hn,Yb]
  ·rename_i b off kk a kh sc
   obtain ⟨qo,han,hK⟩:=h
   cases hx with
   | ptr _ _ hb =>
   have e2:hi=none:=by simp_all
   subst e2
   cases lo with
   | none=>grind
   | some x0 =>
   have jd:=hρ x0;simp only [TX,Option.some.injEq] at kh;rw [kh] at jd;refine ⟨_,_,hK,.asl b _ _ hb,?_⟩;have aw:a<=(n:Int):=oM;have ai:¬n=a.toNat:=oM;simp [Instr.sliceAt,Instr.sureAddr,Instr.sliceBounds,Instr.sliceBound,asIntOf,jd.dint,Sem.run_bind,Za hd,Result.andThen,Sem.run_pure,Zt af,qo,aw,ai,fj,Yb]
  simp_all
 simp_all
theorem Jn:∀(l acc:List UInt8),(l.map (fun b:UInt8=>(b.toNat:Int))).foldl (fun r n=>r.push (UInt8.ofNat n.toNat)) (⟨acc.toArray⟩:ByteArray)=⟨(acc++l).toArray⟩
 | [],acc=>sM
 | b::l,acc=>by
  simp only [Tx,SI,Tg,UInt8.ofNat_toNat];have:(⟨acc.toArray⟩:ByteArray).push b=⟨(acc++[b]).toArray⟩:=by
   apply ByteArray.ext;simp_all
  rw [this,Jn l (acc++[b])];simp
theorem ZjY {l:List UInt8} {v:Value} (h:DRel (okc e σ) w (.sl (l.map (fun b=>[.int .u8 b.toNat]))) v):(Conv.bytesToString v).run G.P w=.ok (.string ⟨l.toArray⟩) w:=by
 generalize hr:l.map (fun b:UInt8=>[D.int .u8 b.toNat])=rows at h
 cases h with
 | slnil =>
  have:l=[]:=by simp_all
  subst this;rfl
 | slz ad =>
  have:l=[]:=by simp_all
  subst this;rfl
 | sl rows b off cap sz u hcap hsz hc ho hu =>
 subst hr;have hl:=run_bytesToString (P:=G.P) w ⟨b,off,none⟩ (l.map (fun b=>[D.int .u8 b.toNat])).length cap (l.map (fun b:UInt8=>(b.toNat:Int))) ?_
 ·rw [hl]
  congr 2
  exact (Jn l []).trans sM
 have:=run_loadCells_list (P:=G.P) w ⟨b,off,none⟩ ((l.map (fun b:UInt8=>(b.toNat:Int))).map (Value.int .u8)) (fun j x hx=>?_)
 ·simp_all
 rw [Yb];simp only [Sj,Th] at hx
 cases hj:l[j]? with
 | none=>simp_all
 | some y =>
 rw [hj] at hx
 cases hx
 have t7:=(To.1 hj).1;have h1:(l.map (fun b:UInt8=>[D.int .u8 b.toNat]))[j]?=some [.int .u8 y.toNat]:=by simp_all
 have lw:sz=1:=(hsz _ (TW h1)).symm;subst lw;have h2:=hc j 0 (by simp_all) oM;have h3:=hu j 0 (.int .u8 y.toNat) (by grind)
 cases h3v:u j 0 <;> rw [h3v] at h3 <;> cases h3
 simp_all
theorem Zic {α:Type}:∀{n:Nat} {l r:List α},UV n l=some r->∀(j:Nat) (x:α),r[j]?=some x->l[j]?=some x
 | 0,l,r,h,j,x,hx=>by simp only [UV] at h;simp_all
 | n+1,[],r,h,j,x,hx=>by trivial
 | n+1,y::l,r,h,j,x,hx=>by
  simp only [UV] at h;split at h
  ·rename_i r' ot
   cases h
   cases j with
   | zero=>simp_all
   | succ j=>simp only [TZ] at hx |-;exact Zic ot j x hx
  cases h
theorem Zpg {b off n:Nat} {tb:TypeId} {cs:List PV} {l:List UInt8} (hb:BRel G e σ w (.cells tb cs) (e.β b)) (cd:UV n (cs.drop off)=some (l.map fun b=>.d (.int .u8 b.toNat))) (qp:l.length=n) :
  (Conv.bytesToString (.slice (some ⟨e.β b,off,none⟩) n n)).run G.P w=.ok (.string ⟨l.toArray⟩) w:=by
 obtain ⟨vs,m9,ou,t8⟩:=hb;have hl:=run_bytesToString (P:=G.P) w ⟨e.β b,off,none⟩ n n (l.map (fun b:UInt8=>(b.toNat:Int))) ?_
 ·rw [hl]
  congr 2
  exact (Jn l []).trans sM
 have:=run_loadCells_list (P:=G.P) w ⟨e.β b,off,none⟩ ((l.map (fun b:UInt8=>(b.toNat:Int))).map (Value.int .u8)) (fun j x hx=>?_)
 ·simp_all
 rw [Yb];simp only [Sj,Th] at hx
 cases hj:l[j]? with
 | none=>simp_all
 | some y =>
 rw [hj] at hx
 cases hx
 have h1:=Zic cd j (.d (.int .u8 y.toNat)) (by simp_all);rw [List.getElem?_drop] at h1;have aa:off+j<vs.size:=by
  grind
 have hvj:=TL aa;have h2:=(t8 (off+j) _ _ h1 hvj).1;have h3:=h2.dint;simp only [World.cell?,m9,hvj,h3];rfl
def MRel (G:GE) (e:Env) (σ:St) (w:World):List PV->List MapEntry->Prop
 | [],[]=>True
 | .d (.str k)::x::cs,u::l=>u.key=.string ⟨k.toArray⟩/\VRel G e σ w x u.val/\MRel G e σ w cs l
 | _,_=>False
theorem MRel.of {G:GE} {e:Env} {σ:St} {w:World}:∀{cs:List PV} {l:List MapEntry},cs.length=2 * l.length->(∀(i:Nat) (u:MapEntry),l[i]?=some u->∃k x,cs[2 * i]?=some (.d (.str k))/\cs[2 * i+1]?=some x/\u.key=.string ⟨k.toArray⟩/\VRel G e σ w x u.val)->MRel G e σ w cs l
 | [],[],_,_=>trivial
 | [],_::_,h,_=>by simp at h
 | _::_,[],h,_=>by simp at h
 | [_],_::_,h,_=>by grind
 | a::x::cs,u::l,hl,h=>by
  obtain ⟨k,x',h1,h2,h3,h4⟩:=h 0 u rfl;simp only [Nat.mul_zero,Sx,List.getElem?_cons_zero,TZ,Option.some.injEq] at h1 h2;subst h1;subst h2;refine ⟨h3,h4,MRel.of (by grind) fun i u hu=>?_⟩;obtain ⟨k,x',g1,g2,g3,g4⟩:=h (i+1) u (by simp_all)
  grind
theorem MRel.to {G:GE} {e:Env} {σ:St} {w:World}:∀{cs:List PV} {l:List MapEntry},MRel G e σ w cs l->cs.length=2 * l.length/\∀(i:Nat) (u:MapEntry),l[i]?=some u->∃k x,cs[2 * i]?=some (.d (.str k))/\cs[2 * i+1]?=some x/\u.key=.string ⟨k.toArray⟩/\VRel G e σ w x u.val
 | [],[],_=>⟨rfl,fun i u h=>by simp at h⟩
 | [],_::_,h=>h.elim
 | .d (.str k)::x::cs,u::l,h=>by
  obtain ⟨h1,h2,h3⟩:=h;obtain ⟨g1,g2⟩:=MRel.to h3
  grind
 | .d (.str _)::_::_,[],h=>h.elim
 | [.d (.str _)],_,h=>by cases h
theorem ZlE {a b:List UInt8}:((⟨a.toArray⟩:ByteArray) == ⟨b.toArray⟩)=decide (a=b):=by
 rw [show ((⟨a.toArray⟩:ByteArray) == ⟨b.toArray⟩)=(a.toArray == b.toArray) from rfl,Bool.eq_iff_iff,beq_iff_eq,decide_eq_true_iff]
 simp_all
theorem Yo {G:GE} {e:Env} {σ:St} {w:World} {key:List UInt8}:∀{cs:List PV} {l:List MapEntry} {n:Nat},MRel G e σ w cs l ->
  (∃x v j,findM key cs=some x/\Instr.findNow .string (.string ⟨key.toArray⟩) l n=some (some (j,v))/\VRel G e σ w x v/\n<=j/\j - n<l.length /\
   (∀u u',VRel G e σ w u u'->∃cs',Znj key u cs=some cs'/\MRel G e σ w cs' (l.modify (j - n) fun en=>{ en with key:=.string ⟨key.toArray⟩,val:=u' }))/\∃en,l[j - n]?=some en/\en.key=.string ⟨key.toArray⟩) \/
  (findM key cs=none/\Instr.findNow .string (.string ⟨key.toArray⟩) l n=some none/\∀u,Znj key u cs=none)
 | [],[],n,_=>.inr ⟨rfl,rfl,fun _=>rfl⟩
 | [],_::_,_,h=>h.elim
 | .d (.str k)::x::cs,u::l,n,h=>by
  obtain ⟨h1,h2,h3⟩:=h;have hs:Instr.sameNow .string (.string ⟨key.toArray⟩) u.key=some (decide (key=k)):=by rw [h1];simp only [Instr.sameNow,ZlE]
  simp only [findM,Instr.findNow,hs,Znj]
  cases hd:decide (key=k) with
  | true =>
   have hk:=SE hd;subst hk;refine .inl ⟨x,u.val,n,rfl,rfl,h2,Tt _,sM,fun v v' hv=>⟨_,rfl,?_⟩,u,sM,h1⟩;simp only [Nat.sub_self];trivial
  | false =>
  rcases Yo (n:=n+1) h3 with ⟨y,v,j,g1,g2,g3,g4,g5,g6,en,g7,g8⟩ | ⟨g1,g2,g3⟩
  ·refine .inl ⟨y,v,j,g1,g2,g3,oM,by grind,fun v v' hv=>?_,en,?_,g8⟩
   ·obtain ⟨cs',q1,q2⟩:=g6 v v' hv;refine ⟨_,by rw [q1],?_⟩;rw [show j - n=(j - (n+1))+1 by omega];trivial
   grind
  simp_all
 | .d (.str _)::_::_,[],_,h=>h.elim
 | [.d (.str _)],_,_,h=>by cases h
def Jo {P:Program} {k:TypeId} (hk:P.underlying k=some .string) (b:Bool) (s:ByteArray) (w:World):(Instr.checkKey b 10000 k (.string s)).run P w=.ok () w:=by
 rw [show (10000:Nat)=9999+1 from rfl,Instr.checkKey];simp [Za hk]
def Ux {P:Program} {k:TypeId} (hk:P.underlying k=some .string) {key:Value} {l:List MapEntry} {r:Option (Nat×Value)} (h:Instr.findNow .string key l 0=some r) (w:World):(Instr.findKey k key l).run P w=.ok r w:=by
 unfold Instr.findKey
 simp only [Sem.run_bind,Za hk,Result.andThen,h,Sem.run_pure]
theorem BRel.mrel {G:GE} {e:Env} {σ:St} {w:World} {cs:List PV} {bn:List Nat} {ck b:Nat} (h:BRel G e σ w (.map cs bn ck) b):∃es:Array MapEntry,w.heap[b]?=some (.map es ck)/\MRel G e σ w cs es.toList/\es.toList.map (·.born)=bn:=by
 obtain ⟨es,h1,h2,h3,h4⟩:=h;refine ⟨es,h1,MRel.of (by simp_all) fun i u hu=>?_,?_⟩
 ·simp_all
 apply List.ext_getElem?
 grind
theorem BRel.ofM {G:GE} {e:Env} {σ:St} {w:World} {cs:List PV} {bn:List Nat} {ck b:Nat} {es:Array MapEntry} (h1:w.heap[b]?=some (.map es ck)) (h2:MRel G e σ w cs es.toList) (h3:es.toList.map (·.born)=bn):BRel G e σ w (.map cs bn ck) b:=by
 obtain ⟨g1,g2⟩:=h2.to;have hl:es.size=bn.length:=by grind
 refine ⟨es,h1,hl,by simp_all,fun i u hu=>⟨?_,g2 i u (by simp_all)⟩⟩
 grind
theorem ZeM {P:Program} {t kt el:TypeId} (hd:P.underlying t=some (.map kt el)) (cp:P.underlying kt=some .string) {zv:Value} {w:World} (hz:(zeroValue el).run P w=.ok zv w) {ok:Bool} (s:ByteArray) :
  (Instr.lookup t (.map none) (.string s) ok).run P w=.ok (if ok then .tuple #[zv,.bool false] else zv) w:=by
 unfold Instr.lookup
 simp only [Sem.run_bind,Za hd,Result.andThen,Sem.run_pure];have h1:=Jo cp (#[]:Array MapEntry).isEmpty s w;have h2:=Ux (P:=P) cp (key:=.string s) (l:=[]) (r:=none) rfl w
 simp_all
theorem Yl {P:Program} {t kt el:TypeId} (hd:P.underlying t=some (.map kt el)) (cp:P.underlying kt=some .string) {zv:Value} {w:World} (hz:(zeroValue el).run P w=.ok zv w) {ok:Bool} {s:ByteArray} {r ck:Nat} {es:Array MapEntry} (ho:w.heap[r]?=some (.map es ck)) {q:Option (Nat×Value)} (hq:Instr.findNow .string (.string s) es.toList 0=some q) :
  (Instr.lookup t (.map (some r)) (.string s) ok).run P w=.ok (if ok then .tuple #[(match q with | some (_,v)=>v | none=>zv),.bool q.isSome] else (match q with | some (_,v)=>v | none=>zv)) w:=by
 unfold Instr.lookup
 have h0:(getObj r).run P w=.ok (.map es ck) w:=by simp only [getObj,Sem.run,ho]
 simp only [Sem.run_bind,Za hd,Result.andThen,h0,Sem.run_pure];have h1:=Jo cp es.isEmpty s w;have h2:=Ux (P:=P) cp hq w
 cases q with
 | none=>simp_all
 | some p=>simp_all
def Y3 {k:List UInt8}:∀m:List (List UInt8×MV),findM k (J1 m)=(lkM k m).map MV.pv
 | []=>rfl
 | (x,v)::l=>by
  simp only [J1,findM,lkM]
  cases decide (k=x) with
  | true=>rfl
  | false=>exact Y3 l
theorem ZcY {k:List UInt8} {y:MV}:∀m:List (List UInt8×MV),Znj k y.pv (J1 m)=some (J1 (Z2 k y m))\/(Znj k y.pv (J1 m)=none/\J1 (Z2 k y m)=J1 m++[.d (.str k),y.pv])
 | []=>.inr ⟨rfl,rfl⟩
 | (x,v)::l=>by
  simp only [J1,Znj,Z2]
  cases decide (k=x) with
  | true=>exact .inl rfl
  | false =>
  rcases ZcY (k:=k) (y:=y) l with h | ⟨h,h2⟩
  ·exact .inl (by simp only [h];rfl)
  exact .inr ⟨by grind,by simp only [J1,h2,Sl]⟩
def J3:∀m:List (List UInt8×MV),(J1 m).length=2 * m.length
 | []=>rfl
 | (x,v)::l=>by simp only [J1,Tf,J3 l];omega
def Vg {k:List UInt8}:∀m:List (List UInt8×List (List D)),findM k (VR m none)=(lkM k m).map fun r=>.d (.sl r)
 | []=>rfl
 | (x,v)::l=>by
  simp only [VR,findM,lkM]
  cases decide (k=x) with
  | true=>rfl
  | false=>exact Vg l
theorem Jp {k:List UInt8} {v:PV}:∀m:List (List UInt8×List (List D)),findM k (VR m (some (k,v)))=(lkM k m).map fun _=>v
 | []=>rfl
 | (x,r)::l=>by
  simp only [VR,findM,lkM,Zh3]
  by_cases h:k=x
  ·grind
  have h':¬x=k:=fun e=>h e.symm
  simp only [decide_eq_false h,decide_eq_false h'];exact Jp l
def BRel.of_smap {G:GE} {e:Env} {σ:St} {w:World} {el:Nat} {m:List (List UInt8×List (List D))} {fo:Option (List UInt8×PV)} {b:Nat} (h:BRel G e σ w (.smap el m fo) b):∃bn ck,BRel G e σ w (.map (VR m fo) bn ck) b:=by
 obtain ⟨es,⟨bn,ck,h1,h2,h3,h4⟩,_⟩:=h;exact ⟨bn,ck,es,h1,h2,h3,h4⟩
def optK.ex {α:Type} {o:Option α} {A:α->Prop} {B:Prop} (h:optK o A B):(∃a,o=some a/\A a)\/(o=none/\B):=by
 cases o with
 | some a=>exact .inl ⟨a,rfl,h⟩
 | none=>exact .inr ⟨rfl,h⟩
theorem Zid {G:GE} {e:Env} {σ:St} {w:World} {T:Tab} (hT:TabOK T G.P) (hS:SRel G e σ w) {t:TypeId} {pm pk:PV} {vm vk:Value} {ok:Bool} {K:PV->Prop} (hm:VRel G e σ w pm vm) (hk:VRel G e σ w pk vk) (h:YD T t pm pk ok σ.bx K) :
  ∃pv v,K pv/\VRel G e σ w pv v/\(Instr.lookup t vm vk ok).run G.P w=.ok v w:=by
 unfold YD at h
 split at h
 ·rename_i kt el bf
  obtain ⟨i,d,z0,hi,hd,_,_,aq,_⟩:=(hT.get (t:=t) (by simp_all)).ex;rw [bf] at aq;obtain ⟨rfl,cp⟩:=aq;split at h
  ·grind
  rename_i heo
  split at h
  ·rename_i key
   cases hk.dstr
   split at h
   ·rename_i z hz
    obtain ⟨zv,i5,ml⟩:=Znp hT (fun he=>heo he) hz (e:=e) (σ:=σ) (w:=w);have tup:∀{x:PV} {v:Value} {b:Bool},VRel G e σ w x v->K (match (generalizing:=false) ok with | true=>.tuple [x,.d (.bool b)] | false=>x)->∃pv,K pv/\VRel G e σ w pv (if ok then .tuple #[v,.bool b] else v):=by
     intro x v b hx hK
     cases ok with
     | false=>grind
     | true =>
     refine ⟨_,hK,.tuple _ _ rfl fun i y u hy hu=>?_⟩
     match i,hy,hu with
     | 0,hy,hu=>simp_all
     | 1,hy,hu=>cases hy;cases hu;exact .mkbool
     | i+2,hy,hu=>simp at hy
    cases hm with
    | nilm =>
     obtain ⟨pv,hK,hr⟩:=tup i5 h;exact ⟨pv,_,hK,hr,ZeM hd cp ml _⟩
    | mp b hb =>
     simp only at h;split at h
     ·rename_i cs bn ck d8
      obtain ⟨es,g1,g2,_⟩:=(hS.box _ _ d8).mrel;rcases Yo (n:=0) (key:=key) g2 with ⟨x,v,j,q1,q2,q3,_⟩ | ⟨q1,q2,_⟩
      ·rw [q1] at h;obtain ⟨pv,hK,hr⟩:=tup q3 h;exact mq94
      rw [q1] at h;obtain ⟨pv,hK,hr⟩:=tup i5 h;exact mq94
     ·rename_i l d8
      obtain ⟨bn,ck,_,hB⟩:=(hS.box _ _ d8).of_dmap;obtain ⟨es,g1,g2,_⟩:=hB.mrel;rcases Yo (n:=0) (key:=key) g2 with ⟨x,v,j,q1,q2,q3,_⟩ | ⟨q1,q2,_⟩
      ·rcases h.ex with ⟨a,ha,h⟩ | ⟨ha,h⟩
       ·rw [Y3,ha] at q1
        cases q1
        obtain ⟨pv,hK,hr⟩:=tup q3 h;exact mq94
       rw [Y3,ha] at q1
       cases q1
      rcases h.ex with ⟨a,ha,h⟩ | ⟨ha,h⟩
      ·rw [Y3,ha] at q1
       cases q1
      obtain ⟨pv,hK,hr⟩:=tup i5 h;exact mq94
     ·rename_i el2 l fo d8
      have qq:=hS.box _ _ d8;obtain ⟨bn,ck,hB⟩:=qq.of_smap;obtain ⟨es,g1,g2,_⟩:=hB.mrel;have sd:=Yo (n:=0) (key:=key) g2;split at h
      ·rcases sd with ⟨x,v,j,q1,q2,q3,_⟩ | ⟨q1,q2,_⟩
       ·rcases h.ex with ⟨a,ha,h⟩ | ⟨ha,h⟩
        ·rw [Vg,ha] at q1
         cases q1
         obtain ⟨pv,hK,hr⟩:=tup q3 h;exact mq94
        rw [Vg,ha] at q1
        cases q1
       rcases h.ex with ⟨a,ha,h⟩ | ⟨ha,h⟩
       ·rw [Vg,ha] at q1
        cases q1
       obtain ⟨pv,hK,hr⟩:=tup i5 h;exact mq94
      split at h
      ·obtain ⟨rfl,h⟩:=h;rcases sd with ⟨x,v,j,q1,q2,q3,_⟩ | ⟨q1,q2,_⟩
       ·rw [Jp] at q1;obtain ⟨_,_,rfl⟩:=TD.1 q1;exact ⟨_,_,h,q3,Yl hd cp ml g1 q2⟩
       rw [Jp,Option.map_eq_none_iff] at q1;obtain ⟨es',_,_,q4,_⟩:=qq;have:=q4 _ rfl q1;simp only at this;subst this
       cases i5
       exact ⟨_,_,h,.nils _,Yl hd cp ml g1 q2⟩
      simp_all
     simp_all
    | _=>grind
   simp_all
  simp_all
 simp_all
theorem Zph (hT:TabOK T G.P) (hS:SRel G e σ w) {K:PV->Prop} {ρ:Operand->PV} {ρ':Operand->Value} (hρ:∀x,VRel G e σ w (ρ x) (ρ' x)) (o:Oper) (h:qop T o.op o.type ρ σ.bx K) :
  ∃pv v,K pv/\VRel G e σ w pv v/\(execOp ρ' o).run G.P w=.ok (.value v) w:=by
 have mv:∀x:Operand,(match ρ x with
  | .nils _=>match (T.get o.type).kind with | .slice e=>K (.nils e) | _=>K (.nils 0)
  | v=>K v)->∃pv,K pv/\VRel G e σ w pv (ρ' x):=by
  intro x hx
  have hr:=hρ x;split at hx
  ·rename_i el bm
   rw [bm] at hr;generalize ρ' x=v at hr |-
   cases hr
   split at hx
   ·exact ⟨_,hx,.nils _⟩
   exact ⟨_,hx,.nils _⟩
  grind
 unfold execOp
 unfold qop at h
 split at h
 ·rename_i x ho
  obtain ⟨pv,hK,hr⟩:=mv x h;exact ⟨pv,_,hK,hr,by simp_all⟩
 ·rename_i x ho
  obtain ⟨pv,hK,hr⟩:=mv x h;exact ⟨pv,_,hK,hr,by simp_all⟩
 ·rename_i c a b ho
  have hc:=hρ c;split at h
  ·rename_i t bm
   rw [bm] at hc;have hcb:=hc.dbool
   cases t with
   | true=>exact ⟨_,_,h,hρ a,by simp [ho,hcb,asBool]⟩
   | false=>exact ⟨_,_,h,hρ b,by simp [ho,hcb,asBool]⟩
  simp_all
 ·rename_i t ps ho
  split at h
  ·rename_i fs hk
   obtain ⟨i,d,z,hi,hd,hs,ec,aq,hz,cx,_⟩:=(hT.get (t:=t) (by grind)).ex;rw [hk] at aq;obtain ⟨gs,rfl,hf⟩:=aq;obtain ⟨om,i5⟩:=Xv (G:=G) (e:=e) (σ:=σ) (w:=w) cx;have qr:∀(l:List Field) (m:List (Nat×Nat)),FieldsOK G.P m l->∃pl:List (Nat×Nat),(l.mapM fun f=>(do pure (f.offset,<- sizeOf f.type):Sem (Nat×Nat))).run G.P w=.ok pl w/\∀(i:Nat) (f:Field) (j:TypeInfo),l[i]?=some f->G.P.info? f.type=some j->pl[i]?=some (f.offset,j.size):=by
    intro l m hm
    induction hm with
    | nil=>simp_all
    | cons o t l f m i' ho ht gu qf _ ih =>
    obtain ⟨pl,h1,h2⟩:=ih;have ov:G.P.info? f.type=some i':=by simp_all
    refine ⟨(f.offset,i'.size)::pl,?_,fun k g j hg hj=>?_⟩
    ·simp only [List.mapM_cons,Sem.run_bind,Zt ov,Result.andThen,Sem.run_pure,h1]
    grind
   obtain ⟨pl,agt,acf⟩:=qr gs.toList fs hf;obtain ⟨cs',vs',hK,yx,qf,ot⟩:=ZaU hT hf hρ (fun i=>pl[i]?) acf ps.toList (T.get t).zero z.cells oM (fun i x u hx hu=>i5 i x u hx (by simp_all)) h;refine ⟨_,_,hK,.agg _ vs' qf (fun i x u hx hu=>(ot i x u hx hu).1) (fun u hu=>?_),?_⟩
   ·obtain ⟨i,gu,hiu⟩:=SB hu;have aa:i<cs'.length:=oM;exact (ot i _ u (Ta aa) (by simp_all)).2
   have hm:(gs.mapM fun f=>(do pure (f.offset,<- sizeOf f.type):Sem (Nat×Nat))).run G.P w=.ok pl.toArray w:=by
    rw [Array.mapM_eq_mapM_toList]
    simp_all
   simp only [ho,Instr.build,zeroValue,Sem.run_bind,Ya hi,Result.andThen,hz,Sem.run_pure,Za hd]
   simp_all
  ·rename_i n el hk
   obtain ⟨i,d,z,hi,hd,hs,ec,aq,hz,cx,_⟩:=(hT.get (t:=t) (by grind)).ex;rw [hk] at aq
   cases aq
   split at h
   ·grind
   rename_i cu
   split at h
   ·rename_i bq
    have bq:=Tb bq;obtain ⟨ie,de,ze,w9,hde,hse,_⟩:=(hT.get (t:=el) (fun h0=>cu h0)).ex;obtain ⟨om,i5⟩:=Xv (G:=G) (e:=e) (σ:=σ) (w:=w) cx;have hgs:∀m i0,FieldsOK G.P (ZwJ (T.get el).size el m i0) ((List.range' i0 m).map fun k=>({ (default:Field) with type:=el,offset:=k * (T.get el).size }:Field)):=by
     intro m
     induction m with
     | zero=>exact fun _=>.nil
     | succ m ih=>exact fun i0=>.cons _ _ _ _ _ ie rfl rfl w9 oM (ih (i0+1))
    have eg:∀(i:Nat) (f:Field) (j:TypeInfo),((List.range' 0 n).map fun k=>({ (default:Field) with type:=el,offset:=k * (T.get el).size }:Field))[i]?=some f->G.P.info? f.type=some j->(fun i=>some (i * ie.size,ie.size)) i=some (f.offset,j.size):=by
     grind
    obtain ⟨cs',vs',hK,yx,qf,ot⟩:=ZaU hT (hgs n 0) hρ (fun i=>some (i * ie.size,ie.size)) eg ps.toList (T.get t).zero z.cells oM (fun i x u hx hu=>i5 i x u hx (by simp_all)) h;refine ⟨_,_,hK,.agg _ vs' qf (fun i x u hx hu=>(ot i x u hx hu).1) (fun u hu=>?_),?_⟩
    ·obtain ⟨i,gu,hiu⟩:=SB hu;have aa:i<cs'.length:=oM;exact (ot i _ u (Ta aa) (by simp_all)).2
    simp only [ho,Instr.build,zeroValue,Sem.run_bind,Ya hi,Result.andThen,hz,Sem.run_pure,Za hd,Zt w9]
    simp_all
   simp_all
  simp_all
 ·rename_i t a ho
  obtain ⟨pv,u,hK,hr,aj⟩:=Zfj hT hS (hρ a) h;exact ⟨pv,u,hK,hr,by simp_all⟩
 ·rename_i t m x ok ho
  obtain ⟨pv,u,hK,hr,aj⟩:=Zid hT hS (hρ m) (hρ x) h;exact ⟨pv,u,hK,hr,by simp_all⟩
 ·rename_i x ho
  have hx:=hρ x;split at h
  ·rename_i b off bm;rw [bm] at hx
   exact mq113
  ·rename_i r off bm;rw [bm] at hx
   exact mq113
  ·rename_i g a c bm;rw [bm] at hx
   exact mq113
  simp_all
 ·rename_i op t x y yt ho
  obtain ⟨pv,u,hK,hr,aj⟩:=Znr hT (hρ x) (hρ y) h;exact ⟨pv,u,hK,hr,by simp only [ho];rw [Sem.run_bind,aj];rfl⟩
 ·rename_i op t x ho
  have hx:=hρ x;split at h
  ·rename_i b bm;rw [bm] at hx
   exact ⟨_,_,h,.mkbool,by simp [ho,hx.dbool,Op.unary]⟩
  ·rename_i k a bm;rw [bm] at hx
   obtain ⟨pv,h1,h2⟩:=Jm (G:=G) (e:=e) (σ:=σ) (w:=w) h;exact ⟨_,_,h1,h2,by simp [ho,hx.dint,Op.unary,Op.intArith]⟩
  ·rename_i k a bm;rw [bm] at hx
   exact ⟨_,_,h,.mkint,by simp [ho,hx.dint,Op.unary,J2]⟩
  simp_all
 ·rename_i s d x ho
  have hx:=hρ x;split at h
  ·grind
  ·rename_i el hk
   obtain ⟨i,ds,z,hi,hd,hs,ec,aq,hz,cx,_⟩:=(hT.get (t:=s) (by grind)).ex;rw [hk] at aq;cases aq;split at h
   ·rename_i cu
    obtain ⟨i2,dd,z2,af,cg,fj,jc,bi,cx,ua,_⟩:=(hT.get (t:=d) (by simp_all)).ex;rw [cu] at bi;cases bi;split at h
    ·rename_i hk3
     obtain ⟨i3,de,z3,hi3,ow,mn,yy,kj,hz3,aci,_⟩:=(hT.get (t:=el) (by simp_all)).ex;rw [hk3] at kj;cases kj;split at h
     ·rename_i rows bu
      obtain ⟨l,rfl,hK⟩:=h;have hD:=X0 bu hx;have hb:=ZjY (G:=G) hD;refine ⟨_,_,hK,.mkstr,?_⟩;obtain ⟨a,cap,hv,_⟩:=hD.sl_inv;simp only [ho,convert,Sem.run_bind,Za hd,Za cg,Result.andThen];rw [hv] at hb |-;simp only [Za ow,Sem.run_bind,Result.andThen,hb,Sem.run_pure]
     simp_all
    simp_all
   simp_all
  rename_i lq cu
  obtain ⟨i,ds,z,hi,hd,hs,ec,aq,hz,cx,_⟩:=(hT.get (t:=s) (fun h0=>lq h0)).ex;split at h
  ·rename_i k kb
   obtain ⟨i2,dd,z2,af,cg,fj,jc,bi,cx,ua,_⟩:=(hT.get (t:=d) (by simp_all)).ex;rw [kb] at bi;cases bi;split at h
   ·rename_i k' n bm;rw [bm] at hx
    obtain ⟨pv,h1,h2⟩:=Jm (G:=G) (e:=e) (σ:=σ) (w:=w) h;refine ⟨_,_,h1,h2,?_⟩;simp only [ho,hx.dint,convert,Sem.run_bind,Za hd,Za cg,Result.andThen];rfl
   simp_all
  ·rename_i kb
   obtain ⟨i2,dd,z2,af,cg,fj,jc,bi,cx,ua,_⟩:=(hT.get (t:=d) (by simp_all)).ex;rw [kb] at bi;cases bi;split at h
   ·rename_i s' bm;rw [bm] at hx
    refine ⟨_,_,h,.mkstr,?_⟩;simp only [ho,hx.dstr,convert,Sem.run_bind,Za hd,Za cg,Result.andThen];rfl
   ·rename_i k' n bm;rw [bm] at hx
    refine ⟨_,_,h,.mkstr,?_⟩;simp only [ho,hx.dint,convert,Sem.run_bind,Za hd,Za cg,Result.andThen];rfl
   simp_all
  simp_all
 ·rename_i s x i ho
  have hx:=hρ x;split at h
  ·rename_i fs hk
   obtain ⟨ti,d,z,hi,hd,hs,ec,aq,hz,cx,_⟩:=(hT.get (t:=s) (by grind)).ex;rw [hk] at aq;obtain ⟨gs,rfl,hf⟩:=aq;split at h
   ·rename_i off t tv
    obtain ⟨f,j,hg,cz,ht,hj,ub⟩:=hf.get tv;have qs:gs[i]?=some f:=by simp_all
    have hfp:∀(b oo:Nat),(fieldPlace ⟨b,oo,none⟩ f).run G.P w=.ok ⟨b,oo+off,none⟩ w:=fun b oo=>by
     exact mq133
    split at h
    ·rename_i b oo bm;rw [bm] at hx
     generalize hv:ρ' x=v at hx
     cases hx with
     | ptr b oo hb =>
     refine ⟨_,_,h,.ptr b (oo+off) hb,?_⟩;simp [ho,hv,Instr.fieldAt,Za hd,qs,Instr.sureAddr,hfp]
    ·rename_i r oo bm;rw [bm] at hx
     generalize hv:ρ' x=v at hx
     cases hx with
     | elem r oo b o2 u hc ak hu =>
     refine ⟨_,_,h,.elem r (oo+off) b o2 u hc ak hu,?_⟩;simp [ho,hv,Instr.fieldAt,Za hd,qs,Instr.sureAddr,hfp,Nat.add_assoc]
    simp_all
   simp_all
  simp_all
 ·rename_i s x i ho
  have hx:=hρ x;split at h
  ·rename_i fs hk
   obtain ⟨ti,d,z,hi,hd,hs,ec,aq,hz,cx,_⟩:=(hT.get (t:=s) (by grind)).ex;rw [hk] at aq;obtain ⟨gs,rfl,hf⟩:=aq;split at h
   ·rename_i off t tv
    obtain ⟨f,j,hg,cz,ht,hj,ub⟩:=hf.get tv;have qs:gs[i]?=some f:=by simp_all
    split at h
    ·rename_i cs bm;rw [bm] at hx
     generalize hv:ρ' x=v at hx
     cases hx with
     | agg cs vs hsz hr h1 =>
     split at h
     ·rename_i lm
      obtain ⟨i2,d2,z2,af,cg,fj,_,bi,_,_,_⟩:=(hT.get (t:=t) (by intro h0;rw [h0] at lm;cases lm)).ex;split at h
      ·rename_i l hl
       obtain ⟨oq,yq⟩:=WJ hl;have hb:∀k,k<l.length->off+k<vs.size/\cs[off+k]?=l[k]?:=fun k hk=>by
        grind
       refine ⟨_,.agg (vs.extract off (off+j.size)),h,.agg l _ ?_ ?_ ?_,?_⟩
       ·have uc:j.size=l.length:=by simp_all
        exact mq138
       ·grind
       ·intro u hu
        obtain ⟨k,hk,rfl⟩:=SB hu
        simp_all
       have nc:=Uv bi cg w;rw [lm] at nc;subst ht;simp [ho,hv,Instr.field,Za hd,qs,asAgg,part,nc,Zt hj,cz]
      simp_all
     rename_i lm
     split at h
     ·grind
     rename_i cu
     obtain ⟨i2,d2,z2,af,cg,fj,_,bi,_,_,_⟩:=(hT.get (t:=t) (fun h0=>cu h0)).ex;split at h
     ·rename_i y hy
      have aa:off<vs.size:=by grind
      have se:vs[off]?=some vs[off]:=TL aa;have nc:=Uv bi cg w;rw [lm] at nc;subst ht;exact ⟨_,vs[off],h,hr off y _ hy se,by simp [ho,hv,Instr.field,Za hd,qs,asAgg,part,nc,cz,se]⟩
     simp_all
    simp_all
   simp_all
  simp_all
 ·rename_i t x i ho
  have hx:=hρ x;have hi:=hρ i;split at h
  ·rename_i k n bm;rw [bm] at hi
   have ud:=hi.dint;split at h
   ·rename_i hk
    obtain ⟨ti,d,z,oc,hd,hs,ec,aq,hz,cx,_⟩:=(hT.get (t:=t) (by grind)).ex;rw [hk] at aq;cases aq;split at h
    ·rename_i s ue;rw [ue] at hx
     have hxv:=hx.dstr;obtain ⟨h0,h1,hK⟩:=h;have aa:n.toNat<s.length:=oM;have hb:(⟨s.toArray⟩:ByteArray)[n.toNat]?=some (s[n.toNat]):=by
      rw [getElem?_pos (h:=(by assumption))];rfl
     refine ⟨_,_,hK,.mkint,?_⟩;simp [ho,hxv,ud,Instr.index,Xw,Za hd,h0,hb,List.getD,Ta aa]
    simp_all
   ·rename_i m el hk
    obtain ⟨ti,d,z,oc,hd,hs,ec,aq,hz,cx,_⟩:=(hT.get (t:=t) (by grind)).ex;rw [hk] at aq;cases aq;split at h
    ·rename_i cs ue;rw [ue] at hx
     generalize hv:ρ' x=v at hx
     cases hx with
     | agg cs vs hsz hr h1 =>
     split at h
     ·rename_i lm
      obtain ⟨i2,d2,z2,af,cg,fj,_,bi,_,_,_⟩:=(hT.get (t:=el) (by intro h0;rw [h0] at lm;cases lm)).ex;split at h
      ·rename_i l hl
       obtain ⟨g0,g1,h⟩:=h;obtain ⟨oq,yq⟩:=WJ hl;obtain ⟨off,km⟩:∃off,off=n.toNat * (T.get el).size:=⟨_,rfl⟩
       rw [<- km] at yq;have hb:∀k,k<l.length->off+k<vs.size/\cs[off+k]?=l[k]?:=fun k hk=>by
        grind
       refine ⟨_,.agg (vs.extract off (off+i2.size)),h,.agg l _ ?_ ?_ ?_,?_⟩
       ·have uc:i2.size=l.length:=by omega
        exact mq138
       ·grind
       ·intro u hu
        obtain ⟨k,hk,rfl⟩:=SB hu
        simp_all
       have nc:=Uv bi cg w;rw [lm] at nc;simp [ho,hv,ud,Instr.index,Xw,Za hd,g0,g1,part,nc,Zt af,km,fj]
      simp_all
     rename_i lm
     split at h
     ·grind
     rename_i cu
     obtain ⟨i2,d2,z2,af,cg,fj,_,bi,_,_,_⟩:=(hT.get (t:=el) (fun h0=>cu h0)).ex;split at h
     ·rename_i lx
      have lw:=Tu lx;split at h
      ·rename_i y hy
       obtain ⟨h0,hm,hK⟩:=h;have aa:n.toNat<vs.size:=by grind
       have se:vs[n.toNat]?=some vs[n.toNat]:=TL aa;have nc:=Uv bi cg w;rw [lm] at nc;have hi1:i2.size=1:=oM;exact ⟨_,vs[n.toNat],hK,hr n.toNat y _ hy se,by simp [ho,hv,ud,Instr.index,Xw,Za hd,h0,hm,part,nc,Zt af,hi1,se]⟩
      simp_all
     simp_all
    simp_all
   simp_all
  simp_all
 ·rename_i t x i ho
  have hx:=hρ x;have hi:=hρ i;split at h
  ·rename_i k n bm;rw [bm] at hi
   have ud:=hi.dint;split at h
   ·rename_i el hk
    obtain ⟨ti,d,z,oc,hd,hs,ec,aq,hz,cx,_⟩:=(hT.get (t:=t) (by grind)).ex;rw [hk] at aq;cases aq;split at h
    ·grind
    rename_i cu
    obtain ⟨i2,d2,z2,af,cg,fj,_,bi,_,_,_⟩:=(hT.get (t:=el) (fun h0=>cu h0)).ex;split at h
    ·rename_i b off m ox
     obtain ⟨h0,qi,hK⟩:=h;rw [ox] at hx;generalize hv:ρ' x=vx at hx
     cases hx with
     | asl _ _ _ hb =>
     refine ⟨_,_,hK,.ptr b (off+n.toNat * (T.get el).size) hb,?_⟩;simp [ho,hv,ud,Instr.indexAt,Xw,Za hd,h0,qi,Zt af,Yb,fj]
    split at h
    ·rename_i rows bu
     obtain ⟨r,h0,hr,hK⟩:=h;split at hK
     ·rename_i hlen
      have hl:=Tu hlen;obtain ⟨b,off,cap,u,hv,hn,hc,ak,hu⟩:=ZGK (X0 bu hx) hr;refine ⟨_,_,hK,.elem r 0 b (off+n.toNat * r.length) u hc ak hu,?_⟩;have qi:n<(rows.length:Int):=oM;simp [ho,hv,ud,Instr.indexAt,Xw,Za hd,h0,qi,Zt af,Yb,fj,hl]
     simp_all
    simp_all
   ·rename_i m el hk
    obtain ⟨ti,d,z,oc,hd,hs,ec,aq,hz,cx,_⟩:=(hT.get (t:=t) (by grind)).ex;rw [hk] at aq;cases aq;split at h
    ·grind
    rename_i cu
    obtain ⟨i2,d2,z2,af,cg,fj,_,bi,_,_,_⟩:=(hT.get (t:=el) (fun h0=>cu h0)).ex;split at h
    ·rename_i b off ox
     obtain ⟨h0,qi,hK⟩:=h;rw [ox] at hx;generalize hv:ρ' x=vx at hx
     cases hx with
     | ptr _ _ hb =>
     refine ⟨_,_,hK,.ptr b (off+n.toNat * (T.get el).size) hb,?_⟩;simp [ho,hv,ud,Instr.indexAt,Instr.sureAddr,Xw,Za hd,h0,qi,Zt af,Yb,fj]
    simp_all
   simp_all
  simp_all
 ·rename_i t x lo hi ho
  obtain ⟨pv,u,hK,hr,aj⟩:=ZjX hT (hρ x) hρ h;exact ⟨pv,u,hK,hr,by simp_all⟩
 ·rename_i x i ho
  have hx:=hρ x;split at h
  ·rename_i cs bm;rw [bm] at hx
   generalize hv:ρ' x=v at hx
   cases hx with
   | tuple cs vs hsz hr =>
   split at h
   ·rename_i y hy
    have aa:i<vs.size:=by grind
    have se:vs[i]?=some vs[i]:=TL aa;exact ⟨_,vs[i],h,hr i y _ hy se,by simp [ho,hv,Instr.extract,se]⟩
   simp_all
  simp_all
 ·rename_i g a c ho
  refine ⟨_,_,h,.func g _ _ (a.map ρ') (c.map ρ') sM sM ?_ ?_,by simp [ho,Instr.makeFunc]⟩
  ·intro i x u hx hu
   rw [Th] at hx;rw [Array.getElem?_map] at hu
   cases hq:a[i]? with
   | none=>rw [hq] at hu;cases hu
   | some q =>
   rw [hq] at hu;rw [TG,hq] at hx
   cases hx;cases hu;exact hρ q
  intro i x u hx hu
  rw [Th] at hx;rw [Array.getElem?_map] at hu
  cases hq:c[i]? with
  | none=>rw [hq] at hu;cases hu
  | some q =>
  rw [hq] at hu;rw [TG,hq] at hx
  cases hx;cases hu;exact hρ q
 ·rename_i t x ho
  split at h
  ·exact h.elim
  ·exact h.elim
  rename_i lq cu
  obtain ⟨ti,d,z,oc,hd,hs,ec,aq,hz,cx,_⟩:=(hT.get (t:=t) (fun h0=>cu h0)).ex;refine ⟨_,_,h,.iface t _ _ (hρ x),?_⟩;have:∀ms,d≠.interface ms:=fun ms h0=>by
   subst h0
   cases hk:(T.get t).kind <;> rw [hk] at aq <;> first | (cases aq.1;done) | (cases aq;done) | (exact lq hk) | (obtain ⟨_,h1,_⟩:=aq;simp_all) | (obtain ⟨_,_,_,h1⟩:=aq;cases h1;done)
  simp only [ho,Instr.makeInterface,Sem.run_bind,Za hd,Result.andThen]
  cases d <;> first | rfl | exact absurd rfl (this _)
 ·rename_i x xt t ho
  split at h
  ·exact h.elim
  ·exact h.elim
  rename_i lq cu
  obtain ⟨ti,d,z,oc,hd,hs,ec,aq,hz,cx,_⟩:=(hT.get (t:=t) (fun h0=>cu h0)).ex;have this:∀ms,d≠.interface ms:=fun ms h0=>by
   subst h0
   cases hk:(T.get t).kind <;> rw [hk] at aq <;> first | (cases aq.1;done) | (cases aq;done) | (exact lq hk) | (obtain ⟨_,h1,_⟩:=aq;simp_all) | (obtain ⟨_,_,_,h1⟩:=aq;simp_all)
  have hx:=hρ x;split at h
  ·rename_i t' pv bm
   split at h
   ·rename_i hb
    cases Tu hb
    rw [bm] at hx;generalize hv:ρ' x=vv at hx
    cases hx with
    | iface _ _ u hu =>
    refine ⟨_,.tuple #[u,.bool true],h,.tuple _ _ rfl (fun i p q hp hq=>?_),?_⟩
    ·match i with
     | 0=>simp_all
     | 1=>cases hp;cases hq;exact .mkbool
     | n+2=>simp at hp
    simp only [ho,hv,Instr.typeAssert,Sem.run_bind,Za hd,Result.andThen];rfl
   simp_all
  simp_all
 ·rename_i b args argTypes ho
  have ab:∀vs,args.toList.map ρ=vs->∃us:List Value,(args.map ρ').toList=us/\us.length=vs.length/\∀(i:Nat) (x:PV) (u:Value),vs[i]?=some x->us[i]?=some u->VRel G e σ w x u:=fun vs bh=>by
   grind
  split at h
  ·rename_i t ts v hts bh
   obtain ⟨us,ug,hlen,hr⟩:=ab _ bh;have ly:argTypes[0]?=some t:=by rw [<- TG,hts];rfl
   cases us with
   | nil=>cases hlen
   | cons u us2 =>
   cases us2 with
   | cons _ _=>grind
   | nil =>
   have hu:=hr 0 v u rfl rfl;have qo:(args.map ρ')[0]?=some u:=by rw [<- TG,ug];rfl
   split at h
   ·rename_i hk
    obtain ⟨ti,d,z,oc,hd,hs,ec,aq,hz,cx,_⟩:=(hT.get (t:=t) (by grind)).ex;rw [hk] at aq;cases aq;split at h
    ·rename_i s
     have ug:=hu.dstr;subst ug;exact mq45
    simp_all
   ·rename_i el hk
    obtain ⟨ti,d,z,oc,hd,hs,ec,aq,hz,cx,_⟩:=(hT.get (t:=t) (by grind)).ex;rw [hk] at aq;cases aq;split at h
    ·rename_i b off m
     cases hu with
     | asl _ _ _ hb =>
     exact mq45
    split at h
    ·rename_i rows bu
     obtain ⟨a,cap,hv,_⟩:=(X0 bu hu).sl_inv;subst hv;exact mq45
    simp_all
   ·rename_i kt el hk
    obtain ⟨ti,d,z,oc,hd,hs,ec,aq,hz,cx,_⟩:=(hT.get (t:=t) (by grind)).ex;rw [hk] at aq;obtain ⟨rfl,_⟩:=aq
    cases hu with
    | nilm =>
     exact mq45
    | mp b hb =>
     simp only at h;split at h
     ·rename_i cs bn ck d8
      obtain ⟨es,g1,g2,_⟩:=(hS.box _ _ d8).mrel;have hl:cs.length / 2=es.size:=by rw [g2.to.1];simp
      exact mq98
     ·rename_i l d8
      obtain ⟨bn,ck,_,hB⟩:=(hS.box _ _ d8).of_dmap;obtain ⟨es,g1,g2,_⟩:=hB.mrel;have hl:l.length=es.size:=by have q:=g2.to.1;rw [J3] at q;grind
      exact mq98
     simp_all
    | _=>grind
   simp_all
  ·rename_i k a k' b bh
   obtain ⟨us,ug,hlen,hr⟩:=ab _ bh;split at h
   ·rename_i kb
    cases ZcW kb
    match us,hlen with
    | [u1,u2],_ =>
     have h1:=(hr 0 _ u1 rfl rfl).dint;have h2:=(hr 1 _ u2 rfl rfl).dint;subst h1;subst h2;refine ⟨_,_,h,.mkint,?_⟩;simp only [ho,resolve,invoke,builtin,Sem.run_bind,Sem.run_pure,Result.andThen,Builtin.min_,ug];have:min a b=(if b<a then b else a):=oM;rw [this];rfl
   simp_all
  ·rename_i k a k' b bh
   obtain ⟨us,ug,hlen,hr⟩:=ab _ bh;split at h
   ·rename_i kb
    cases ZcW kb
    match us,hlen with
    | [u1,u2],_ =>
     have h1:=(hr 0 _ u1 rfl rfl).dint;have h2:=(hr 1 _ u2 rfl rfl).dint;subst h1;subst h2;refine ⟨_,_,h,.mkint,?_⟩;simp only [ho,resolve,invoke,builtin,Sem.run_bind,Sem.run_pure,Result.andThen,Builtin.max_,ug];have:max a b=(if b>a then b else a):=oM;rw [this];rfl
   simp_all
  simp_all
 simp_all
end
end Go.PM
end
