/- A part of the proof: plain logic, contracts and laws over the given program. -/
import Derived.Laws.AppendOwn
import Derived.Below
import Derived.Laws.StructEq
import Derived.Laws.Pointers
import Derived.Laws.Cover3
import Derived.Laws.Cells
import Derived.Laws.Slices
import Derived.Laws.Strings
import GoSem.Dispatch
import Derived.Laws.BytesString
import Derived.Test.YtlelokbefhefcaaGreatDoorB00
set_option linter.unusedVariables false
set_option linter.unusedSimpArgs false
set_option linter.all false
set_option maxRecDepth 100000
set_option maxHeartbeats 16000000
section
namespace Go.PM
open Go.RowKit
inductive DRel (ok:Nat->Nat->Prop) (w:World):D->Value->Prop
 | bool (b:Bool):DRel ok w (.bool b) (.bool b)
 | int (k:IntKind) (n:Int):DRel ok w (.int k n) (.int k n)
 | str (s:List UInt8):DRel ok w (.str s) (.string ⟨s.toArray⟩)
 | nilp:DRel ok w .nilp (.pointer none)
 | nilf:DRel ok w .nilf .nilFunc
 | nili:DRel ok w .nili .nilIface
 | slnil:DRel ok w (.sl []) (.slice none 0 0)
 | slz (a:Addr):DRel ok w (.sl []) (.slice (some a) 0 0)
 | sl (rows:List (List D)) (b off cap sz:Nat) (u:Nat->Nat->Value) (hcap:rows.length<=cap) (hsz:∀r∈rows,r.length=sz)
   (hc:∀i j,i<rows.length->j<sz->w.cell? ⟨b,off+i * sz+j,none⟩=some (u i j))
   (ho:∀i j,i<rows.length->j<sz->ok b (off+i * sz+j))
   (hu:∀(i j:Nat) (x:D),(rows[i]?.bind (·[j]?))=some x->DRel ok w x (u i j)):DRel ok w (.sl rows) (.slice (some ⟨b,off,none⟩) rows.length cap)
structure GE where
 P:Program
 w0:World
 nG:Nat
structure Env where
 β:Nat->Nat
 M:Nat->Option (Nat×Nat)
 X:Nat->Nat->Prop
 H:Nat->Option ((Nat×List UInt8)×Nat)
def okc (e:Env) (σ:St) (b off:Nat):Prop :=
 ¬e.X b off/\(∀i,i<σ.bx.length->e.β i≠b)/\(∀t,t∈σ.tk->∀p,e.M t=some p->p.1=b->off<p.2)/\∀q,e.H b=some q->off<q.2
def OwnedAt (G:GE) (w:World) (el:Nat) (rows:List (List D)) (v:Value) (p:Option (Nat×Nat)):Prop :=
 (v=.slice none 0 0/\rows=[]/\p=none) \/
 ∃ sz, (G.P.info? el).map (·.size) = some sz /\ 0 < sz /\ (∀ r ∈ rows, r.length = sz) /\
    ∃b off cap cs ty fz,v=.slice (some ⟨b,off,none⟩) rows.length cap/\G.nG<=b/\rows.length<=cap/\w.heap[b]?=some (.cells cs ty fz)/\(off+cap * sz<=cs.size/\off=0/\ty=el/\0<cap) /\
     (fz.1<=fz.2/\∀o,off+rows.length * sz<=o->fz.1<=o->fz.2<=o)/\p=some (b,off+rows.length * sz)
def Owned (G:GE) (e:Env) (w:World) (t el:Nat) (rows:List (List D)) (v:Value):Prop:=OwnedAt G w el rows v (e.M t)
def HOwned (G:GE) (e:Env) (w:World) (bb:Nat) (k:List UInt8) (el:Nat) (rows:List (List D)) (v:Value):Prop:=∃p,OwnedAt G w el rows v p/\∀q,p=some q->e.H q.1=some ((bb,k),q.2)
inductive VRel (G:GE) (e:Env) (σ:St) (w:World):PV->Value->Prop
 | d (x:D) (v:Value) (h:DRel (okc e σ) w x v):VRel G e σ w (.d x) v
 | undef (v:Value):VRel G e σ w .undef v
 | ptr (b off:Nat) (h:b<σ.bx.length):VRel G e σ w (.ptr b off) (.pointer (some ⟨e.β b,off,none⟩))
 | elem (r:List D) (off b o:Nat) (u:Nat->Value) (hc:∀j,j<r.length->w.cell? ⟨b,o+j,none⟩=some (u j)) (ho:∀j,j<r.length->okc e σ b (o+j))
   (hu:∀(j:Nat) (x:D),r[j]?=some x->DRel (okc e σ) w x (u j)):VRel G e σ w (.elem r off) (.pointer (some ⟨b,o+off,none⟩))
 | sl (t el:Nat) (rows:List (List D)) (v:Value) (hn:t<σ.nx) (hd:DRel (okc e σ) w (.sl rows) v) (ht:t∈σ.tk->Owned G e w t el rows v):VRel G e σ w (.sl t el rows) v
 | nils (el:Nat):VRel G e σ w (.nils el) (.slice none 0 0)
 | asl (b off n:Nat) (h:b<σ.bx.length):VRel G e σ w (.asl b off n) (.slice (some ⟨e.β b,off,none⟩) n n)
 | func (f:FuncId) (a c:List PV) (va vc:Array Value) (ha:va.size=a.length) (hc:vc.size=c.length) (h1:∀(i:Nat) (x:PV) (u:Value),a[i]?=some x->va[i]?=some u->VRel G e σ w x u)
   (h2:∀(i:Nat) (x:PV) (u:Value),c[i]?=some x->vc[i]?=some u->VRel G e σ w x u):VRel G e σ w (.func f a c) (.func (.func f) va vc)
 | iface (t:TypeId) (x:PV) (v:Value) (h:VRel G e σ w x v):VRel G e σ w (.iface t x) (.iface t v)
 | agg (cs:List PV) (vs:Array Value) (hs:vs.size=cs.length) (h:∀(i:Nat) (x:PV) (u:Value),cs[i]?=some x->vs[i]?=some u->VRel G e σ w x u) (h1:∀u∈vs,u.oneCell'=true):VRel G e σ w (.agg cs) (.agg vs)
 | tuple (cs:List PV) (vs:Array Value) (hs:vs.size=cs.length) (h:∀(i:Nat) (x:PV) (u:Value),cs[i]?=some x->vs[i]?=some u->VRel G e σ w x u):VRel G e σ w (.tuple cs) (.tuple vs)
 | raw (v:Value):VRel G e σ w (.raw v) v
 | mp (b:Nat) (h:b<σ.bx.length):VRel G e σ w (.mp b) (.map (some (e.β b)))
 | nilm:VRel G e σ w .nilm (.map none)
def DRel.mono {ok ok':Nat->Nat->Prop} {w w':World} {x:D} {v:Value} (h:DRel ok w x v)
  (hp:∀b off u,w.cell? ⟨b,off,none⟩=some u->ok b off->ok' b off/\w'.cell? ⟨b,off,none⟩=some u):DRel ok' w' x v:=by
 induction h with
 | bool b=>exact .bool b
 | int k n=>exact .int k n
 | str s=>exact .str s
 | nilp=>exact .nilp
 | nilf=>exact .nilf
 | nili=>exact .nili
 | slnil=>exact .slnil
 | slz a=>exact .slz a
 | sl rows b off cap sz u hcap hsz hc ho _ ih =>
 exact .sl rows b off cap sz u hcap hsz (fun i j hi hj=>(hp _ _ _ (hc i j hi hj) (ho i j hi hj)).2) (fun i j hi hj=>(hp _ _ _ (hc i j hi hj) (ho i j hi hj)).1)
  (fun i j x hx=>ih i j x hx)
structure Later (e:Env) (σ:St) (w:World) (e':Env) (σ':St) (w':World):Prop where
 len:σ.bx.length<=σ'.bx.length
 beta:∀i,i<σ.bx.length->e'.β i=e.β i
 X:∀b off,e.X b off->e'.X b off
 pres:∀b off u,w.cell? ⟨b,off,none⟩=some u->okc e σ b off->okc e' σ' b off/\w'.cell? ⟨b,off,none⟩=some u
 blocks:∀b,b<w.heap.size->(∀i,i<σ.bx.length->e.β i≠b)->(∀t,t∈σ.tk->∀p,e.M t=some p->p.1≠b)->e.H b=none->w'.heap[b]?=w.heap[b]?
 size:w.heap.size<=w'.heap.size
 os:w'.os=w.os
 tape:w'.tape=w.tape
 output:w'.output=w.output
 fresh:∀i,σ.bx.length<=i->i<σ'.bx.length->w.heap.size<=e'.β i
 ftok:∀t,t∈σ'.tk->∀p,e'.M t=some p->w.heap.size<=p.1\/(∃t0,t0∈σ.tk/\∃p0,e.M t0=some p0/\p0.1=p.1)\/e.H p.1≠none
 fhid:∀b,e'.H b≠none->w.heap.size<=b\/(∃t0,t0∈σ.tk/\∃p0,e.M t0=some p0/\p0.1=b)\/e.H b≠none
structure Stepped (e:Env) (σ:St) (w:World) (e':Env) (σ':St) (w':World):Prop extends Later e σ w e' σ' w' where
 nx:σ.nx<=σ'.nx
 toks:∀t,t<σ.nx->t∈σ'.tk->t∈σ.tk/\e'.M t=e.M t
 own:∀t,t<σ.nx->t∈σ'.tk->∀p,e.M t=some p->p.1<w.heap.size->w'.heap[p.1]?=w.heap[p.1]?
def Vr {w:World} {b off:Nat} {u:Value} (h:w.cell? ⟨b,off,none⟩=some u):b<w.heap.size:=World.block_lt_of_cell? w ⟨b,off,none⟩ h
def DRel.later {e:Env} {σ:St} {w:World} {e':Env} {σ':St} {w':World} {x:D} {v:Value} (h:DRel (okc e σ) w x v) (hl:Later e σ w e' σ' w'):DRel (okc e' σ') w' x v :=
 h.mono fun b off u hc ho=>hl.pres b off u hc ho
def Later.refl (e:Env) (σ:St) (w:World):Later e σ w e σ w:=⟨Tr _,fun _ _=>rfl,fun _ _ h=>h,fun _ _ _ hc h=>⟨h,hc⟩,fun _ _ _ _ _=>rfl,Tr _,rfl,rfl,rfl,fun i h1 h2=>oM,fun t ht p hp=>.inr (.inl ⟨t,ht,p,hp,rfl⟩),fun b h=>.inr (.inr h)⟩
theorem Later.trans {e0 e1 e2:Env} {σ0 σ1 σ2:St} {w0 w1 w2:World} (h:Later e0 σ0 w0 e1 σ1 w1) (k:Later e1 σ1 w1 e2 σ2 w2):Later e0 σ0 w0 e2 σ2 w2 where
 len:=TN h.len k.len
 beta:=fun i hi=>(k.beta i (TA hi h.len)).trans (h.beta i hi)
 X:=fun b off h0=>k.X b off (h.X b off h0)
 pres:=fun b off u hu ho=>let ⟨h1,h2⟩:=h.pres b off u hu ho;k.pres b off u h2 h1
 blocks:=fun b hb hn ht hH=>(k.blocks b (TA hb h.size) (fun i hi=>by
   by_cases hi0:i<σ0.bx.length
   ·rw [h.beta i hi0];simp_all
   ·have:=h.fresh i oM hi;omega) (fun t wo p hp=>by
   rcases h.ftok t wo p hp with h1 | ⟨t0,pg,p0,uw,h1⟩ | h1
   ·omega
   ·grind
   grind) (by
   cases hq:e1.H b with
   | none=>rfl
   | some q =>
   rcases h.fhid b (by grind) with h1 | ⟨t0,pg,p0,uw,h1⟩ | h1
   ·omega
   ·grind
   simp_all)).trans (h.blocks b hb hn ht hH)
 size:=TN h.size k.size
 os:=k.os.trans h.os
 tape:=k.tape.trans h.tape
 output:=k.output.trans h.output
 fresh:=fun i h1 h2=>by
  by_cases hi:i<σ1.bx.length
  ·rw [k.beta i hi];exact h.fresh i h1 hi
  exact TN h.size (k.fresh i oM h2)
 ftok:=fun t ht p hp=>by
  rcases k.ftok t ht p hp with h1 | ⟨t1,ib,p1,wp,h1⟩ | h1
  ·exact .inl (TN h.size h1)
  ·rcases h.ftok t1 ib p1 wp with h2 | ⟨t0,pg,p0,uw,h2⟩ | h2
   ·omega
   ·grind
   simp_all
  exact h.fhid _ h1
 fhid:=fun b hb=>by
  rcases k.fhid b hb with h1 | ⟨t1,ib,p1,wp,h1⟩ | h1
  ·exact .inl (TN h.size h1)
  ·rcases h.ftok t1 ib p1 wp with h2 | ⟨t0,pg,p0,uw,h2⟩ | h2
   ·omega
   ·grind
   simp_all
  exact h.fhid _ h1
def Stepped.refl (e:Env) (σ:St) (w:World):Stepped e σ w e σ w:={ Later.refl e σ w with nx:=Tr _,toks:=fun _ _ h=>⟨h,rfl⟩,own:=fun _ _ _ _ _ _=>rfl }
def Owned.step {G:GE} {e:Env} {σ:St} {w:World} {e':Env} {σ':St} {w':World} {t el:Nat} {rows:List (List D)} {v:Value} (h:Owned G e w t el rows v)
  (hs:Stepped e σ w e' σ' w') (hn:t<σ.nx) (ht:t∈σ'.tk):Owned G e' w' t el rows v:=by
 rcases h with ⟨rfl,hr,hm⟩ | ⟨sz,h1,h2,h3,b,off,cap,cs,ty,fz,rfl,hb,hc,hh,hsz,lb,hm⟩
 ·exact .inl ⟨rfl,hr,(hs.toks t hn ht).2.trans hm⟩
 exact .inr ⟨sz,h1,h2,h3,b,off,cap,cs,ty,fz,rfl,hb,hc,(hs.own t hn ht _ hm (Tw.1 hh).1).trans hh,hsz,lb,(hs.toks t hn ht).2.trans hm⟩
def VRel.step {G:GE} {e:Env} {σ:St} {w:World} {e':Env} {σ':St} {w':World} {x:PV} {v:Value} (h:VRel G e σ w x v) (hs:Stepped e σ w e' σ' w'):VRel G e' σ' w' x v:=by
 induction h with
 | d x v h=>exact .d x v (h.later hs.toLater)
 | undef v=>exact .undef v
 | ptr b off h=>rw [<- hs.beta b h];exact .ptr b off (TA h hs.len)
 | elem r off b o u hc ho hu =>
  exact .elem r off b o u (fun j hj=>(hs.pres b _ _ (hc j hj) (ho j hj)).2) (fun j hj=>(hs.pres b _ _ (hc j hj) (ho j hj)).1)
   (fun j x hx=>(hu j x hx).later hs.toLater)
 | sl t el rows v hn hd ht=>exact .sl t el rows v (TA hn hs.nx) (hd.later hs.toLater) fun h=>(ht (hs.toks t hn h).1).step hs hn h
 | nils el=>exact .nils el
 | asl b off n h=>rw [<- hs.beta b h];exact .asl b off n (TA h hs.len)
 | func f a c va vc ha hc _ _ ih1 ih2=>exact .func f a c va vc ha hc ih1 ih2
 | iface t x v _ ih=>exact .iface t x v ih
 | agg cs vs o9 _ h1 ih=>exact .agg cs vs o9 ih h1
 | tuple cs vs o9 _ ih=>exact .tuple cs vs o9 ih
 | raw v=>exact .raw v
 | mp b h=>rw [<- hs.beta b h];exact .mp b (TA h hs.len)
 | nilm=>exact .nilm
def StB (bn:List Nat) (ck:Nat):Prop:=bn.Nodup/\∀x∈bn,x<ck
def BRel (G:GE) (e:Env) (σ:St) (w:World):Box->Nat->Prop
 | .cells t cs,b=>∃vs:Array Value,w.heap[b]?=some (.cells vs t (0,0))/\vs.size=cs.length/\∀(i:Nat) (x:PV) (u:Value),cs[i]?=some x->vs[i]?=some u->VRel G e σ w x u/\u.oneCell'=true
 | .iter s pos,b=>w.heap[b]?=some (.stringIter ⟨s.toArray⟩ pos)
 | .loop st pd r,b=>w.heap[b]?=some (.loop { r with state:=st,pending:=pd })
 | .dmap m,b=>∃(bn:List Nat) (ck:Nat),StB bn ck/\∃es:Array MapEntry,w.heap[b]?=some (.map es ck)/\es.size=bn.length/\(J6 m).length=2 * bn.length /\
   ∀(i:Nat) (u:MapEntry),es[i]?=some u->bn[i]?=some u.born/\∃k x,(J6 m)[2 * i]?=some (.d (.str k))/\(J6 m)[2 * i+1]?=some x/\u.key=.string ⟨k.toArray⟩/\VRel G e σ w x u.val
 | .smap el m fo,b=>∃es:Array MapEntry,(∃(bn:List Nat) (ck:Nat),w.heap[b]?=some (.map es ck)/\es.size=bn.length/\(V6 m fo).length=2 * bn.length /\
   ∀(i:Nat) (u:MapEntry),es[i]?=some u->bn[i]?=some u.born/\∃k x,(V6 m fo)[2 * i]?=some (.d (.str k))/\(V6 m fo)[2 * i+1]?=some x/\u.key=.string ⟨k.toArray⟩/\VRel G e σ w x u.val) /\
   (∀(i:Nat) (u:MapEntry) (x:List UInt8×List (List D)),es[i]?=some u->m[i]?=some x->(∀kv,fo=some kv->x.1≠kv.1)->HOwned G e w b x.1 el x.2 u.val) /\
   (∀kv,fo=some kv->lkM kv.1 m=none->kv.2=.nils el)/\(m.map (·.1)).Nodup
 | .map cs bn ck,b=>∃es:Array MapEntry,w.heap[b]?=some (.map es ck)/\es.size=bn.length/\cs.length=2 * bn.length /\
   ∀(i:Nat) (u:MapEntry),es[i]?=some u->bn[i]?=some u.born/\∃k x,cs[2 * i]?=some (.d (.str k))/\cs[2 * i+1]?=some x/\u.key=.string ⟨k.toArray⟩/\VRel G e σ w x u.val
structure SRel (G:GE) (e:Env) (σ:St) (w:World):Prop where
 inj:∀i j,i<σ.bx.length->j<σ.bx.length->e.β i=e.β j->i=j
 box:∀i x,σ.bx[i]?=some x->BRel G e σ w x (e.β i)
 low:∀i,i<σ.bx.length->G.nG<=e.β i
 tkn:∀t,t∈σ.tk->t<σ.nx
 own:∀t,t∈σ.tk->∀p,e.M t=some p->G.nG<=p.1/\(∀i,i<σ.bx.length->e.β i≠p.1)/\∃cs ty fz,w.heap[p.1]?=some (.cells cs ty fz)
 dis:∀t t',t∈σ.tk->t'∈σ.tk->t≠t'->∀p p',e.M t=some p->e.M t'=some p'->p.1≠p'.1
 xlt:∀b off,e.X b off->b<w.heap.size
 xown:∀t,t∈σ.tk->∀p,e.M t=some p->∀off,p.2<=off->¬e.X p.1 off
 hid:∀b q,e.H b=some q->G.nG<=b/\b<w.heap.size/\(∀i,i<σ.bx.length->e.β i≠b)/\(∀t,t∈σ.tk->∀p,e.M t=some p->p.1≠b)/\∀off,q.2<=off->¬e.X b off
 glob:∀b,b<G.nG->w.heap[b]?=G.w0.heap[b]?
 big:G.nG<=w.heap.size
theorem SRel.lt {G:GE} {e:Env} {σ:St} {w:World} (h:SRel G e σ w) {i:Nat} (hi:i<σ.bx.length):e.β i<w.heap.size:=by
 have:=h.box i _ (Tb hi);generalize σ.bx[i]=x at this
 cases x with
 | cells t cs=>obtain ⟨vs,hv,_⟩:=this;grind
 | iter s p=>exact (Tw.1 this).1
 | loop st pd r=>exact (Tw.1 this).1
 | map cs bn ck=>obtain ⟨es,hv,_⟩:=this;grind
 | dmap m=>obtain ⟨bn,ck,_,es,hv,_⟩:=this;grind
 | smap el m fo=>obtain ⟨es,⟨bn,ck,hv,_⟩,_⟩:=this;grind
def BRel.of_dmap {G:GE} {e:Env} {σ:St} {w:World} {m:List (List UInt8×MV)} {b:Nat} (h:BRel G e σ w (.dmap m) b):∃bn ck,StB bn ck/\BRel G e σ w (.map (J6 m) bn ck) b:=h
def BRel.to_dmap {G:GE} {e:Env} {σ:St} {w:World} {m:List (List UInt8×MV)} {b:Nat} {bn:List Nat} {ck:Nat} (h:BRel G e σ w (.map (J6 m) bn ck) b) (hb:StB bn ck):BRel G e σ w (.dmap m) b:=⟨bn,ck,hb,h⟩
def HKeep (e:Env) (w:World) (e':Env) (w':World) (bb:Nat):Prop:=∀b q,e.H b=some q->q.1.1=bb->e'.H b=some q/\w'.heap[b]?=w.heap[b]?
def HKeep.rfl' {e:Env} {w:World} {bb:Nat}:HKeep e w e w bb:=fun _ _ h _=>⟨h,rfl⟩
def OwnedAt.keep {G:GE} {w w':World} {el:Nat} {rows:List (List D)} {v:Value} {p:Option (Nat×Nat)} (h:OwnedAt G w el rows v p) (hk:∀q,p=some q->w'.heap[q.1]?=w.heap[q.1]?):OwnedAt G w' el rows v p:=by
 rcases h with h | ⟨sz,h1,h2,h3,b,off,cap,cs,ty,fz,h4,h5,h6,h7,h8,h9,ux⟩
 ·exact .inl h
 exact .inr ⟨sz,h1,h2,h3,b,off,cap,cs,ty,fz,h4,h5,h6,(hk _ ux).trans h7,h8,h9,ux⟩
def HOwned.keep {G:GE} {e e':Env} {w w':World} {bb el:Nat} {k:List UInt8} {rows:List (List D)} {v:Value} (h:HOwned G e w bb k el rows v) (hk:HKeep e w e' w' bb):HOwned G e' w' bb k el rows v:=by
 obtain ⟨p,h1,h2⟩:=h;exact ⟨p,h1.keep fun q hq=>(hk _ _ (h2 q hq) rfl).2,fun q hq=>(hk _ _ (h2 q hq) rfl).1⟩
theorem Zsq {g:PV->PV} (hg:∀d,g (.d d)=.d d) (k:List UInt8) (rows:List (List D)):∀fo:Option (List UInt8×PV),Zh3 k rows (fo.map fun kv=>(kv.1,g kv.2))=g (Zh3 k rows fo)
 | none=>(hg _).symm
 | some (k',v)=>by
  simp only [TY,Zh3]
  grind
def Zcu {g:PV->PV} (hg:∀d,g (.d d)=.d d) (fo:Option (List UInt8×PV)):∀m:List (List UInt8×List (List D)),V6 m (fo.map fun kv=>(kv.1,g kv.2))=(V6 m fo).map g
 | []=>rfl
 | (k,rows)::m=>by simp only [V6,Tz,Zsq hg,Zcu hg fo m,hg]
theorem Zvg {x:PV}:∀{m:List (List UInt8×List (List D))} {i:Nat},(V6 m none)[i]?=some x->∃d,x=.d d
 | (k,v)::l,0,h=>by simp [V6] at h;grind
 | (k,v)::l,1,h=>by simp [V6,Zh3] at h;grind
 | (k,v)::l,i+2,h=>Zvg (m:=l) (i:=i) (by assumption)
 | [],i,h=>by trivial
theorem BRel.smapTo {G:GE} {e:Env} {σ:St} {w:World} {e':Env} {σ':St} {w':World} {el:Nat} {m:List (List UInt8×List (List D))} {fo:Option (List UInt8×PV)} {b:Nat} (h:BRel G e σ w (.smap el m fo) b) (hb:w'.heap[b]?=w.heap[b]?)
  (g:PV->PV) (hg:∀d,g (.d d)=.d d) (hn:∀n,g (.nils n)=.nils n) (hv:∀(i:Nat) (x:PV) v,(V6 m fo)[i]?=some x->VRel G e σ w x v->VRel G e' σ' w' (g x) v) (hk:HKeep e w e' w' b):BRel G e' σ' w' (.smap el m (fo.map fun kv=>(kv.1,g kv.2))) b:=by
 obtain ⟨es,⟨bn,ck,h1,h2,h3,h4⟩,h5,h6,h7⟩:=h;refine ⟨es,⟨bn,ck,hb.trans h1,h2,by rw [Zcu hg,Td];exact h3,fun i u hu=>?_⟩,fun i u x hu hx ai=>(h5 i u x hu hx fun kv jy=>ai (kv.1,g kv.2) (by grind)).keep hk,fun kv jy hl=>?_,h7⟩
 ·obtain ⟨g1,k,x,g2,g3,g4,g5⟩:=h4 i u hu;refine ⟨g1,k,g x,?_,?_,g4,hv _ _ _ g3 g5⟩
  ·rw [Zcu hg,Ti,g2,TY,hg]
  rw [Zcu hg,Ti,g3,TY]
 cases fo with
 | none=>cases jy
 | some kv0 =>
 grind
def BRel.smap0 {G:GE} {e:Env} {σ:St} {w:World} {e':Env} {σ':St} {w':World} {el:Nat} {m:List (List UInt8×List (List D))} {b:Nat} (h:BRel G e σ w (.smap el m none) b) (hb:w'.heap[b]?=w.heap[b]?)
  (hD:∀d v,DRel (okc e σ) w d v->DRel (okc e' σ') w' d v) (hk:HKeep e w e' w' b):BRel G e' σ' w' (.smap el m none) b :=
 h.smapTo hb id (fun _=>rfl) (fun _=>rfl) (fun i x v hx hv=>by
  obtain ⟨d,rfl⟩:=Zvg hx
  cases hv with | d _ _ hv=>exact .d _ _ (hD _ _ hv)) hk
theorem BRel.step {G:GE} {e:Env} {σ:St} {w:World} {e':Env} {σ':St} {w':World} {x:Box} {b:Nat} (h:BRel G e σ w x b) (hs:Stepped e σ w e' σ' w') (hb:w'.heap[b]?=w.heap[b]?) (hk:HKeep e w e' w' b):BRel G e' σ' w' x b:=by
 cases x with
 | cells t cs =>
  obtain ⟨vs,h1,h2,h3⟩:=h;exact ⟨vs,hb.trans h1,h2,fun i x u hx hu=>⟨(h3 i x u hx hu).1.step hs,(h3 i x u hx hu).2⟩⟩
 | iter s p=>exact Eq.trans hb h
 | loop st pd r=>exact Eq.trans hb h
 | map cs bn ck =>
  obtain ⟨es,h1,h2,h3,h4⟩:=h;refine ⟨es,hb.trans h1,h2,h3,fun i u hu=>?_⟩;obtain ⟨g1,k,x,g2,g3,g4,g5⟩:=h4 i u hu;exact ⟨g1,k,x,g2,g3,g4,g5.step hs⟩
 | dmap m =>
  obtain ⟨bn,ck,rz,es,h1,h2,h3,h4⟩:=h;refine ⟨bn,ck,rz,es,hb.trans h1,h2,h3,fun i u hu=>?_⟩;obtain ⟨g1,k,x,g2,g3,g4,g5⟩:=h4 i u hu;exact ⟨g1,k,x,g2,g3,g4,g5.step hs⟩
 | smap el m fo =>
 have:=h.smapTo hb id (fun _=>rfl) (fun _=>rfl) (fun _ _ _ _ hv=>hv.step hs) hk
 simp_all
theorem BRel.mapTo {G:GE} {e:Env} {σ:St} {w:World} {e':Env} {σ':St} {w':World} {cs cs':List PV} {bn:List Nat} {ck b b':Nat} (h:BRel G e σ w (.map cs bn ck) b) (hb:w'.heap[b']?=w.heap[b]?) (hl:cs'.length=cs.length)
  (hr:∀(i:Nat) (x y:PV),cs[i]?=some x->cs'[i]?=some y->(∀v,VRel G e σ w x v->VRel G e' σ' w' y v)/\∀d,x=.d d->y=.d d):BRel G e' σ' w' (.map cs' bn ck) b':=by
 obtain ⟨es,h1,h2,h3,h4⟩:=h;refine ⟨es,hb.trans h1,h2,hl.trans h3,fun i u hu=>?_⟩
 grind
theorem Zh9 {x:PV}:∀{m:List (List UInt8×MV)} {i:Nat},(J6 m)[i]?=some x->(∃d,x=.d d)\/∃l:List D,x=.agg (l.map .d)
 | (k,v)::l,0,h=>by simp [J6] at h;grind
 | (k,v)::l,1,h=>by
  simp [J6] at h;subst h
  cases v with
  | one y=>exact .inl ⟨y,rfl⟩
  | agg y=>exact .inr ⟨y,rfl⟩
 | (k,v)::l,i+2,h=>Zh9 (m:=l) (i:=i) (by assumption)
 | [],i,h=>by trivial
def BRel.dmapTo {G:GE} {e:Env} {σ:St} {w:World} {e':Env} {σ':St} {w':World} {m:List (List UInt8×MV)} {b b':Nat} (h:BRel G e σ w (.dmap m) b) (hb:w'.heap[b']?=w.heap[b]?)
  (hD:∀d v,DRel (okc e σ) w d v->DRel (okc e' σ') w' d v):BRel G e' σ' w' (.dmap m) b':=by
 obtain ⟨bn,ck,nh,h⟩:=h.of_dmap;refine (h.mapTo hb rfl fun i x y hx hy=>?_).to_dmap nh;rw [hx] at hy
 cases hy
 refine ⟨fun v hv=>?_,fun d hd=>hd⟩;rcases Zh9 hx with ⟨d,rfl⟩ | ⟨l,rfl⟩
 ·cases hv with | d _ _ hv=>exact .d _ _ (hD _ _ hv)
 cases hv with
 | agg _ vs h1 h2 h3 =>
 refine .agg _ vs h1 (fun j z u hz hu=>?_) h3;have h4:=h2 j z u hz hu;rw [Ti] at hz;obtain ⟨d,_,rfl⟩:=TB.1 hz
 cases h4 with | d _ _ h4=>exact .d _ _ (hD _ _ h4)
def FRel (G:GE) (e:Env) (σ:St) (w:World) (f:Frame) (tmps:Array Value):Prop:=∀i,VRel G e σ w (f i) (tmps.getD i Go.undef)
def FRel.step {G:GE} {e:Env} {σ:St} {w:World} {e':Env} {σ':St} {w':World} {f:Frame} {tmps:Array Value} (h:FRel G e σ w f tmps) (hs:Stepped e σ w e' σ' w'):FRel G e' σ' w' f tmps :=
 fun i=>(h i).step hs
def Yy (f:Frame) (i:Nat) (v:PV):Vn f i v i=v:=by simp [Vn]
theorem Xe (f:Frame) {i j:Nat} (v:PV) (h:i≠j):Vn f i v j=f j:=by
 have:Nat.beq i j=false:=by
  cases h':Nat.beq i j
  ·rfl
  simp_all
 simp [Vn,this]
def Ym (f:Frame) (d:Option Nat) (v:PV):Frame:=match d with | some i=>Vn f i v | none=>f
theorem FRel.put {G:GE} {e:Env} {σ:St} {w:World} {f:Frame} {a:Act} (h:FRel G e σ w f a.tmps) {d:Option Nat} {x:PV} {v:Value} (hv:VRel G e σ w x v) (hd:∀i,d=some i->i<a.tmps.size) :
  FRel G e σ w (Ym f d x) (a.put d v).tmps:=by
 cases d with
 | none=>exact h
 | some i =>
 intro j
 have hi:=hd i rfl;simp only [Act.put,Ym]
 by_cases jc:i=j
 ·subst jc;rw [Yy]
  simp_all
 rw [Xe f x jc];have:=h j
 simp_all
def ZbK (G:GE) (e:Env) (σ:St) (w:World) (v:Value):VRel G e σ w (Zcs v) v:=by
 unfold Zcs
 split
 ·exact .d _ _ (.bool _)
 ·exact .d _ _ (.int _ _)
 ·rename_i s;exact .d _ _ (.str _)
 ·exact .d _ _ .nilp
 ·exact .nils 0
 ·exact .d _ _ .nilf
 ·exact .d _ _ .nili
 ·exact .nilm
 exact .raw _
def ZoD {v:Value} (h:ZER v=true):v.oneCell'=true:=by assumption
def ZjO (G:GE) (e:Env) (σ:St) (w:World) (v:Value):VRel G e σ w (ZjK v) v:=by
 unfold ZjK
 split
 ·rename_i cs
  split
  ·rename_i h
   refine .agg _ cs sM (fun i x u hx hu=>?_) fun u hu=>ZoD (Tm.1 h u (Array.mem_toList_iff.2 hu))
   rw [Ti,TF,hu] at hx
   cases hx
   exact ZbK G e σ w u
  exact .raw _
 exact ZbK G e σ w v
def ZbL {G:GE} {e:Env} {σ:St} {w:World} {f:Frame} {a:Act} (h:FRel G e σ w f a.tmps) (x:Operand):VRel G e σ w (ev f x) (a.eval x):=by
 cases x with
 | tmp t=>exact h t
 | const v=>exact ZjO G e σ w v
 | global g=>exact .undef _
 | func g=>exact .func g [] [] #[] #[] rfl rfl (fun i x u hx=>sM) (fun i x u hx=>sM)
end Go.PM
end

section
namespace Go.PM
def ZoE:D->Value->Bool
 | .bool a,.bool b=>a == b
 | .int k a,.int k' b=>keq k k' && (a == b)
 | .str s,.string t=>s == t.data.toList
 | .nilp,.pointer none=>true
 | .nilf,.nilFunc=>true
 | .nili,.nilIface=>true
 | _,_=>false
def Zsr:PV->Value->Bool
 | .d x,v=>ZoE x v
 | .nils _,.slice none 0 0=>true
 | .nilm,.map none=>true
 | _,_=>false
def ZoF:List PV->List Value->Bool
 | [],[]=>true
 | x::l,v::m=>Zsr x v && ZoF l m
 | _,_=>false
def Zgy (P:Program):List (Nat×Nat)->List Field->Bool
 | [],[]=>true
 | (o,t)::l,f::m=>Nat.beq o f.offset && Nat.beq t f.type && (match P.info? t with | some i=>Nat.ble 1 i.size | none=>false) && Zgy P l m
 | _,_=>false
def Zv1 (P:Program):TK->TypeDesc->Bool
 | .int k,.int k'=>keq k k'
 | .bool,.bool=>true
 | .string,.string=>true
 | .ptr e,.pointer e'=>Nat.beq e e'
 | .slice e,.slice e'=>Nat.beq e e'
 | .array n e,.array n' e'=>Nat.beq n n' && Nat.beq e e'
 | .struct fs,.struct gs=>Zgy P fs gs.toList
 | .func,.func _ _ _=>true
 | .iface,.interface _=>true
 | .map k e,.map k' e'=>(Nat.beq k k' && Nat.beq e e') && (match P.underlying k with | some .string=>true | _=>false)
 | _,_=>false
def eqB (P:Program) (t:Nat) (d:TypeDesc):Bool:=match d with
 | .struct gs => gs.toList.all (fun f => f.name != "_") && !P.stoodInHeld t && !P.eqGuardType P.depth t
 | .int _=>match P.info? t with | some i=>i.comparable | none=>false
 | _=>false
def Zvh:Value->Bool | .agg _=>true | _=>false
def ZoG (P:Program) (t:Nat) (v:TI):Bool:=match v.kind with
 | .other=>true
 | k=>match P.info? t,P.underlying t with
  | some i,some d=>Nat.beq i.size v.size && Nat.beq i.bytes v.bytes && Zv1 P k d && Nat.beq v.zero.length v.size && (k.isAgg || Nat.beq v.size 1) && (!v.eqok || eqB P t d) && (match i.zero with | some z=>ZoF v.zero z.cells.toList && (Zvh z == k.isAgg) | none=>false)
  | _,_=>false
def Tab.all (p:Nat->TI->Bool):Tab->Bool
 | .leaf=>true
 | .node l k v r=>p k v && (l.all p && r.all p)
theorem ZGw {p:Nat->TI->Bool}:∀{T:Tab},T.all p=true->∀t,T.get t=TI.no\/p t (T.get t)=true:=by
 intro T
 induction T with
 | leaf=>exact fun _ _=>.inl rfl
 | node l k v r ihl ihr =>
 intro h t
 simp only [Tab.all,Tl] at h;unfold Tab.get
 split
 ·simp_all
 grind
def ZcX {a b:IntKind} (h:keq a b=true):a=b:=by cases a <;> cases b <;> first | rfl | cases h
inductive FieldsOK (P:Program):List (Nat×Nat)->List Field->Prop
 | nil:FieldsOK P [] []
 | cons (o t:Nat) (l) (f:Field) (m) (i:TypeInfo) (ho:f.offset=o) (ht:f.type=t) (hi:P.info? t=some i) (hs:1<=i.size) (h:FieldsOK P l m):FieldsOK P ((o,t)::l) (f::m)
theorem Zfm {P:Program}:∀{l:List (Nat×Nat)} {m:List Field},Zgy P l m=true->FieldsOK P l m
 | [],[],_=>.nil
 | (o,t)::l,f::m,h=>by
  simp only [Zgy,Tl] at h;obtain ⟨⟨⟨h1,h2⟩,h3⟩,h4⟩:=h
  cases hi:P.info? t with
  | none=>simp_all
  | some i =>
  rw [hi] at h3;exact .cons o t l f m i (Tt h1).symm (Tt h2).symm hi (Tc h3) (Zfm h4)
 | [],_::_,h=>by cases h
 | _::_,[],h=>by cases h
theorem FieldsOK.get {P:Program} {l:List (Nat×Nat)} {m:List Field} (h:FieldsOK P l m):∀{i o t:Nat},l[i]?=some (o,t)->∃f j,m[i]?=some f/\f.offset=o/\f.type=t/\P.info? t=some j/\1<=j.size:=by
 induction h with
 | nil=>simp_all
 | cons o t l f m j ho ht hi hs _ ih =>
 intro i o' t' h'
 cases i with
 | zero=>simp_all
 | succ i=>simp_all
def KindOK (P:Program):TK->TypeDesc->Prop
 | .int k,d=>d=.int k
 | .bool,d=>d=.bool
 | .string,d=>d=.string
 | .ptr e,d=>d=.pointer e
 | .slice e,d=>d=.slice e
 | .array n e,d=>d=.array n e
 | .struct fs,d=>∃gs,d=.struct gs/\FieldsOK P fs gs.toList
 | .func,d=>∃a b c,d=.func a b c
 | .iface,d=>∃ms,d=.interface ms
 | .map k e,d=>d=.map k e/\P.underlying k=some .string
 | .other,_=>False
def Zss {P:Program} {k:TK} {d:TypeDesc} (h:Zv1 P k d=true):KindOK P k d:=by
 cases k <;> cases d <;> simp only [Zv1,Tl] at h <;> first
  | (cases h;done)
  | rfl
  | (have:=ZcX h;subst this;rfl)
  | (have:=Tt h;subst this;rfl)
  | (have h1:=Tt h.1;have h2:=Tt h.2;subst h1;subst h2;rfl)
  | exact ⟨_,rfl,Zfm h⟩
  | exact ⟨_,_,_,rfl⟩
  | (have h1:=Tt h.1.1;have h2:=Tt h.1.2;subst h1;subst h2;refine ⟨rfl,?_⟩;have h3:=h.2;split at h3 <;> first | assumption | (cases h3;done))
  | exact ⟨_,rfl⟩
structure TIOK (P:Program) (t:Nat) (v:TI):Prop where
 ex:∃i d z,P.info? t=some i/\P.underlying t=some d/\i.size=v.size/\i.bytes=v.bytes/\KindOK P v.kind d/\i.zero=some z/\ZoF v.zero z.cells.toList=true/\v.zero.length=v.size/\(v.kind.isAgg=true\/v.size=1)/\(v.eqok=true->eqB P t d=true)
 agg:∀i z,P.info? t=some i->i.zero=some z->Zvh z=v.kind.isAgg
def TabOK (T:Tab) (P:Program):Prop:=T.all (ZoG P)=true
theorem TabOK.get {T:Tab} {P:Program} (h:TabOK T P) {t:Nat} (hk:(T.get t).kind≠.other):TIOK P t (T.get t):=by
 rcases ZGw h t with h1 | h1
 ·rw [h1] at hk;trivial
 unfold ZoG at h1
 split at h1
 ·simp_all
 split at h1
 ·rename_i i d hi hd
  simp only [Tl] at h1;obtain ⟨⟨⟨⟨⟨⟨h2,h3⟩,h4⟩,h6⟩,h7⟩,h8⟩,h5⟩:=h1;split at h5
  ·rename_i z hz
   rw [Tl] at h5;obtain ⟨h5,h9⟩:=h5;refine ⟨⟨i,d,z,hi,hd,Tt h2,Tt h3,Zss h4,hz,h5,Tt h6,by
    simp_all,fun he=>by
    simp_all⟩,fun i' z' gk hz'=>?_⟩
   simp_all
  grind
 grind
theorem TabOK.one {T:Tab} {P:Program} (h:TabOK T P) {t:Nat} (hk:(T.get t).kind≠.other) (ha:(T.get t).kind.isAgg=false):(T.get t).size=1:=by
 obtain ⟨i,d,z,_,_,_,_,_,_,_,_,h1,_⟩:=(h.get hk).ex
 simp_all
theorem Zia {ok:Nat->Nat->Prop} {w:World} {x:D} {v:Value} (h:ZoE x v=true):DRel ok w x v/\v.oneCell'=true:=by
 cases x <;> cases v <;> try (first | (cases h;done) | (rename_i a;cases a <;> first | (cases h;done) | exact ⟨.nilp,rfl⟩))
 ·rename_i a b;have:a=b:=by simpa [ZoE] using h
  subst this;exact ⟨.bool _,rfl⟩
 ·rename_i k a k' b
  simp only [ZoE,Tl] at h;have h1:=ZcX h.1;have h2:a=b:=by simp_all
  subst h1;subst h2;exact ⟨.int _ _,rfl⟩
 ·rename_i s t
  have:s=t.data.toList:=by simpa [ZoE] using h
  subst this;exact ⟨.str _,rfl⟩
 ·exact ⟨.nilf,rfl⟩
 exact ⟨.nili,rfl⟩
def ZoH {G:GE} {e:Env} {σ:St} {w:World} {x:PV} {v:Value} (h:Zsr x v=true):VRel G e σ w x v/\v.oneCell'=true:=by
 cases x with
 | d x=>exact ⟨.d _ _ (Zia h).1,(Zia (ok:=okc e σ) (w:=w) h).2⟩
 | nils el =>
  unfold Zsr at h
  split at h <;> first | (cases h;done) | skip
  ·rename_i bl;cases bl
  ·exact ⟨.nils _,rfl⟩
  rename_i bl;cases bl
 | nilm =>
  unfold Zsr at h
  split at h <;> first | (cases h;done) | skip
  ·rename_i bl;cases bl
  ·rename_i bl;cases bl
  exact ⟨.nilm,rfl⟩
 | _=>cases h
theorem XC {G:GE} {e:Env} {σ:St} {w:World}:∀{l:List PV} {m:List Value},ZoF l m=true->m.length=l.length/\∀(i:Nat) (x:PV) (u:Value),l[i]?=some x->m[i]?=some u->VRel G e σ w x u/\u.oneCell'=true
 | [],[],_=>⟨rfl,fun i x u h=>by simp at h⟩
 | x::l,v::m,h=>by
  simp only [ZoF,Tl] at h;obtain ⟨h1,h2⟩:=XC (G:=G) (e:=e) (σ:=σ) (w:=w) h.2;refine ⟨by simp [h1],fun i x' u hx hu=>?_⟩
  cases i with
  | zero=>simp at hx hu;subst hx;subst hu;exact ZoH h.1
  | succ i=>grind
 | [],_::_,h=>by cases h
 | _::_,[],h=>by cases h
theorem Zm0 {T:Tab} {G:GE} (hT:TabOK T G.P) {t:Nat} (hk:(T.get t).kind≠.other) {z:PV} (hz:Zoy (T.get t)=some z) {e:Env} {σ:St} {w:World}:∃v,VRel G e σ w z v/\(zeroValue t).run G.P w=.ok v w:=by
 obtain ⟨i,d,v,hi,hd,hs,eg,aq,hv,nu,_⟩:=(hT.get hk).ex;have ha:=(hT.get hk).agg i v hi hv;refine ⟨v,?_,by simp [zeroValue,typeInfo,hi,hv]⟩;obtain ⟨h1,h2⟩:=XC (G:=G) (e:=e) (σ:=σ) (w:=w) nu;unfold Zoy at hz
 split at hz
 ·rename_i hb
  cases hz
  rw [hb] at ha
  cases v with
  | agg vs =>
   have h1:vs.size=(T.get t).zero.length:=h1;exact .agg _ vs h1 (fun i x u hx hu=>(h2 i x u hx (by simpa [Value.cells] using hu)).1) (fun u hu=>by
    obtain ⟨k,hk,he⟩:=Sy hu;have bw:k<(T.get t).zero.length:=oM;exact (h2 k _ u (Tb bw) (by simp [Value.cells,TM hk,he])).2)
  | _=>cases ha
 ·rename_i z' hb sa
  cases hz
  rw [hb] at ha;rw [sa] at h2
  cases v <;> first | exact (h2 0 _ _ rfl rfl).1 | trivial
 grind
end Go.PM
end

section
namespace Go.PM
section inv
variable {G:GE} {e:Env} {σ:St} {w:World} {v:Value}
def DRel.one {ok:Nat->Nat->Prop} {x:D} (h:DRel ok w x v):v.oneCell'=true:=by cases h <;> rfl
def VRel.dint {k:IntKind} {n:Int} (h:VRel G e σ w (.d (.int k n)) v):v=.int k n:=by cases h with | d _ _ h=>cases h;rfl
def VRel.dbool {b:Bool} (h:VRel G e σ w (.d (.bool b)) v):v=.bool b:=by cases h with | d _ _ h=>cases h;rfl
def VRel.dstr {s:List UInt8} (h:VRel G e σ w (.d (.str s)) v):v=.string ⟨s.toArray⟩:=by cases h with | d _ _ h=>cases h;rfl
def VRel.mkint {k:IntKind} {n:Int}:VRel G e σ w (.d (.int k n)) (.int k n):=.d _ _ (.int _ _)
def VRel.mkbool {b:Bool}:VRel G e σ w (.d (.bool b)) (.bool b):=.d _ _ (.bool _)
def VRel.mkstr {s:List UInt8}:VRel G e σ w (.d (.str s)) (.string ⟨s.toArray⟩):=.d _ _ (.str _)
def Wd {x:PV} {y:D} (hy:toD x=some y) (h:VRel G e σ w x v):DRel (okc e σ) w y v:=by
 cases h with
 | d x v h=>cases hy;exact h
 | sl t el rows v hn hd _=>cases hy;exact hd
 | nils el=>cases hy;exact .slnil
 | _=>cases hy
theorem DRel.sl_inv {ok:Nat->Nat->Prop} {rows:List (List D)} (h:DRel ok w (.sl rows) v):∃a cap,v=.slice a rows.length cap/\rows.length<=cap:=by
 cases h with
 | slnil=>simp_all
 | slz a=>simp_all
 | sl rows b off cap sz u hcap hsz hc ho hu=>grind
end inv
def Ya {P:Program} {t:TypeId} {i:TypeInfo} (h:P.info? t=some i) (w:World):(typeInfo t).run P w=.ok i w:=by simp [typeInfo,h]
def Zt {P:Program} {t:TypeId} {i:TypeInfo} (h:P.info? t=some i) (w:World):(sizeOf t).run P w=.ok i.size w:=by simp [sizeOf,Ya h]
def Za {P:Program} {t:TypeId} {d:TypeDesc} (h:P.underlying t=some d) (w:World):(underlying t).run P w=.ok d w:=by simp [underlying,h]
def UF {P:Program} {k:TK} {d:TypeDesc} (h:KindOK P k d) {t:TypeId} (hd:P.underlying t=some d) (w:World):(isAgg t).run P w=.ok k.isAgg w:=by
 unfold isAgg
 simp only [Sem.run_bind,Za hd,Result.andThen]
 cases k with
 | struct fs=>obtain ⟨gs,rfl,_⟩:=h;rfl
 | func=>obtain ⟨a,b,c,rfl⟩:=h;rfl
 | iface=>obtain ⟨ms,rfl⟩:=h;rfl
 | map k e=>obtain ⟨rfl,_⟩:=h;rfl
 | other=>cases h
 | _=>cases h;rfl
theorem WY {α:Type}:∀{n:Nat} {l r:List α},U2 n l=some r->r.length=n/\∀i,i<n->l[i]?=r[i]?
 | 0,l,r,h=>by simp [U2] at h;simp_all
 | n+1,[],r,h=>by trivial
 | n+1,x::l,r,h=>by
  simp only [U2] at h;split at h
  ·rename_i r' hr
   cases h
   obtain ⟨h1,h2⟩:=WY hr
   grind
  cases h
theorem Yb (b o i:Nat):(⟨b,o,none⟩:Addr).add i=⟨b,o+i,none⟩:=by
 unfold Addr.add
 simp_all
theorem Wz {P:Program} {t:TypeId} {i:TypeInfo} {d:TypeDesc} {k:TK} (hi:P.info? t=some i) (hd:P.underlying t=some d) (hk:KindOK P k d) (w:World) (b o:Nat) (g:Nat->Value)
  (hc:∀j,j<(if k.isAgg then i.size else 1)->w.cell? ⟨b,o+j,none⟩=some (g j)) :
  (loadVar t ⟨b,o,none⟩).run P w=.ok (if k.isAgg then .agg ((List.range i.size).map g).toArray else g 0) w:=by
 unfold loadVar
 simp only [Sem.run_bind,UF hk hd,Result.andThen]
 cases lc:k.isAgg with
 | true =>
  simp only [if_true,Sem.run_bind,Zt hi,Result.andThen];rw [run_loadCells w ⟨b,o,none⟩ i.size g (fun j hj=>by rw [Yb];simp_all)];rfl
 | false =>
 simp_all
section
variable {G:GE} {e:Env} {σ:St} {w:World}
theorem BRel.cell {t:TypeId} {cs:List PV} {b:Nat} (h:BRel G e σ w (.cells t cs) b) {o:Nat} {x:PV} (hx:cs[o]?=some x):∃u,w.cell? ⟨b,o,none⟩=some u/\VRel G e σ w x u/\u.oneCell'=true:=by
 obtain ⟨vs,h1,h2,h3⟩:=h;have ho:o<vs.size:=by grind
 have hv:vs[o]?=some vs[o]:=TM ho;exact ⟨vs[o],by simp [World.cell?,h1,hv],(h3 o x _ hx hv).1,(h3 o x _ hx hv).2⟩
theorem Zfn {T:Tab} {K:PV->Prop} (hT:TabOK T G.P) (hS:SRel G e σ w) {t:TypeId} {x:PV} {v:Value} (hv:VRel G e σ w x v)
  (h:ZaZ T t x σ.bx K):∃pv u,K pv/\VRel G e σ w pv u/\(Instr.loadAt t v).run G.P w=.ok u w:=by
 cases hv with
 | ptr b off hb =>
  simp only [ZaZ] at h;split at h
  ·rename_i ty cs d8
   have hB:=hS.box b _ d8;split at h
   ·rename_i hk
    obtain ⟨i,d,z,hi,hd,hs,eg,aq,hz,co,_⟩:=(hT.get (t:=t) (by intro h0;rw [h0] at hk;cases hk)).ex;split at h
    ·rename_i l hl
     obtain ⟨nv,wq⟩:=WY hl;have ax:∀j,j<i.size->∃u x,l[j]?=some x/\w.cell? ⟨e.β b,off+j,none⟩=some u/\VRel G e σ w x u/\u.oneCell'=true:=fun j hj=>by
      have h1:j<l.length:=oM;have h2:=wq j oM;rw [Tb h1,List.getElem?_drop] at h2;obtain ⟨u,hu1,qm,hu3⟩:=hB.cell h2
      simp_all
     have aj:=Wz hi hd aq w (e.β b) off (fun j=>(w.cell? ⟨e.β b,off+j,none⟩).getD undef) (fun j hj=>by
      grind)
     rw [hk] at aj;refine ⟨_,_,h,?_,by assumption⟩;refine .agg _ _ (by simp_all) (fun j x u hx hu=>?_) (fun u hu=>?_)
     ·grind
     grind
    simp_all
   rename_i hk
   split at h
   ·grind
   rename_i bw
   obtain ⟨i,d,z,hi,hd,hs,eg,aq,hz,co,_⟩:=(hT.get (t:=t) (fun h0=>bw h0)).ex;split at h
   ·rename_i y hy
    obtain ⟨u,hu1,qm,hu3⟩:=hB.cell hy;have aj:=Wz hi hd aq w (e.β b) off (fun _=>u) (fun j hj=>by
     simp_all)
    rw [hk] at aj;exact ⟨_,_,h,qm,by assumption⟩
   simp_all
  simp_all
 | elem r off b o u hc ho hu =>
  simp only [ZaZ] at h;split at h
  ·rename_i hk
   obtain ⟨i,d,z,hi,hd,hs,eg,aq,hz,co,_⟩:=(hT.get (t:=t) (by intro h0;rw [h0] at hk;cases hk)).ex;split at h
   ·rename_i l hl
    obtain ⟨nv,wq⟩:=WY hl;have hrj:∀j,j<i.size->off+j<r.length/\r[off+j]?=l[j]?:=fun j hj=>by
     grind
    have aj:=Wz hi hd aq w b (o+off) (fun j=>u (off+j)) (fun j hj=>by
     grind)
    rw [hk] at aj;refine ⟨_,_,h,?_,by assumption⟩;have i5:∀j x,j<i.size->l[j]?=some x->DRel (okc e σ) w x (u (off+j)):=fun j x hj hx=>hu (off+j) x (by simp_all)
    refine .agg _ _ (by simp_all) (fun j x v hx hv=>?_) (fun v hv=>?_)
    ·rw [Ti] at hx
     cases j6:l[j]? with
     | none=>simp_all
     | some y =>
     rw [j6] at hx;cases hx;have hj:j<i.size:=by grind
     simp [hj] at hv;subst hv;exact .d _ _ (i5 j y hj j6)
    simp only [List.mem_toArray,Su,List.mem_range] at hv;obtain ⟨j,hj,rfl⟩:=hv;have h1:j<l.length:=oM;exact (i5 j _ hj (Tb h1)).one
   simp_all
  rename_i hk
  split at h
  ·grind
  rename_i bw
  obtain ⟨i,d,z,hi,hd,hs,eg,aq,hz,co,_⟩:=(hT.get (t:=t) (fun h0=>bw h0)).ex;split at h
  ·rename_i y hy
   have aa:=(To.1 hy).1;have aj:=Wz hi hd aq w b (o+off) (fun _=>u off) (fun j hj=>by
    simp_all)
   rw [hk] at aj;exact ⟨_,_,h,.d _ _ (hu off y hy),by assumption⟩
  simp_all
 | _=>exact h.elim
def J7 {P:Program} (op:BinOp) (k:IntKind) (a b:Int) (w:World) (h:op=.and\/op=.or\/op=.xor\/op=.andNot):(Op.intBits op k a b).run P w=.ok (.int k (Zj op k a b)) w:=by
 rw [Yw];rcases h with rfl | rfl | rfl | rfl <;> rfl
def Ju {k:IntKind} {n:Int} {K:PV->Prop} (h:ZcT k n K):∃pv,K pv/\VRel G e σ w pv (.int k (k.wrap n)):=by
 rcases h with ⟨h1,h2⟩ | h
 ·exact ⟨_,h2,by rw [show k.wrap n=n from h1];exact .mkint⟩
 exact ⟨_,h,.mkint⟩
theorem V8 {k:IntKind} {n:Int} {K:PV->Prop} (h:ZcT k n K) {s:Sem Value} {P:Program} (hs:s.run P w=.ok (.int k (k.wrap n)) w):∃pv u,K pv/\VRel G e σ w pv u/\s.run P w=.ok u w:=by
 obtain ⟨pv,h1,h2⟩:=Ju (G:=G) (e:=e) (σ:=σ) (w:=w) h
 grind
def Zm1 {op:BinOp} {k:IntKind} {a b:Int} {K:PV->Prop} (h:ZAs op k a b K) (t:TypeId) (x y:Operand) :
  ∃pv u,K pv/\VRel G e σ w pv u/\(do eqGuard op t x y (.int k a) (.int k b);binOp op t (.int k a) (.int k b):Sem Value).run G.P w=.ok u w:=by
 have hg:(eqGuard op t x y (.int k a) (.int k b)).run G.P w=.ok () w:=by cases op <;> rfl
 cases op <;> simp only [ZAs] at h <;> simp only [Sem.run_bind,hg,Result.andThen]
 case add=>exact V8 h (by simp [binOp,Op.intArith])
 case sub=>exact V8 h (by simp [binOp,Op.intArith])
 case mul=>exact V8 h (by simp [binOp,Op.intArith])
 case quo=>exact V8 h.2 (by simp [binOp,Op.intDiv,h.1])
 case rem=>exact ⟨_,_,h.2,.mkint,by simp [binOp,Op.intDiv,h.1]⟩
 case and=>exact ⟨_,_,h,.mkint,by simp [binOp,J7]⟩
 case or=>exact ⟨_,_,h,.mkint,by simp [binOp,J7]⟩
 case xor=>exact ⟨_,_,h,.mkint,by simp [binOp,J7]⟩
 case andNot=>exact ⟨_,_,h,.mkint,by simp [binOp,J7]⟩
 case eql=>exact ⟨_,_,h,.mkbool,by simp [binOp,Op.intCmp];rfl⟩
 case neq=>exact ⟨_,_,h,.mkbool,by simp [binOp,Op.intCmp,bne];rfl⟩
 case lss=>exact ⟨_,_,h,.mkbool,by simp [binOp,Op.intCmp]⟩
 case leq=>exact ⟨_,_,h,.mkbool,by simp [binOp,Op.intCmp]⟩
 case gtr=>exact ⟨_,_,h,.mkbool,by simp [binOp,Op.intCmp]⟩
 case geq=>exact ⟨_,_,h,.mkbool,by simp [binOp,Op.intCmp]⟩
def toList_mk (s:List UInt8):(⟨s.toArray⟩:ByteArray).toList=s:=ByteArray.toList_mk s
theorem Za0 {α:Type} [BEq α] [LawfulBEq α] [DecidableEq α] (a b:α):(a == b)=decide (a=b):=by grind
theorem Jd {T : Tab} (hT : TabOK T G.P) (d : Nat) {xs ys : Array Value} : ∀ {fs : List (Nat × Nat)} {gs : List Field} {i : Nat} {px py : List PV} {K : Bool -> Prop}, FieldsOK G.P fs gs -> gs.all (fun f => f.name != "_") = true ->
  (∀(j:Nat) (x:PV),px[j]?=some x->∃u,xs[i+j]?=some u/\VRel G e σ w x u)->(∀(j:Nat) (x:PV),py[j]?=some x->∃u,ys[i+j]?=some u/\VRel G e σ w x u)->YJ T i fs px py K ->
  ∃r,K r/\(Op.eqFields (d+1) xs ys gs).run G.P w=.ok r w
 | [],gs,i,px,py,K,hf,hn,hx,hy,h=>by
  cases hf
  cases px <;> cases py <;> first | exact ⟨_,h,rfl⟩ | exact h.elim
 | (o',t')::fs',gs,i',px,py,K,hf,hn,hx,hy,h=>by
  cases hf with
  | cons _ _ _ f gs info ho ht hi hs hf =>
  simp only [List.all_cons,Tl] at hn
  cases px with
  | nil=>exact h.elim
  | cons x xs' =>
  cases py with
  | nil=>exact h.elim
  | cons y ys' =>
  obtain ⟨u,hu,hxu⟩:=hx 0 x rfl;obtain ⟨v,hv,hyv⟩:=hy 0 y rfl;simp only [Nat.add_zero] at hu hv;have ic:∀(j:Nat) (z:PV),xs'[j]?=some z->∃u,xs[i'+1+j]?=some u/\VRel G e σ w z u:=fun j z hz=>by have:=hx (j+1) z (by simp_all);grind
  have zx:∀(j:Nat) (z:PV),ys'[j]?=some z->∃u,ys[i'+1+j]?=some u/\VRel G e σ w z u:=fun j z hz=>by have:=hy (j+1) z (by simp_all);grind
  have ao : f.name ≠ "_" := by simp_all
  have fin:∀(b:Bool) (K1:Bool->Prop),o'=i'->(T.get t').kind≠.other->(T.get t').kind.isAgg=false->(Op.equalIn (d+1) t' u v).run G.P w=.ok b w->(YJ T (i'+1) fs' xs' ys' fun r=>K1 (b && r)) ->
    ∃r,K1 r/\(Op.eqFields (d+1) xs ys (f::gs)).run G.P w=.ok r w:=fun b K1 uy zy lc he hk=>by
   obtain ⟨r,h1,h2⟩:=Jd hT d hf hn.2 ic zx hk;obtain ⟨i2,d2,z2,ab,cg,fx,i6,bf,_⟩:=(hT.get zy).ex;have hpx:∀(zs:Array Value) (q:Value),zs[i']?=some q->(part t' zs f.offset).run G.P w=.ok q w:=fun zs q hq=>by
    unfold part
    simp only [Sem.run_bind,UF bf cg,Result.andThen,lc]
    simp_all
   refine ⟨_,h1,?_⟩;simp only [Op.eqFields];rw [Tj ao];simp only [Sem.run_bind,ht,hpx xs u hu,hpx ys v hv,he,Result.andThen]
   cases b with
   | true=>simp_all
   | false=>simp
  have tk:∀(k:TK),(T.get t').kind=k->k≠.other->∃dd,G.P.underlying t'=some dd/\KindOK G.P k dd:=fun k hk zy=>by
   obtain ⟨i2,d2,z2,ab,cg,fx,i6,bf,_⟩:=(hT.get (t:=t') (by simp_all)).ex
   simp_all
  simp only [YJ] at h;split at h
  ·rename_i k0 k a k' b uy be
   obtain ⟨dd,fh,cg⟩:=tk _ be sM
   cases hxu.dint;cases hyv.dint
   split at h
   ·rename_i hk
    cases ZcX hk
    refine fin (decide (a=b)) K (Tt uy) (by simp_all) (by rw [be];rfl) ?_ h;rw [run_equalIn_int w d _ k k0 a b (by rw [fh];exact congrArg some cg),Za0]
   simp_all
  ·rename_i a b uy be
   obtain ⟨dd,fh,cg⟩:=tk _ be sM
   cases hxu.dstr;cases hyv.dstr
   refine fin (decide (a=b)) K (Tt uy) (by simp_all) (by rw [be];rfl) ?_ h;rw [run_equalIn_string w d _ _ _ (by rw [fh];exact congrArg some cg),toList_mk,toList_mk,Za0]
  ·rename_i a b uy be
   obtain ⟨dd,fh,cg⟩:=tk _ be sM
   cases hxu.dbool;cases hyv.dbool
   refine fin (decide (a=b)) K (Tt uy) (by simp_all) (by rw [be];rfl) ?_ h;rw [run_equalIn_bool w d _ a b (by rw [fh];exact congrArg some cg),Za0]
  simp_all
def ZoI:Value->Bool
 | .int _ _=>false | .string _=>false | .float _ _=>false | .complex _ _ _=>false | _=>true
def ZoJ {t:TypeId} {vx vy:Value} (h:ZoI vx=true):binOp .eql t vx vy=(do pure (.bool (<- Op.equal t vx vy))):=by
 cases vx <;> first | (cases h;done) | (cases vy <;> rfl)
def ZoK {t:TypeId} {vx vy:Value} (h:ZoI vx=true):binOp .neq t vx vy=(do pure (.bool (!(<- Op.equal t vx vy)))):=by
 cases vx <;> first | (cases h;done) | (cases vy <;> rfl)
def ZK {P:Program} {op:BinOp} {t:TypeId} {x y:Operand} {vx vy:Value} (h:(match vx with | .nilIface=>false | .agg _=>false | _=>true)=true):(eqGuard op t x y vx vy).run P w=.ok () w:=by
 cases op <;> first | rfl | (cases vx <;> first | (cases h;done) | rfl)
def ZZ (t:TypeId) (x y:Value):Op.equal t x y=Op.equalIn (9999+1) t x y:=rfl
def Zib {T:Tab} (hT:TabOK T G.P) {t:TypeId} {x y:Operand} {px py:PV} {vx vy:Value} {K:Bool->Prop} (hx:VRel G e σ w px vx) (hy:VRel G e σ w py vy) (h:peq T t x y px py K) (op:BinOp) :
  ∃b,K b/\(Op.equal t vx vy).run G.P w=.ok b w/\(eqGuard op t x y vx vy).run G.P w=.ok () w/\ZoI vx=true:=by
 have tk:∀(k:TK),(T.get t).kind=k->k≠.other->∃dd,G.P.underlying t=some dd/\KindOK G.P k dd/\((T.get t).eqok=true->eqB G.P t dd=true):=fun k hk zy=>by
  obtain ⟨i2,d2,z2,ab,cg,fx,i6,bf,_,_,_,_,h8⟩:=(hT.get (t:=t) (by rw [hk];exact zy)).ex;exact ⟨d2,cg,by rw [<- hk];exact bf,h8⟩
 have dn:∀{v:Value},VRel G e σ w (.d .nilp) v->v=.pointer none:=fun h=>by cases h with | d _ _ h=>cases h;rfl
 have df:∀{v:Value},VRel G e σ w (.d .nilf) v->v=.nilFunc:=fun h=>by cases h with | d _ _ h=>cases h;rfl
 have di:∀{v:Value},VRel G e σ w (.d .nili) v->v=.nilIface:=fun h=>by cases h with | d _ _ h=>cases h;rfl
 unfold peq at h
 split at h
 ·rename_i be
  obtain ⟨dd,fh,cg,_⟩:=tk _ be sM;split at h
  ·rename_i a b
   cases hx.dbool;cases hy.dbool
   exact ⟨_,h,by rw [run_equal_bool w t a b (by rw [fh];exact congrArg some cg),Za0],ZK rfl,rfl⟩
  exact h.elim
 ·rename_i el be
  obtain ⟨dd,fh,cg,_⟩:=tk _ be sM;obtain rfl:dd=.pointer el:=cg;split at h
  ·cases dn hx;cases dn hy
   exact mq25
  ·cases dn hx;cases hy
   exact mq25
  ·cases dn hx;cases hy
   exact mq25
  ·cases dn hy;cases hx
   exact mq25
  ·cases dn hy;cases hx
   exact mq25
  exact h.elim
 ·rename_i be
  obtain ⟨dd,fh,⟨q1,q2,q3,rfl⟩,_⟩:=tk _ be sM;split at h
  ·cases df hx;cases df hy
   exact mq25
  ·cases df hx;cases hy
   exact mq25
  ·cases df hy;cases hx
   exact mq25
  exact h.elim
 ·rename_i be
  obtain ⟨dd,fh,⟨q1,rfl⟩,_⟩:=tk _ be sM;split at h
  ·cases di hx;cases di hy
   split at h
   ·rename_i hc
    refine ⟨_,h,by rw [ZZ,Op.equalIn];simp [Za fh],?_,rfl⟩
    cases op <;> first | rfl | (unfold eqGuard;cases x <;> cases y <;> first | rfl | (cases hc;done))
   exact h.elim
  ·cases di hx;cases hy
   exact ⟨_,h,by rw [ZZ,Op.equalIn];simp [Za fh],by cases op <;> rfl,rfl⟩
  ·cases di hy;cases hx
   exact ⟨_,h,by rw [ZZ,Op.equalIn];simp [Za fh],by cases op <;> rfl,rfl⟩
  ·rename_i t1 k a t2 k' b
   cases hx with
   | iface _ _ u hu =>
   cases hy with
   | iface _ _ v hv =>
   cases hu.dint;cases hv.dint
   split at h
   ·rename_i kk hb iu hek
    cases Tt hb
    split at h
    ·rename_i hkq
     cases ZcX hkq
     obtain ⟨i2,d2,z2,ab,cg,fx,i6,bf,_,_,_,_,h8⟩:=(hT.get (t:=t1) (by rw [iu];simp)).ex;rw [iu] at bf;obtain rfl:d2=.int kk:=bf;have hc:=h8 hek;simp only [eqB,ab] at hc;refine ⟨_,h,?_,by cases op <;> rfl,rfl⟩;rw [ZZ,Op.equalIn];simp only [Sem.run_bind,Za fh,Result.andThen,ne_eq,not_true,if_false,Ya ab,hc,Bool.not_true,Tv];rw [run_equalIn_int w 9998 t1 k kk a b cg,Za0]
    exact h.elim
   ·rename_i hb
    have ai:t1≠t2:=fun e=>by subst e;simp at hb
    refine ⟨_,h,?_,by cases op <;> rfl,rfl⟩;rw [ZZ,Op.equalIn];simp [Za fh,ai]
   exact h.elim
  exact h.elim
 ·rename_i k1 e1 be
  obtain ⟨dd,fh,⟨rfl,_⟩,_⟩:=tk _ be sM;split at h
  ·cases hx;cases hy
   exact mq25
  ·cases hx;cases hy
   exact mq25
  ·cases hx;cases hy
   exact mq25
  exact h.elim
 ·rename_i el be
  obtain ⟨dd,fh,cg,_⟩:=tk _ be sM;obtain rfl:dd=.slice el:=cg;split at h
  ·cases hx;cases hy
   exact mq25
  ·cases hy
   cases hx with
   | d _ _ hx=>cases hx with
    | sl=>exact ⟨_,h,by rw [ZZ,Op.equalIn];simp [Za fh],ZK rfl,rfl⟩
  ·cases hy
   cases hx with
   | sl _ _ _ _ _ hx _=>cases hx with
    | sl=>exact ⟨_,h,by rw [ZZ,Op.equalIn];simp [Za fh],ZK rfl,rfl⟩
  exact h.elim
 ·rename_i fs be
  obtain ⟨dd,fh,⟨gs,rfl,hf⟩,h8⟩:=tk _ be sM;split at h
  ·rename_i hek
   have hB:=h8 hek;simp only [eqB,Tl,TZ] at hB;split at h
   ·rename_i xs ys
    cases hx with
    | agg _ vxs zz ig _ =>
    cases hy with
    | agg _ vys hys hyr _ =>
    have hfo:G.P.fieldsOf t=gs:=by simp [Program.fieldsOf,fh]
    have conv:∀{l:List PV} {vs:Array Value},vs.size=l.length->(∀(i:Nat) (x:PV) (u:Value),l[i]?=some x->vs[i]?=some u->VRel G e σ w x u)->∀(j:Nat) (x:PV),l[j]?=some x->∃u,vs[0+j]?=some u/\VRel G e σ w x u:=fun {l vs} hs hr j x hx=>by
     have hj:=(To.1 hx).1;refine ⟨vs[j],by rw [Sk];exact TM oM,hr j x _ hx (TM oM)⟩
    obtain ⟨r,hK,aj⟩:=Jd hT 9998 hf hB.1.1 (conv zz ig) (conv hys hyr) h;refine ⟨r,hK,?_,run_eqGuard_agg w op t x y _ _ hB.2,rfl⟩;have:=run_equalIn_struct w 9999 t vxs vys (by rw [hfo];exact fh) hB.1.2;rw [hfo] at this;exact this.trans aj
   exact h.elim
  exact h.elim
 exact h.elim
def Zm2 {T:Tab} (hT:TabOK T G.P) {op:BinOp} {px py:PV} {vx vy:Value} {K:PV->Prop} {t:TypeId} {x y:Operand} (hx:VRel G e σ w px vx) (hy:VRel G e σ w py vy) (h:Zvc T op t x y px py K) :
  ∃pv u,K pv/\VRel G e σ w pv u/\(do eqGuard op t x y vx vy;binOp op t vx vy:Sem Value).run G.P w=.ok u w:=by
 unfold Zvc at h
 split at h
 ·rename_i k a k' b
  cases hx.dint;cases hy.dint
  split at h
  ·have hg:(eqGuard .shl t x y (.int k a) (.int k' b)).run G.P w=.ok () w:=rfl;have:¬b<0:=oM;exact V8 h.2 (by simp [hg,binOp,Op.shift,this])
  ·refine ⟨_,_,h.2,.mkint,?_⟩;have hg:(eqGuard .shr t x y (.int k a) (.int k' b)).run G.P w=.ok () w:=rfl;have:¬b<0:=oM;simp [hg,binOp,Op.shift,this]
  split at h
  ·rename_i hk
   cases ZcX hk
   exact Zm1 h t x y
  exact h.elim
 ·rename_i a b
  cases hx.dstr;cases hy.dstr
  have hg:(eqGuard op t x y (.string ⟨a.toArray⟩) (.string ⟨b.toArray⟩)).run G.P w=.ok () w:=by cases op <;> rfl
  cases op <;> simp only at h <;> simp only [Sem.run_bind,hg,Result.andThen]
  case add =>
   refine ⟨_,_,h.2,.mkstr,?_⟩;have h1:¬((a.length:Int)+(b.length:Int)>IntKind.i64.max):=by
    have:IntKind.i64.max=2 ^ 63 - 1:=rfl;rw [this];have:=h.1;omega
   have h2:(⟨a.toArray⟩:ByteArray)++⟨b.toArray⟩=⟨(a++b).toArray⟩:=by
    apply ByteArray.ext;simp [ByteArray.data_append]
   have h3:(⟨a.toArray⟩:ByteArray).size=a.length:=rfl;have h4:(⟨b.toArray⟩:ByteArray).size=b.length:=rfl;simp only [binOp,Op.stringOp,h3,h4,Int.natCast_add];rw [Tf h1,h2];rfl
  all_goals refine ⟨_,_,h,.mkbool,?_⟩
  all_goals simp only [binOp,Op.stringOp,toList_mk,<- Za0,Sem.run_pure]
 rename_i px' py' afl wt
 cases op <;> simp only at h <;> first | exact h.elim | skip
 ·obtain ⟨b,hK,h1,h2,n1⟩:=Zib hT hx hy h .eql;refine ⟨_,_,hK,.mkbool,?_⟩;simp only [Sem.run_bind,h2,Result.andThen,ZoJ n1,h1,Sem.run_pure]
 obtain ⟨b,hK,h1,h2,n1⟩:=Zib hT hx hy h .neq;refine ⟨_,_,hK,.mkbool,?_⟩;simp only [Sem.run_bind,h2,Result.andThen,ZoK n1,h1,Sem.run_pure]
def Xf {α:Type}:∀(l:List α) (o:Nat) (vs:List α),(Yk l o vs).length=l.length
 | [],_,[]=>rfl
 | _::_,_,[]=>rfl
 | [],_,_::_=>rfl
 | _::l,0,_::vs=>by simp [Yk,Xf l 0 vs]
 | _::l,o+1,v::vs=>by simp [Yk,Xf l o (v::vs)]
theorem WC {α:Type}:∀(l:List α) (o:Nat) (vs:List α) (i:Nat),(Yk l o vs)[i]?=if o<=i/\i<o+vs.length/\i<l.length then vs[i - o]? else l[i]?
 | l,o,[],i=>by
  have:Yk l o []=l:=by cases l <;> rfl
  grind
 | [],o,v::vs,i=>by simp [Yk]
 | x::l,0,v::vs,i=>by
  cases i with
  | zero=>rfl
  | succ i =>
  have:=WC l 0 vs i;simp only [Yk,T3,this,Sa,true_and,Sk,Te,Nat.sub_zero]
  simp_all
 | x::l,o+1,v::vs,i=>by
  cases i with
  | zero=>rfl
  | succ i =>
  have:=WC l o (v::vs) i;simp only [Yk,T3,this,Te]
  grind
theorem ZbM (vs:Array Value) (off:Nat):∀(l:List Value) (j:Nat) (cs:Array Value),((l.zipIdx j).foldl (fun cs (p:Value×Nat)=>cs.setIfInBounds (off+p.2) p.1) cs).size=cs.size:=by
 intro l
 induction l with
 | nil=>simp_all
 | cons v l ih=>simp_all
theorem ZcY (off:Nat):∀(l:List Value) (j:Nat) (cs:Array Value) (i:Nat),
  ((l.zipIdx j).foldl (fun cs (p:Value×Nat)=>cs.setIfInBounds (off+p.2) p.1) cs)[i]?=if off+j<=i/\i<off+j+l.length/\i<cs.size then l[i - (off+j)]? else cs[i]?:=by
 intro l
 induction l with
 | nil=>intro j cs i;rw [Tf];rfl;grind
 | cons v l ih =>
 intro j cs i
 simp only [List.zipIdx_cons,List.foldl_cons]
 grind
theorem WZ {x:PV} {v:Value} {l:List PV} (h:VRel G e σ w x v) (hl:x.cells=some l):v.cells.size=l.length/\∀(i:Nat) (y:PV) (u:Value),l[i]?=some y->v.cells[i]?=some u->VRel G e σ w y u/\u.oneCell'=true:=by
 have plain:∀(x:PV) (v:Value),VRel G e σ w x v->v.oneCell'=true->x.cells=some [x]->v.cells=#[v]->x.cells=some l->v.cells.size=l.length/\∀(i:Nat) (y:PV) (u:Value),l[i]?=some y->v.cells[i]?=some u->VRel G e σ w y u/\u.oneCell'=true:=by
  grind
 cases h with
 | agg cs vs hs h h1 =>
  cases hl
  exact ⟨hs,fun i y u hy hu=>⟨h i y u hy hu,h1 u (Sb hu)⟩⟩
 | undef v=>cases hl
 | d x v h=>exact plain _ _ (.d _ _ h) h.one rfl (by cases h <;> rfl) hl
 | sl t el rows v hn hd ht=>exact plain _ _ (.sl _ _ _ _ hn hd ht) hd.one rfl (by cases hd <;> rfl) hl
 | ptr b off h=>exact plain _ _ (.ptr _ _ h) rfl rfl rfl hl
 | asl b off n h=>exact plain _ _ (.asl _ _ _ h) rfl rfl rfl hl
 | elem r off b o u hc ho hu=>exact plain _ _ (.elem _ _ _ _ u hc ho hu) rfl rfl rfl hl
 | nils el=>exact plain _ _ (.nils _) rfl rfl rfl hl
 | func f a c va vc ha hc h1 h2=>exact plain _ _ (.func _ _ _ _ _ ha hc h1 h2) rfl rfl rfl hl
 | iface t x v h=>exact plain _ _ (.iface _ _ _ h) rfl rfl rfl hl
 | tuple cs vs hs h=>cases hl
 | raw v =>
  cases v with
  | func f a c=>exact plain _ _ (.raw _) rfl rfl rfl hl
  | _=>cases hl
 | mp b h=>exact plain _ _ (.mp _ h) rfl rfl rfl hl
 | nilm=>exact plain _ _ .nilm rfl rfl rfl hl
def ZoL (off:Nat) (vs cells:Array Value):Array.foldl (fun cs (x:Value×Nat)=>cs.setIfInBounds (off+x.2) x.1) vs cells.zipIdx=List.foldl (fun cs (x:Value×Nat)=>cs.setIfInBounds (off+x.2) x.1) vs (cells.toList.zipIdx 0):=by
 rw [<- Array.foldl_toList,Array.toList_zipIdx]
def FieldsOK.length {P:Program} {l:List (Nat×Nat)} {m:List Field} (h:FieldsOK P l m):m.length=l.length:=by
 induction h with
 | nil=>rfl
 | cons _ _ _ _ _ _ _ _ _ _ _ ih=>simp [ih]
theorem Za1 {T:Tab} (hT:TabOK T G.P) {fs:List (Nat×Nat)} {gs:List Field} (hf:FieldsOK G.P fs gs) {ρ:Operand->PV} {ρ':Operand->Value} (hρ:∀x,VRel G e σ w (ρ x) (ρ' x)) {K:List PV->Prop}
  (places:Nat->Option (Nat×Nat)) (hp:∀i f j,gs[i]?=some f->G.P.info? f.type=some j->places i=some (f.offset,j.size)) :
  ∀(ps:List (Nat×Operand)) (cs:List PV) (vs:Array Value),vs.size=cs.length->(∀(i:Nat) (x:PV) (u:Value),cs[i]?=some x->vs[i]?=some u->VRel G e σ w x u/\u.oneCell'=true) ->
   Yx T fs ρ ps cs K->∃cs' vs',K cs'/\Instr.fill places vs (ps.map fun p=>(p.1,ρ' p.2))=some vs'/\vs'.size=cs'.length/\(∀(i:Nat) (x:PV) (u:Value),cs'[i]?=some x->vs'[i]?=some u->VRel G e σ w x u/\u.oneCell'=true)
 | [],cs,vs,hs,hr,h=>⟨cs,vs,h,rfl,hs,hr⟩
 | (i,x)::ps,cs,vs,hs,hr,h=>by
  simp only [Yx] at h;split at h
  ·rename_i o t l sb hl
   split at h
   ·grind
   ·rename_i h1 h2 hk
    obtain ⟨f,j,hg,ho,ht,hi,hj⟩:=hf.get sb;obtain ⟨i2,d,z,ab,hd,fx,eg,aq,hz,co,_⟩:=(hT.get (t:=t) (fun h0=>hk h0)).ex;rw [hi] at ab;cases ab;have e1:=Tt h1;have e2:=Tc h2;obtain ⟨dv,bj⟩:=WZ (hρ x) hl;have ec:=hp i f j hg (by simp_all);simp only [Tz,Instr.fill,ec];have hsz:(ρ' x).cells.size=j.size:=oM;rw [Tf (by simp_all)];refine Za1 hT hf hρ places hp ps _ _ ?_ ?_ h
    ·rw [Xf,<- hs];rw [ZoL];exact ZbM vs f.offset (ρ' x).cells.toList 0 vs
    intro k y u hy hu
    rw [WC] at hy;have hu':(((ρ' x).cells.toList.zipIdx 0).foldl (fun cs (p:Value×Nat)=>cs.setIfInBounds (f.offset+p.2) p.1) vs)[k]?=some u:=by
     rw [<- ZoL];exact hu
    rw [ZcY] at hu'
    grind
   simp_all
  simp_all
theorem ZGz {rows:List (List D)} {v:Value} (h:DRel (okc e σ) w (.sl rows) v) {n:Nat} {r:List D} (hr:rows[n]?=some r) :
  ∃(b off cap:Nat) (u:Nat->Value),v=.slice (some ⟨b,off,none⟩) rows.length cap/\n<rows.length/\(∀j,j<r.length->w.cell? ⟨b,off+n * r.length+j,none⟩=some (u j))/\(∀j,j<r.length->okc e σ b (off+n * r.length+j)) /\
   ∀(j:Nat) (x:D),r[j]?=some x->DRel (okc e σ) w x (u j):=by
 cases h with
 | slnil=>simp at hr
 | slz a=>simp at hr
 | sl rows b off cap sz u hcap hsz hc ho hu =>
 have hn:=(To.1 hr).1;have hlen:r.length=sz:=hsz r (T1 hr);refine ⟨b,off,cap,u n,rfl,hn,fun j hj=>?_,fun j hj=>?_,fun j x hx=>hu n j x (by simp_all)⟩
 ·simp_all
 simp_all
def XD (P:Program) (k:IntKind) (n:Int) (w:World):(asIntOf (.int k n)).run P w=.ok (k,n) w:=rfl
def UG (P:Program) (k:IntKind) (n:Int) (y:Nat) (c:BoundsCode) (w:World) (h0:0<=n) (h:n<=y):(Instr.sliceBound (.int k n) y c).run P w=.ok n.toNat w:=by
 simp [Instr.sliceBound,XD,h0,h]
theorem Je {P:Program} {lo hi:Option PV} {vlo vhi:Option Value} (isS:Bool) {len cap:Nat} (hcap:len<=cap) (j7:∀v,vlo=some v->∃x,lo=some x/\VRel G e σ w x v) (wu:vlo=none->lo=none)
  (qn:∀v,vhi=some v->∃x,hi=some x/\VRel G e σ w x v) (ph:vhi=none->hi=none) {K:Nat->Nat->Prop} (h:Vp lo hi len K) :
  ∃l u,K l u/\l<=u/\u<=len/\(Instr.sliceBounds isS len cap vlo vhi none).run P w=.ok (l,u,cap) w:=by
 unfold Vp at h
 cases vlo with
 | none =>
  rw [wu rfl] at h
  cases vhi with
  | none =>
   rw [ph rfl] at h;exact ⟨0,len,h,Sa _,Tr _,by rfl⟩
  | some v =>
  obtain ⟨x,hx,hr⟩:=qn v rfl;rw [hx] at h;simp only at h;split at h
  ·cases hr.dint
   refine ⟨0,_,h.2.2,Sa _,oM,?_⟩;simp only [Instr.sliceBounds,Sem.run_bind,Sem.run_pure,Result.andThen];rw [UG P _ _ cap _ w h.1 oM]
  simp_all
 | some v =>
 obtain ⟨x,hx,hr⟩:=j7 v rfl;rw [hx] at h
 cases vhi with
 | none =>
  rw [ph rfl] at h;simp only at h;split at h
  ·cases hr.dint
   refine ⟨_,len,h.2.2,oM,Tr _,?_⟩;simp only [Instr.sliceBounds,Sem.run_bind,Sem.run_pure,Result.andThen];rw [UG P _ _ len _ w h.1 h.2.1]
  simp_all
 | some v2 =>
 obtain ⟨y,hy,ef⟩:=qn v2 rfl;rw [hy] at h;simp only at h;split at h
 ·cases hr.dint;cases ef.dint
  refine ⟨_,_,h.2.2.2,oM,oM,?_⟩;simp only [Instr.sliceBounds,Sem.run_bind,Sem.run_pure,Result.andThen];rw [UG P _ _ cap _ w oM oM];simp only [];rw [UG P _ _ _ _ w h.1 oM]
 simp_all
end
end Go.PM
end

section
namespace Go.PM
section
variable {G:GE} {e:Env} {σ:St} {w:World} {T:Tab}
def KindOK.slice {P:Program} {e:Nat} {d:TypeDesc} (h:KindOK P (.slice e) d):d=.slice e:=h
theorem Zst {rows:List (List D)} {v:Value} {a b sz:Nat} (h:DRel (okc e σ) w (.sl rows) v) (hsz:∀r∈rows,r.length=sz) (uz:a<=b) (hb:b<=rows.length) :
  ∃ad cap,v=.slice ad rows.length cap/\rows.length<=cap/\DRel (okc e σ) w (.sl (cut rows a b)) (.slice (if cap=a then ad else ad.map (·.add (a * sz))) (b - a) (cap - a)):=by
 have hlen:(cut rows a b).length=b - a:=by simp [cut];omega
 cases h with
 | slnil =>
  refine ⟨none,0,rfl,Tr _,?_⟩;have h1:b=0:=by simp_all
  have h2:a=0:=oM;subst h1;subst h2;exact .slnil
 | slz ad =>
  refine ⟨some ad,0,rfl,Tr _,?_⟩;have h1:b=0:=by simp_all
  have h2:a=0:=oM;subst h1;subst h2;exact .slz ad
 | sl rows bk off cap sz' u hcap j8 hc ho hu =>
 refine ⟨some ⟨bk,off,none⟩,cap,rfl,hcap,?_⟩
 by_cases hr:rows=[]
 ·subst hr;have h1:b=0:=by simp_all
  have h2:a=0:=oM;subst h1;subst h2;have hh:DRel (okc e σ) w (.sl (cut ([]:List (List D)) 0 0)) (.slice (some ⟨bk,off,none⟩) ([]:List (List D)).length cap):=.sl [] bk off cap sz' u (Sa _) (fun r h=>by cases h) (fun i j h=>by cases h) (fun i j h=>by cases h) (fun i j x h=>by simp at h);split
  ·exact hh
  simpa [Yb] using hh
 have wv:sz'=sz:=by
  cases rows with
  | nil=>simp_all
  | cons r l=>simp_all
 subst wv;have hg:∀i,i<b - a->(cut rows a b)[i]?=rows[a+i]?:=fun i hi=>by
  simp only [cut,List.getElem?_drop,List.getElem?_take]
  grind
 have main:DRel (okc e σ) w (.sl (cut rows a b)) (.slice (some ⟨bk,off+a * sz',none⟩) (cut rows a b).length (cap - a)):=by
  refine .sl _ bk (off+a * sz') (cap - a) sz' (fun i j=>u (a+i) j) oM (fun r hr=>j8 r (List.mem_of_mem_take (List.mem_of_mem_drop hr))) ?_ ?_ ?_
  ·grind
  ·grind
  grind
 rw [hlen] at main;split
 ·rename_i hca
  have hba:b=a:=oM;subst hba;have:cut rows b b=[]:=by simp [cut]
  rw [this,Nat.sub_self];exact .sl [] bk off (cap - b) sz' u (Sa _) (fun r h=>by cases h) (fun i j h=>by cases h) (fun i j h=>by cases h) (fun i j x h=>by simp at h)
 simpa [Yb] using main
theorem V9 {ρ:Operand->PV} {ρ':Operand->Value} (hρ:∀x,VRel G e σ w (ρ x) (ρ' x)) (lo:Option Operand):(∀v,lo.map ρ'=some v->∃x,lo.map ρ=some x/\VRel G e σ w x v)/\(lo.map ρ'=none->lo.map ρ=none):=by
 cases lo with
 | none=>simp_all
 | some x=>simp_all
theorem ZjP (hT:TabOK T G.P) {K:PV->Prop} {t:TypeId} {px:PV} {vx:Value} (hx:VRel G e σ w px vx) {ρ:Operand->PV} {ρ':Operand->Value} (hρ:∀x,VRel G e σ w (ρ x) (ρ' x)) {lo hi:Option Operand}
  (h:Ja T t px (lo.map ρ) (hi.map ρ) K):∃pv u,K pv/\VRel G e σ w pv u/\(Instr.sliceAt t vx (lo.map ρ') (hi.map ρ') none).run G.P w=.ok u w:=by
 unfold Ja at h
 split at h
 ·rename_i hk
  obtain ⟨i,d,z,gk,hd,hs,eg,aq,hz,co,_⟩:=(hT.get (t:=t) (by grind)).ex;rw [hk] at aq;cases aq;split at h
  ·rename_i s
   cases hx.dstr
   obtain ⟨l,u,hK,hlu,z4,aj⟩:=Je (G:=G) (e:=e) (σ:=σ) (w:=w) (P:=G.P) false (Tr s.length) (V9 hρ lo).1 (V9 hρ lo).2 (V9 hρ hi).1 (V9 hρ hi).2 h;refine ⟨_,_,hK,.mkstr,?_⟩;have hsz:(⟨s.toArray⟩:ByteArray).size=s.length:=rfl;simp only [Instr.sliceAt,Instr.slice,Sem.run_bind,Za hd,Result.andThen,Option.isSome_none,Tv,if_false,hsz,aj,Sem.run_pure]
   congr 2
   apply ByteArray.ext
   apply Array.ext'
   simp [cut,ByteArray.data_extract,List.drop_take]
  simp_all
 ·rename_i el hk
  split at h
  ·grind
  rename_i bw
  split at h
  ·rename_i rows bu
   obtain ⟨i,d,z,gk,hd,hs,eg,aq,hz,co,_⟩:=(hT.get (t:=t) (by grind)).ex;rw [hk] at aq;cases aq;have hD:=Wd bu hx;obtain ⟨hsz,h⟩:=h;obtain ⟨ad,cap,rfl,hcap⟩:=hD.sl_inv;obtain ⟨l,u,hK,hlu,z4,aj⟩:=Je (G:=G) (e:=e) (σ:=σ) (w:=w) (P:=G.P) true hcap (V9 hρ lo).1 (V9 hρ lo).2 (V9 hρ hi).1 (V9 hρ hi).2 h;obtain ⟨ad',cap',hv,_,hR⟩:=Zst hD hsz hlu z4
   cases hv
   obtain ⟨i2,d2,z2,ab,cg,fx,_,_,_,_,_⟩:=(hT.get (t:=el) (fun h0=>bw h0)).ex;refine ⟨_,_,hK,.d _ _ hR,?_⟩;simp only [Instr.sliceAt,Instr.slice,Sem.run_bind,Za hd,Result.andThen,aj,Zt ab,Sem.run_pure,fx]
  simp_all
 ·rename_i n el hk
  split at h
  ·grind
  rename_i bw
  obtain ⟨i2,d2,z2,ab,cg,fx,_,_,_,_,_⟩:=(hT.get (t:=el) (fun h0=>bw h0)).ex;obtain ⟨i,d,z,gk,hd,hs,eg,aq,hz,co,_⟩:=(hT.get (t:=t) (by grind)).ex;rw [hk] at aq;cases aq;split at h
  ·rename_i b off j7 qn
   cases hx with
   | ptr _ _ hb =>
   have e1:lo=none:=by simp_all
   have e2:hi=none:=by simp_all
   subst e1;subst e2;refine ⟨_,_,h,.asl b off n hb,?_⟩;simp only [Instr.sliceAt,Instr.sureAddr,Instr.sliceBounds,Option.map_none,Sem.run_bind,Za hd,Result.andThen,Sem.run_pure,Zt ab]
   by_cases hn:n=0
   ·simp_all
   simp [hn,Yb]
  ·rename_i b off kk a j7 qn
   obtain ⟨ld,han,hK⟩:=h
   cases hx with
   | ptr _ _ hb =>
   have e2:hi=none:=by simp_all
   subst e2
   cases lo with
   | none=>grind
   | some x0 =>
   have i7:=hρ x0;simp only [TY,Option.some.injEq] at j7;rw [j7] at i7;refine ⟨_,_,hK,.asl b _ _ hb,?_⟩;have am:a<=(n:Int):=oM;have ai:¬n=a.toNat:=oM;simp [Instr.sliceAt,Instr.sureAddr,Instr.sliceBounds,Instr.sliceBound,asIntOf,i7.dint,Sem.run_bind,Za hd,Result.andThen,Sem.run_pure,Zt ab,ld,am,ai,fx,Yb]
  simp_all
 simp_all
theorem Jv:∀(l acc:List UInt8),(l.map (fun b:UInt8=>(b.toNat:Int))).foldl (fun r n=>r.push (UInt8.ofNat n.toNat)) (⟨acc.toArray⟩:ByteArray)=⟨(acc++l).toArray⟩
 | [],acc=>sM
 | b::l,acc=>by
  simp only [Tz,List.foldl_cons,Th,UInt8.ofNat_toNat];have:(⟨acc.toArray⟩:ByteArray).push b=⟨(acc++[b]).toArray⟩:=by
   apply ByteArray.ext;simp_all
  rw [this,Jv l (acc++[b])];simp
theorem ZjQ {l:List UInt8} {v:Value} (h:DRel (okc e σ) w (.sl (l.map (fun b=>[.int .u8 b.toNat]))) v):(Conv.bytesToString v).run G.P w=.ok (.string ⟨l.toArray⟩) w:=by
 generalize hr:l.map (fun b:UInt8=>[D.int .u8 b.toNat])=rows at h
 cases h with
 | slnil =>
  have:l=[]:=by simp_all
  subst this;rfl
 | slz ad =>
  have:l=[]:=by simp_all
  subst this;rfl
 | sl rows b off cap sz u hcap hsz hc ho hu =>
 subst hr;have hl:=run_bytesToString (P:=G.P) w ⟨b,off,none⟩ (l.map (fun b=>[D.int .u8 b.toNat])).length cap (l.map (fun b:UInt8=>(b.toNat:Int))) ?_
 ·rw [hl]
  congr 2
  exact (Jv l []).trans sM
 have:=run_loadCells_list (P:=G.P) w ⟨b,off,none⟩ ((l.map (fun b:UInt8=>(b.toNat:Int))).map (Value.int .u8)) (fun j x hx=>?_)
 ·simp_all
 rw [Yb];simp only [Sj,Ti] at hx
 cases hj:l[j]? with
 | none=>simp_all
 | some y =>
 rw [hj] at hx
 cases hx
 have pa:=(To.1 hj).1;have h1:(l.map (fun b:UInt8=>[D.int .u8 b.toNat]))[j]?=some [.int .u8 y.toNat]:=by simp_all
 have li:sz=1:=(hsz _ (T1 h1)).symm;subst li;have h2:=hc j 0 (by simp_all) oM;have h3:=hu j 0 (.int .u8 y.toNat) (by grind)
 cases h3v:u j 0 <;> rw [h3v] at h3 <;> cases h3
 simp_all
theorem Zic {α:Type}:∀{n:Nat} {l r:List α},U2 n l=some r->∀(j:Nat) (x:α),r[j]?=some x->l[j]?=some x
 | 0,l,r,h,j,x,hx=>by simp only [U2] at h;simp_all
 | n+1,[],r,h,j,x,hx=>by trivial
 | n+1,y::l,r,h,j,x,hx=>by
  simp only [U2] at h;split at h
  ·rename_i r' nw
   cases h
   cases j with
   | zero=>simp_all
   | succ j=>simp only [T3] at hx |-;exact Zic nw j x hx
  cases h
theorem ZoM {b off n:Nat} {tb:TypeId} {cs:List PV} {l:List UInt8} (hb:BRel G e σ w (.cells tb cs) (e.β b)) (cq:U2 n (cs.drop off)=some (l.map fun b=>.d (.int .u8 b.toNat))) (hln:l.length=n) :
  (Conv.bytesToString (.slice (some ⟨e.β b,off,none⟩) n n)).run G.P w=.ok (.string ⟨l.toArray⟩) w:=by
 obtain ⟨vs,mh,pi,ww⟩:=hb;have hl:=run_bytesToString (P:=G.P) w ⟨e.β b,off,none⟩ n n (l.map (fun b:UInt8=>(b.toNat:Int))) ?_
 ·rw [hl]
  congr 2
  exact (Jv l []).trans sM
 have:=run_loadCells_list (P:=G.P) w ⟨e.β b,off,none⟩ ((l.map (fun b:UInt8=>(b.toNat:Int))).map (Value.int .u8)) (fun j x hx=>?_)
 ·simp_all
 rw [Yb];simp only [Sj,Ti] at hx
 cases hj:l[j]? with
 | none=>simp_all
 | some y =>
 rw [hj] at hx
 cases hx
 have h1:=Zic cq j (.d (.int .u8 y.toNat)) (by simp_all);rw [List.getElem?_drop] at h1;have aa:off+j<vs.size:=by
  grind
 have hvj:=TM aa;have h2:=(ww (off+j) _ _ h1 hvj).1;have h3:=h2.dint;simp only [World.cell?,mh,hvj,h3];rfl
def MRel (G:GE) (e:Env) (σ:St) (w:World):List PV->List MapEntry->Prop
 | [],[]=>True
 | .d (.str k)::x::cs,u::l=>u.key=.string ⟨k.toArray⟩/\VRel G e σ w x u.val/\MRel G e σ w cs l
 | _,_=>False
theorem MRel.of {G:GE} {e:Env} {σ:St} {w:World}:∀{cs:List PV} {l:List MapEntry},cs.length=2 * l.length->(∀(i:Nat) (u:MapEntry),l[i]?=some u->∃k x,cs[2 * i]?=some (.d (.str k))/\cs[2 * i+1]?=some x/\u.key=.string ⟨k.toArray⟩/\VRel G e σ w x u.val)->MRel G e σ w cs l
 | [],[],_,_=>trivial
 | [],_::_,h,_=>by simp at h
 | _::_,[],h,_=>by simp at h
 | [_],_::_,h,_=>by grind
 | a::x::cs,u::l,hl,h=>by
  obtain ⟨k,x',h1,h2,h3,h4⟩:=h 0 u rfl;simp only [Nat.mul_zero,Sk,List.getElem?_cons_zero,T3,Option.some.injEq] at h1 h2;subst h1;subst h2;refine ⟨h3,h4,MRel.of (by grind) fun i u hu=>?_⟩;obtain ⟨k,x',g1,g2,g3,g4⟩:=h (i+1) u (by simp_all)
  grind
theorem MRel.to {G:GE} {e:Env} {σ:St} {w:World}:∀{cs:List PV} {l:List MapEntry},MRel G e σ w cs l->cs.length=2 * l.length/\∀(i:Nat) (u:MapEntry),l[i]?=some u->∃k x,cs[2 * i]?=some (.d (.str k))/\cs[2 * i+1]?=some x/\u.key=.string ⟨k.toArray⟩/\VRel G e σ w x u.val
 | [],[],_=>⟨rfl,fun i u h=>by simp at h⟩
 | [],_::_,h=>h.elim
 | .d (.str k)::x::cs,u::l,h=>by
  obtain ⟨h1,h2,h3⟩:=h;obtain ⟨g1,g2⟩:=MRel.to h3
  grind
 | .d (.str _)::_::_,[],h=>h.elim
 | [.d (.str _)],_,h=>by cases h
theorem Zll {a b:List UInt8}:((⟨a.toArray⟩:ByteArray) == ⟨b.toArray⟩)=decide (a=b):=by
 rw [show ((⟨a.toArray⟩:ByteArray) == ⟨b.toArray⟩)=(a.toArray == b.toArray) from rfl,Bool.eq_iff_iff,beq_iff_eq,decide_eq_true_iff]
 simp_all
theorem Y9 {G:GE} {e:Env} {σ:St} {w:World} {key:List UInt8}:∀{cs:List PV} {l:List MapEntry} {n:Nat},MRel G e σ w cs l ->
  (∃x v j,findM key cs=some x/\Instr.findNow .string (.string ⟨key.toArray⟩) l n=some (some (j,v))/\VRel G e σ w x v/\n<=j/\j - n<l.length /\
   (∀u u',VRel G e σ w u u'->∃cs',ZmU key u cs=some cs'/\MRel G e σ w cs' (l.modify (j - n) fun en=>{ en with key:=.string ⟨key.toArray⟩,val:=u' }))/\∃en,l[j - n]?=some en/\en.key=.string ⟨key.toArray⟩) \/
  (findM key cs=none/\Instr.findNow .string (.string ⟨key.toArray⟩) l n=some none/\∀u,ZmU key u cs=none)
 | [],[],n,_=>.inr ⟨rfl,rfl,fun _=>rfl⟩
 | [],_::_,_,h=>h.elim
 | .d (.str k)::x::cs,u::l,n,h=>by
  obtain ⟨h1,h2,h3⟩:=h;have hs:Instr.sameNow .string (.string ⟨key.toArray⟩) u.key=some (decide (key=k)):=by rw [h1];simp only [Instr.sameNow,Zll]
  simp only [findM,Instr.findNow,hs,ZmU]
  cases hd:decide (key=k) with
  | true =>
   have hk:=of_decide_eq_true hd;subst hk;refine .inl ⟨x,u.val,n,rfl,rfl,h2,Tr _,sM,fun v v' hv=>⟨_,rfl,?_⟩,u,sM,h1⟩;simp only [Nat.sub_self];trivial
  | false =>
  rcases Y9 (n:=n+1) h3 with ⟨y,v,j,g1,g2,g3,g4,g5,g6,en,g7,g8⟩ | ⟨g1,g2,g3⟩
  ·refine .inl ⟨y,v,j,g1,g2,g3,oM,by grind,fun v v' hv=>?_,en,?_,g8⟩
   ·obtain ⟨cs',q1,q2⟩:=g6 v v' hv;refine ⟨_,by rw [q1],?_⟩;rw [show j - n=(j - (n+1))+1 by omega];trivial
   grind
  simp_all
 | .d (.str _)::_::_,[],_,h=>h.elim
 | [.d (.str _)],_,_,h=>by cases h
def Jw {P:Program} {k:TypeId} (hk:P.underlying k=some .string) (b:Bool) (s:ByteArray) (w:World):(Instr.checkKey b 10000 k (.string s)).run P w=.ok () w:=by
 rw [show (10000:Nat)=9999+1 from rfl,Instr.checkKey];simp [Za hk]
def UH {P:Program} {k:TypeId} (hk:P.underlying k=some .string) {key:Value} {l:List MapEntry} {r:Option (Nat×Value)} (h:Instr.findNow .string key l 0=some r) (w:World):(Instr.findKey k key l).run P w=.ok r w:=by
 unfold Instr.findKey
 simp only [Sem.run_bind,Za hk,Result.andThen,h,Sem.run_pure]
theorem BRel.mrel {G:GE} {e:Env} {σ:St} {w:World} {cs:List PV} {bn:List Nat} {ck b:Nat} (h:BRel G e σ w (.map cs bn ck) b):∃es:Array MapEntry,w.heap[b]?=some (.map es ck)/\MRel G e σ w cs es.toList/\es.toList.map (·.born)=bn:=by
 obtain ⟨es,h1,h2,h3,h4⟩:=h;refine ⟨es,h1,MRel.of (by simp_all) fun i u hu=>?_,?_⟩
 ·simp_all
 apply List.ext_getElem?
 grind
theorem BRel.ofM {G:GE} {e:Env} {σ:St} {w:World} {cs:List PV} {bn:List Nat} {ck b:Nat} {es:Array MapEntry} (h1:w.heap[b]?=some (.map es ck)) (h2:MRel G e σ w cs es.toList) (h3:es.toList.map (·.born)=bn):BRel G e σ w (.map cs bn ck) b:=by
 obtain ⟨g1,g2⟩:=h2.to;have hl:es.size=bn.length:=by grind
 refine ⟨es,h1,hl,by simp_all,fun i u hu=>⟨?_,g2 i u (by simp_all)⟩⟩
 grind
theorem ZeO {P:Program} {t kt el:TypeId} (hd:P.underlying t=some (.map kt el)) (cn:P.underlying kt=some .string) {zv:Value} {w:World} (hz:(zeroValue el).run P w=.ok zv w) {ok:Bool} (s:ByteArray) :
  (Instr.lookup t (.map none) (.string s) ok).run P w=.ok (if ok then .tuple #[zv,.bool false] else zv) w:=by
 unfold Instr.lookup
 simp only [Sem.run_bind,Za hd,Result.andThen,Sem.run_pure];have h1:=Jw cn (#[]:Array MapEntry).isEmpty s w;have h2:=UH (P:=P) cn (key:=.string s) (l:=[]) (r:=none) rfl w
 simp_all
theorem YK {P:Program} {t kt el:TypeId} (hd:P.underlying t=some (.map kt el)) (cn:P.underlying kt=some .string) {zv:Value} {w:World} (hz:(zeroValue el).run P w=.ok zv w) {ok:Bool} {s:ByteArray} {r ck:Nat} {es:Array MapEntry} (ho:w.heap[r]?=some (.map es ck)) {q:Option (Nat×Value)} (hq:Instr.findNow .string (.string s) es.toList 0=some q) :
  (Instr.lookup t (.map (some r)) (.string s) ok).run P w=.ok (if ok then .tuple #[(match q with | some (_,v)=>v | none=>zv),.bool q.isSome] else (match q with | some (_,v)=>v | none=>zv)) w:=by
 unfold Instr.lookup
 have h0:(getObj r).run P w=.ok (.map es ck) w:=by simp only [getObj,Sem.run,ho]
 simp only [Sem.run_bind,Za hd,Result.andThen,h0,Sem.run_pure];have h1:=Jw cn es.isEmpty s w;have h2:=UH (P:=P) cn hq w
 cases q with
 | none=>simp_all
 | some p=>simp_all
def X6 {k:List UInt8}:∀m:List (List UInt8×MV),findM k (J6 m)=(lkM k m).map MV.pv
 | []=>rfl
 | (x,v)::l=>by
  simp only [J6,findM,lkM]
  cases decide (k=x) with
  | true=>rfl
  | false=>exact X6 l
theorem Zid {k:List UInt8} {y:MV}:∀m:List (List UInt8×MV),ZmU k y.pv (J6 m)=some (J6 (Z2 k y m))\/(ZmU k y.pv (J6 m)=none/\J6 (Z2 k y m)=J6 m++[.d (.str k),y.pv])
 | []=>.inr ⟨rfl,rfl⟩
 | (x,v)::l=>by
  simp only [J6,ZmU,Z2]
  cases decide (k=x) with
  | true=>exact .inl rfl
  | false =>
  rcases Zid (k:=k) (y:=y) l with h | ⟨h,h2⟩
  ·exact .inl (by simp only [h];rfl)
  exact .inr ⟨by grind,by simp only [J6,h2,T9]⟩
def J8:∀m:List (List UInt8×MV),(J6 m).length=2 * m.length
 | []=>rfl
 | (x,v)::l=>by simp only [J6,Te,J8 l];omega
def Vt {k:List UInt8}:∀m:List (List UInt8×List (List D)),findM k (V6 m none)=(lkM k m).map fun r=>.d (.sl r)
 | []=>rfl
 | (x,v)::l=>by
  simp only [V6,findM,lkM]
  cases decide (k=x) with
  | true=>rfl
  | false=>exact Vt l
theorem Jx {k:List UInt8} {v:PV}:∀m:List (List UInt8×List (List D)),findM k (V6 m (some (k,v)))=(lkM k m).map fun _=>v
 | []=>rfl
 | (x,r)::l=>by
  simp only [V6,findM,lkM,Zh3]
  by_cases h:k=x
  ·grind
  have h':¬x=k:=fun e=>h e.symm
  simp only [decide_eq_false h,decide_eq_false h'];exact Jx l
def BRel.of_smap {G:GE} {e:Env} {σ:St} {w:World} {el:Nat} {m:List (List UInt8×List (List D))} {fo:Option (List UInt8×PV)} {b:Nat} (h:BRel G e σ w (.smap el m fo) b):∃bn ck,BRel G e σ w (.map (V6 m fo) bn ck) b:=by
 obtain ⟨es,⟨bn,ck,h1,h2,h3,h4⟩,_⟩:=h;exact ⟨bn,ck,es,h1,h2,h3,h4⟩
def optK.ex {α:Type} {o:Option α} {A:α->Prop} {B:Prop} (h:optK o A B):(∃a,o=some a/\A a)\/(o=none/\B):=by
 cases o with
 | some a=>exact .inl ⟨a,rfl,h⟩
 | none=>exact .inr ⟨rfl,h⟩
theorem Zie {G:GE} {e:Env} {σ:St} {w:World} {T:Tab} (hT:TabOK T G.P) (hS:SRel G e σ w) {t:TypeId} {pm pk:PV} {vm vk:Value} {ok:Bool} {K:PV->Prop} (hm:VRel G e σ w pm vm) (hk:VRel G e σ w pk vk) (h:YD T t pm pk ok σ.bx K) :
  ∃pv v,K pv/\VRel G e σ w pv v/\(Instr.lookup t vm vk ok).run G.P w=.ok v w:=by
 unfold YD at h
 split at h
 ·rename_i kt el be
  obtain ⟨i,d,z0,hi,hd,_,_,aq,_⟩:=(hT.get (t:=t) (by simp_all)).ex;rw [be] at aq;obtain ⟨rfl,cn⟩:=aq;split at h
  ·grind
  rename_i heo
  split at h
  ·rename_i key
   cases hk.dstr
   split at h
   ·rename_i z hz
    obtain ⟨zv,jj,l7⟩:=Zm0 hT (fun he=>heo he) hz (e:=e) (σ:=σ) (w:=w);have tup:∀{x:PV} {v:Value} {b:Bool},VRel G e σ w x v->K (match (generalizing:=false) ok with | true=>.tuple [x,.d (.bool b)] | false=>x)->∃pv,K pv/\VRel G e σ w pv (if ok then .tuple #[v,.bool b] else v):=by
     intro x v b hx hK
     cases ok with
     | false=>grind
     | true =>
     refine ⟨_,hK,.tuple _ _ rfl fun i y u hy hu=>?_⟩
     match i,hy,hu with
     | 0,hy,hu=>simp_all
     | 1,hy,hu=>cases hy;cases hu;exact .mkbool
     | i+2,hy,hu=>simp at hy
    cases hm with
    | nilm =>
     obtain ⟨pv,hK,hr⟩:=tup jj h;exact ⟨pv,_,hK,hr,ZeO hd cn l7 _⟩
    | mp b hb =>
     simp only at h;split at h
     ·rename_i cs bn ck d8
      obtain ⟨es,g1,g2,_⟩:=(hS.box _ _ d8).mrel;rcases Y9 (n:=0) (key:=key) g2 with ⟨x,v,j,q1,q2,q3,_⟩ | ⟨q1,q2,_⟩
      ·rw [q1] at h;obtain ⟨pv,hK,hr⟩:=tup q3 h;exact mq100
      rw [q1] at h;obtain ⟨pv,hK,hr⟩:=tup jj h;exact mq100
     ·rename_i l d8
      obtain ⟨bn,ck,_,hB⟩:=(hS.box _ _ d8).of_dmap;obtain ⟨es,g1,g2,_⟩:=hB.mrel;rcases Y9 (n:=0) (key:=key) g2 with ⟨x,v,j,q1,q2,q3,_⟩ | ⟨q1,q2,_⟩
      ·rcases h.ex with ⟨a,ha,h⟩ | ⟨ha,h⟩
       ·rw [X6,ha] at q1
        cases q1
        obtain ⟨pv,hK,hr⟩:=tup q3 h;exact mq100
       rw [X6,ha] at q1
       cases q1
      rcases h.ex with ⟨a,ha,h⟩ | ⟨ha,h⟩
      ·rw [X6,ha] at q1
       cases q1
      obtain ⟨pv,hK,hr⟩:=tup jj h;exact mq100
     ·rename_i el2 l fo d8
      have pj:=hS.box _ _ d8;obtain ⟨bn,ck,hB⟩:=pj.of_smap;obtain ⟨es,g1,g2,_⟩:=hB.mrel;have qo:=Y9 (n:=0) (key:=key) g2;split at h
      ·rcases qo with ⟨x,v,j,q1,q2,q3,_⟩ | ⟨q1,q2,_⟩
       ·rcases h.ex with ⟨a,ha,h⟩ | ⟨ha,h⟩
        ·rw [Vt,ha] at q1
         cases q1
         obtain ⟨pv,hK,hr⟩:=tup q3 h;exact mq100
        rw [Vt,ha] at q1
        cases q1
       rcases h.ex with ⟨a,ha,h⟩ | ⟨ha,h⟩
       ·rw [Vt,ha] at q1
        cases q1
       obtain ⟨pv,hK,hr⟩:=tup jj h;exact mq100
      split at h
      ·obtain ⟨rfl,h⟩:=h;rcases qo with ⟨x,v,j,q1,q2,q3,_⟩ | ⟨q1,q2,_⟩
       ·rw [Jx] at q1;obtain ⟨_,_,rfl⟩:=TB.1 q1;exact ⟨_,_,h,q3,YK hd cn l7 g1 q2⟩
       rw [Jx,Option.map_eq_none_iff] at q1;obtain ⟨es',_,_,q4,_⟩:=pj;have:=q4 _ rfl q1;simp only at this;subst this
       cases jj
       exact ⟨_,_,h,.nils _,YK hd cn l7 g1 q2⟩
      simp_all
     simp_all
    | _=>grind
   simp_all
  simp_all
 simp_all
theorem ZoN (hT:TabOK T G.P) (hS:SRel G e σ w) {K:PV->Prop} {ρ:Operand->PV} {ρ':Operand->Value} (hρ:∀x,VRel G e σ w (ρ x) (ρ' x)) (o:Oper) (h:qop T o.op o.type ρ σ.bx K) :
  ∃pv v,K pv/\VRel G e σ w pv v/\(execOp ρ' o).run G.P w=.ok (.value v) w:=by
 have mv:∀x:Operand,(match ρ x with
  | .nils _=>match (T.get o.type).kind with | .slice e=>K (.nils e) | _=>K (.nils 0)
  | v=>K v)->∃pv,K pv/\VRel G e σ w pv (ρ' x):=by
  intro x hx
  have hr:=hρ x;split at hx
  ·rename_i el bl
   rw [bl] at hr;generalize ρ' x=v at hr |-
   cases hr
   split at hx
   ·exact ⟨_,hx,.nils _⟩
   exact ⟨_,hx,.nils _⟩
  grind
 unfold execOp
 unfold qop at h
 split at h
 ·rename_i x ho
  obtain ⟨pv,hK,hr⟩:=mv x h;exact ⟨pv,_,hK,hr,by simp_all⟩
 ·rename_i x ho
  obtain ⟨pv,hK,hr⟩:=mv x h;exact ⟨pv,_,hK,hr,by simp_all⟩
 ·rename_i c a b ho
  have hc:=hρ c;split at h
  ·rename_i t bl
   rw [bl] at hc;have z6:=hc.dbool
   cases t with
   | true=>exact ⟨_,_,h,hρ a,by simp [ho,z6,asBool]⟩
   | false=>exact ⟨_,_,h,hρ b,by simp [ho,z6,asBool]⟩
  simp_all
 ·rename_i t ps ho
  split at h
  ·rename_i fs hk
   obtain ⟨i,d,z,hi,hd,hs,eg,aq,hz,co,_⟩:=(hT.get (t:=t) (by grind)).ex;rw [hk] at aq;obtain ⟨gs,rfl,hf⟩:=aq;obtain ⟨nu,jj⟩:=XC (G:=G) (e:=e) (σ:=σ) (w:=w) co;have pn:∀(l:List Field) (m:List (Nat×Nat)),FieldsOK G.P m l->∃pl:List (Nat×Nat),(l.mapM fun f=>(do pure (f.offset,<- sizeOf f.type):Sem (Nat×Nat))).run G.P w=.ok pl w/\∀(i:Nat) (f:Field) (j:TypeInfo),l[i]?=some f->G.P.info? f.type=some j->pl[i]?=some (f.offset,j.size):=by
    intro l m hm
    induction hm with
    | nil=>simp_all
    | cons o t l f m i' ho ht gk o9 _ ih =>
    obtain ⟨pl,h1,h2⟩:=ih;have ny:G.P.info? f.type=some i':=by simp_all
    refine ⟨(f.offset,i'.size)::pl,?_,fun k g j hg hj=>?_⟩
    ·simp only [List.mapM_cons,Sem.run_bind,Zt ny,Result.andThen,Sem.run_pure,h1]
    grind
   obtain ⟨pl,afp,aa7⟩:=pn gs.toList fs hf;obtain ⟨cs',vs',hK,wx,o9,nw⟩:=Za1 hT hf hρ (fun i=>pl[i]?) aa7 ps.toList (T.get t).zero z.cells oM (fun i x u hx hu=>jj i x u hx (by simp_all)) h;refine ⟨_,_,hK,.agg _ vs' o9 (fun i x u hx hu=>(nw i x u hx hu).1) (fun u hu=>?_),?_⟩
   ·obtain ⟨i,gk,hiu⟩:=Sy hu;have aa:i<cs'.length:=oM;exact (nw i _ u (Tb aa) (by simp_all)).2
   have hm:(gs.mapM fun f=>(do pure (f.offset,<- sizeOf f.type):Sem (Nat×Nat))).run G.P w=.ok pl.toArray w:=by
    rw [Array.mapM_eq_mapM_toList]
    simp_all
   simp only [ho,Instr.build,zeroValue,Sem.run_bind,Ya hi,Result.andThen,hz,Sem.run_pure,Za hd]
   simp_all
  ·rename_i n el hk
   obtain ⟨i,d,z,hi,hd,hs,eg,aq,hz,co,_⟩:=(hT.get (t:=t) (by grind)).ex;rw [hk] at aq
   cases aq
   split at h
   ·grind
   rename_i bw
   split at h
   ·rename_i bv
    have bv:=Tc bv;obtain ⟨ie,de,ze,u7,hde,hse,_⟩:=(hT.get (t:=el) (fun h0=>bw h0)).ex;obtain ⟨nu,jj⟩:=XC (G:=G) (e:=e) (σ:=σ) (w:=w) co;have hgs:∀m i0,FieldsOK G.P (ZvY (T.get el).size el m i0) ((List.range' i0 m).map fun k=>({ (default:Field) with type:=el,offset:=k * (T.get el).size }:Field)):=by
     intro m
     induction m with
     | zero=>exact fun _=>.nil
     | succ m ih=>exact fun i0=>.cons _ _ _ _ _ ie rfl rfl u7 oM (ih (i0+1))
    have ec:∀(i:Nat) (f:Field) (j:TypeInfo),((List.range' 0 n).map fun k=>({ (default:Field) with type:=el,offset:=k * (T.get el).size }:Field))[i]?=some f->G.P.info? f.type=some j->(fun i=>some (i * ie.size,ie.size)) i=some (f.offset,j.size):=by
     grind
    obtain ⟨cs',vs',hK,wx,o9,nw⟩:=Za1 hT (hgs n 0) hρ (fun i=>some (i * ie.size,ie.size)) ec ps.toList (T.get t).zero z.cells oM (fun i x u hx hu=>jj i x u hx (by simp_all)) h;refine ⟨_,_,hK,.agg _ vs' o9 (fun i x u hx hu=>(nw i x u hx hu).1) (fun u hu=>?_),?_⟩
    ·obtain ⟨i,gk,hiu⟩:=Sy hu;have aa:i<cs'.length:=oM;exact (nw i _ u (Tb aa) (by simp_all)).2
    simp only [ho,Instr.build,zeroValue,Sem.run_bind,Ya hi,Result.andThen,hz,Sem.run_pure,Za hd,Zt u7]
    simp_all
   simp_all
  simp_all
 ·rename_i t a ho
  obtain ⟨pv,u,hK,hr,aj⟩:=Zfn hT hS (hρ a) h;exact ⟨pv,u,hK,hr,by simp_all⟩
 ·rename_i t m x ok ho
  obtain ⟨pv,u,hK,hr,aj⟩:=Zie hT hS (hρ m) (hρ x) h;exact ⟨pv,u,hK,hr,by simp_all⟩
 ·rename_i x ho
  have hx:=hρ x;split at h
  ·rename_i b off bl;rw [bl] at hx
   exact mq118
  ·rename_i r off bl;rw [bl] at hx
   exact mq118
  ·rename_i g a c bl;rw [bl] at hx
   exact mq118
  simp_all
 ·rename_i op t x y yt ho
  obtain ⟨pv,u,hK,hr,aj⟩:=Zm2 hT (hρ x) (hρ y) h;exact ⟨pv,u,hK,hr,by simp only [ho];rw [Sem.run_bind,aj];rfl⟩
 ·rename_i op t x ho
  have hx:=hρ x;split at h
  ·rename_i b bl;rw [bl] at hx
   exact ⟨_,_,h,.mkbool,by simp [ho,hx.dbool,Op.unary]⟩
  ·rename_i k a bl;rw [bl] at hx
   obtain ⟨pv,h1,h2⟩:=Ju (G:=G) (e:=e) (σ:=σ) (w:=w) h;exact ⟨_,_,h1,h2,by simp [ho,hx.dint,Op.unary,Op.intArith]⟩
  ·rename_i k a bl;rw [bl] at hx
   exact ⟨_,_,h,.mkint,by simp [ho,hx.dint,Op.unary,J7]⟩
  simp_all
 ·rename_i s d x ho
  have hx:=hρ x;split at h
  ·grind
  ·rename_i el hk
   obtain ⟨i,ds,z,hi,hd,hs,eg,aq,hz,co,_⟩:=(hT.get (t:=s) (by grind)).ex;rw [hk] at aq;cases aq;split at h
   ·rename_i bw
    obtain ⟨i2,dd,z2,ab,cg,fx,i6,bf,co,sc,_⟩:=(hT.get (t:=d) (by simp_all)).ex;rw [bw] at bf;cases bf;split at h
    ·rename_i l8
     obtain ⟨i3,de,z3,hi3,nz,ni,wy,j9,z7,aa9,_⟩:=(hT.get (t:=el) (by simp_all)).ex;rw [l8] at j9;cases j9;split at h
     ·rename_i rows bu
      obtain ⟨l,rfl,hK⟩:=h;have hD:=Wd bu hx;have hb:=ZjQ (G:=G) hD;refine ⟨_,_,hK,.mkstr,?_⟩;obtain ⟨a,cap,hv,_⟩:=hD.sl_inv;simp only [ho,convert,Sem.run_bind,Za hd,Za cg,Result.andThen];rw [hv] at hb |-;simp only [Za nz,Sem.run_bind,Result.andThen,hb,Sem.run_pure]
     simp_all
    simp_all
   simp_all
  rename_i fi bw
  obtain ⟨i,ds,z,hi,hd,hs,eg,aq,hz,co,_⟩:=(hT.get (t:=s) (fun h0=>fi h0)).ex;split at h
  ·rename_i k iu
   obtain ⟨i2,dd,z2,ab,cg,fx,i6,bf,co,sc,_⟩:=(hT.get (t:=d) (by simp_all)).ex;rw [iu] at bf;cases bf;split at h
   ·rename_i k' n bl;rw [bl] at hx
    obtain ⟨pv,h1,h2⟩:=Ju (G:=G) (e:=e) (σ:=σ) (w:=w) h;refine ⟨_,_,h1,h2,?_⟩;simp only [ho,hx.dint,convert,Sem.run_bind,Za hd,Za cg,Result.andThen];rfl
   simp_all
  ·rename_i iu
   obtain ⟨i2,dd,z2,ab,cg,fx,i6,bf,co,sc,_⟩:=(hT.get (t:=d) (by simp_all)).ex;rw [iu] at bf;cases bf;split at h
   ·rename_i s' bl;rw [bl] at hx
    refine ⟨_,_,h,.mkstr,?_⟩;simp only [ho,hx.dstr,convert,Sem.run_bind,Za hd,Za cg,Result.andThen];rfl
   ·rename_i k' n bl;rw [bl] at hx
    refine ⟨_,_,h,.mkstr,?_⟩;simp only [ho,hx.dint,convert,Sem.run_bind,Za hd,Za cg,Result.andThen];rfl
   simp_all
  simp_all
 ·rename_i s x i ho
  have hx:=hρ x;split at h
  ·rename_i fs hk
   obtain ⟨ti,d,z,hi,hd,hs,eg,aq,hz,co,_⟩:=(hT.get (t:=s) (by grind)).ex;rw [hk] at aq;obtain ⟨gs,rfl,hf⟩:=aq;split at h
   ·rename_i off t sb
    obtain ⟨f,j,hg,cx,ht,hj,sd⟩:=hf.get sb;have po:gs[i]?=some f:=by simp_all
    have z8:∀(b oo:Nat),(fieldPlace ⟨b,oo,none⟩ f).run G.P w=.ok ⟨b,oo+off,none⟩ w:=fun b oo=>by
     exact mq137
    split at h
    ·rename_i b oo bl;rw [bl] at hx
     generalize hv:ρ' x=v at hx
     cases hx with
     | ptr b oo hb =>
     refine ⟨_,_,h,.ptr b (oo+off) hb,?_⟩;simp [ho,hv,Instr.fieldAt,Za hd,po,Instr.sureAddr,z8]
    ·rename_i r oo bl;rw [bl] at hx
     generalize hv:ρ' x=v at hx
     cases hx with
     | elem r oo b o2 u hc au hu =>
     refine ⟨_,_,h,.elem r (oo+off) b o2 u hc au hu,?_⟩;simp [ho,hv,Instr.fieldAt,Za hd,po,Instr.sureAddr,z8,Nat.add_assoc]
    simp_all
   simp_all
  simp_all
 ·rename_i s x i ho
  have hx:=hρ x;split at h
  ·rename_i fs hk
   obtain ⟨ti,d,z,hi,hd,hs,eg,aq,hz,co,_⟩:=(hT.get (t:=s) (by grind)).ex;rw [hk] at aq;obtain ⟨gs,rfl,hf⟩:=aq;split at h
   ·rename_i off t sb
    obtain ⟨f,j,hg,cx,ht,hj,sd⟩:=hf.get sb;have po:gs[i]?=some f:=by simp_all
    split at h
    ·rename_i cs bl;rw [bl] at hx
     generalize hv:ρ' x=v at hx
     cases hx with
     | agg cs vs hsz hr h1 =>
     split at h
     ·rename_i lc
      obtain ⟨i2,d2,z2,ab,cg,fx,_,bf,_,_,_⟩:=(hT.get (t:=t) (by intro h0;rw [h0] at lc;cases lc)).ex;split at h
      ·rename_i l hl
       obtain ⟨nv,wq⟩:=WY hl;have hb:∀k,k<l.length->off+k<vs.size/\cs[off+k]?=l[k]?:=fun k hk=>by
        grind
       refine ⟨_,.agg (vs.extract off (off+j.size)),h,.agg l _ ?_ ?_ ?_,?_⟩
       ·have se:j.size=l.length:=by simp_all
        exact mq143
       ·grind
       ·intro u hu
        obtain ⟨k,hk,rfl⟩:=Sy hu
        simp_all
       have mi:=UF bf cg w;rw [lc] at mi;subst ht;simp [ho,hv,Instr.field,Za hd,po,asAgg,part,mi,Zt hj,cx]
      simp_all
     rename_i lc
     split at h
     ·grind
     rename_i bw
     obtain ⟨i2,d2,z2,ab,cg,fx,_,bf,_,_,_⟩:=(hT.get (t:=t) (fun h0=>bw h0)).ex;split at h
     ·rename_i y hy
      have aa:off<vs.size:=by grind
      have qp:vs[off]?=some vs[off]:=TM aa;have mi:=UF bf cg w;rw [lc] at mi;subst ht;exact ⟨_,vs[off],h,hr off y _ hy qp,by simp [ho,hv,Instr.field,Za hd,po,asAgg,part,mi,cx,qp]⟩
     simp_all
    simp_all
   simp_all
  simp_all
 ·rename_i t x i ho
  have hx:=hρ x;have hi:=hρ i;split at h
  ·rename_i k n bl;rw [bl] at hi
   have si:=hi.dint;split at h
   ·rename_i hk
    obtain ⟨ti,d,z,nj,hd,hs,eg,aq,hz,co,_⟩:=(hT.get (t:=t) (by grind)).ex;rw [hk] at aq;cases aq;split at h
    ·rename_i s sj;rw [sj] at hx
     have hxv:=hx.dstr;obtain ⟨h0,h1,hK⟩:=h;have aa:n.toNat<s.length:=oM;have hb:(⟨s.toArray⟩:ByteArray)[n.toNat]?=some (s[n.toNat]):=by
      rw [getElem?_pos (h:=(by assumption))];rfl
     refine ⟨_,_,hK,.mkint,?_⟩;simp [ho,hxv,si,Instr.index,XD,Za hd,h0,hb,List.getD,Tb aa]
    simp_all
   ·rename_i m el hk
    obtain ⟨ti,d,z,nj,hd,hs,eg,aq,hz,co,_⟩:=(hT.get (t:=t) (by grind)).ex;rw [hk] at aq;cases aq;split at h
    ·rename_i cs sj;rw [sj] at hx
     generalize hv:ρ' x=v at hx
     cases hx with
     | agg cs vs hsz hr h1 =>
     split at h
     ·rename_i lc
      obtain ⟨i2,d2,z2,ab,cg,fx,_,bf,_,_,_⟩:=(hT.get (t:=el) (by intro h0;rw [h0] at lc;cases lc)).ex;split at h
      ·rename_i l hl
       obtain ⟨g0,g1,h⟩:=h;obtain ⟨nv,wq⟩:=WY hl;obtain ⟨off,ka⟩:∃off,off=n.toNat * (T.get el).size:=⟨_,rfl⟩
       rw [<- ka] at wq;have hb:∀k,k<l.length->off+k<vs.size/\cs[off+k]?=l[k]?:=fun k hk=>by
        grind
       refine ⟨_,.agg (vs.extract off (off+i2.size)),h,.agg l _ ?_ ?_ ?_,?_⟩
       ·have se:i2.size=l.length:=by omega
        exact mq143
       ·grind
       ·intro u hu
        obtain ⟨k,hk,rfl⟩:=Sy hu
        simp_all
       have mi:=UF bf cg w;rw [lc] at mi;simp [ho,hv,si,Instr.index,XD,Za hd,g0,g1,part,mi,Zt ab,ka,fx]
      simp_all
     rename_i lc
     split at h
     ·grind
     rename_i bw
     obtain ⟨i2,d2,z2,ab,cg,fx,_,bf,_,_,_⟩:=(hT.get (t:=el) (fun h0=>bw h0)).ex;split at h
     ·rename_i lj
      have li:=Tt lj;split at h
      ·rename_i y hy
       obtain ⟨h0,hm,hK⟩:=h;have aa:n.toNat<vs.size:=by grind
       have qp:vs[n.toNat]?=some vs[n.toNat]:=TM aa;have mi:=UF bf cg w;rw [lc] at mi;have hi1:i2.size=1:=oM;exact ⟨_,vs[n.toNat],hK,hr n.toNat y _ hy qp,by simp [ho,hv,si,Instr.index,XD,Za hd,h0,hm,part,mi,Zt ab,hi1,qp]⟩
      simp_all
     simp_all
    simp_all
   simp_all
  simp_all
 ·rename_i t x i ho
  have hx:=hρ x;have hi:=hρ i;split at h
  ·rename_i k n bl;rw [bl] at hi
   have si:=hi.dint;split at h
   ·rename_i el hk
    obtain ⟨ti,d,z,nj,hd,hs,eg,aq,hz,co,_⟩:=(hT.get (t:=t) (by grind)).ex;rw [hk] at aq;cases aq;split at h
    ·grind
    rename_i bw
    obtain ⟨i2,d2,z2,ab,cg,fx,_,bf,_,_,_⟩:=(hT.get (t:=el) (fun h0=>bw h0)).ex;split at h
    ·rename_i b off m n4
     obtain ⟨h0,pb,hK⟩:=h;rw [n4] at hx;generalize hv:ρ' x=vx at hx
     cases hx with
     | asl _ _ _ hb =>
     refine ⟨_,_,hK,.ptr b (off+n.toNat * (T.get el).size) hb,?_⟩;simp [ho,hv,si,Instr.indexAt,XD,Za hd,h0,pb,Zt ab,Yb,fx]
    split at h
    ·rename_i rows bu
     obtain ⟨r,h0,hr,hK⟩:=h;split at hK
     ·rename_i hlen
      have hl:=Tt hlen;obtain ⟨b,off,cap,u,hv,hn,hc,au,hu⟩:=ZGz (Wd bu hx) hr;refine ⟨_,_,hK,.elem r 0 b (off+n.toNat * r.length) u hc au hu,?_⟩;have pb:n<(rows.length:Int):=oM;simp [ho,hv,si,Instr.indexAt,XD,Za hd,h0,pb,Zt ab,Yb,fx,hl]
     simp_all
    simp_all
   ·rename_i m el hk
    obtain ⟨ti,d,z,nj,hd,hs,eg,aq,hz,co,_⟩:=(hT.get (t:=t) (by grind)).ex;rw [hk] at aq;cases aq;split at h
    ·grind
    rename_i bw
    obtain ⟨i2,d2,z2,ab,cg,fx,_,bf,_,_,_⟩:=(hT.get (t:=el) (fun h0=>bw h0)).ex;split at h
    ·rename_i b off n4
     obtain ⟨h0,pb,hK⟩:=h;rw [n4] at hx;generalize hv:ρ' x=vx at hx
     cases hx with
     | ptr _ _ hb =>
     refine ⟨_,_,hK,.ptr b (off+n.toNat * (T.get el).size) hb,?_⟩;simp [ho,hv,si,Instr.indexAt,Instr.sureAddr,XD,Za hd,h0,pb,Zt ab,Yb,fx]
    simp_all
   simp_all
  simp_all
 ·rename_i t x lo hi ho
  obtain ⟨pv,u,hK,hr,aj⟩:=ZjP hT (hρ x) hρ h;exact ⟨pv,u,hK,hr,by simp_all⟩
 ·rename_i x i ho
  have hx:=hρ x;split at h
  ·rename_i cs bl;rw [bl] at hx
   generalize hv:ρ' x=v at hx
   cases hx with
   | tuple cs vs hsz hr =>
   split at h
   ·rename_i y hy
    have aa:i<vs.size:=by grind
    have qp:vs[i]?=some vs[i]:=TM aa;exact ⟨_,vs[i],h,hr i y _ hy qp,by simp [ho,hv,Instr.extract,qp]⟩
   simp_all
  simp_all
 ·rename_i g a c ho
  refine ⟨_,_,h,.func g _ _ (a.map ρ') (c.map ρ') sM sM ?_ ?_,by simp [ho,Instr.makeFunc]⟩
  ·intro i x u hx hu
   rw [Ti] at hx;rw [Array.getElem?_map] at hu
   cases hq:a[i]? with
   | none=>rw [hq] at hu;cases hu
   | some q =>
   rw [hq] at hu;rw [TF,hq] at hx
   cases hx;cases hu;exact hρ q
  intro i x u hx hu
  rw [Ti] at hx;rw [Array.getElem?_map] at hu
  cases hq:c[i]? with
  | none=>rw [hq] at hu;cases hu
  | some q =>
  rw [hq] at hu;rw [TF,hq] at hx
  cases hx;cases hu;exact hρ q
 ·rename_i t x ho
  split at h
  ·exact h.elim
  ·exact h.elim
  rename_i fi bw
  obtain ⟨ti,d,z,nj,hd,hs,eg,aq,hz,co,_⟩:=(hT.get (t:=t) (fun h0=>bw h0)).ex;refine ⟨_,_,h,.iface t _ _ (hρ x),?_⟩;have:∀ms,d≠.interface ms:=fun ms h0=>by
   subst h0
   cases hk:(T.get t).kind <;> rw [hk] at aq <;> first | (cases aq.1;done) | (cases aq;done) | (exact fi hk) | (obtain ⟨_,h1,_⟩:=aq;simp_all) | (obtain ⟨_,_,_,h1⟩:=aq;cases h1;done)
  simp only [ho,Instr.makeInterface,Sem.run_bind,Za hd,Result.andThen]
  cases d <;> first | rfl | exact absurd rfl (this _)
 ·rename_i x xt t ho
  split at h
  ·exact h.elim
  ·exact h.elim
  rename_i fi bw
  obtain ⟨ti,d,z,nj,hd,hs,eg,aq,hz,co,_⟩:=(hT.get (t:=t) (fun h0=>bw h0)).ex;have this:∀ms,d≠.interface ms:=fun ms h0=>by
   subst h0
   cases hk:(T.get t).kind <;> rw [hk] at aq <;> first | (cases aq.1;done) | (cases aq;done) | (exact fi hk) | (obtain ⟨_,h1,_⟩:=aq;simp_all) | (obtain ⟨_,_,_,h1⟩:=aq;simp_all)
  have hx:=hρ x;split at h
  ·rename_i t' pv bl
   split at h
   ·rename_i hb
    cases Tt hb
    rw [bl] at hx;generalize hv:ρ' x=vv at hx
    cases hx with
    | iface _ _ u hu =>
    refine ⟨_,.tuple #[u,.bool true],h,.tuple _ _ rfl (fun i p q hp hq=>?_),?_⟩
    ·match i with
     | 0=>simp_all
     | 1=>cases hp;cases hq;exact .mkbool
     | n+2=>simp at hp
    simp only [ho,hv,Instr.typeAssert,Sem.run_bind,Za hd,Result.andThen];rfl
   simp_all
  simp_all
 ·rename_i b args argTypes ho
  have ac:∀vs,args.toList.map ρ=vs->∃us:List Value,(args.map ρ').toList=us/\us.length=vs.length/\∀(i:Nat) (x:PV) (u:Value),vs[i]?=some x->us[i]?=some u->VRel G e σ w x u:=fun vs bq=>by
   grind
  split at h
  ·rename_i t ts v hts bq
   obtain ⟨us,sk,hlen,hr⟩:=ac _ bq;have n5:argTypes[0]?=some t:=by rw [<- TF,hts];rfl
   cases us with
   | nil=>cases hlen
   | cons u us2 =>
   cases us2 with
   | cons _ _=>grind
   | nil =>
   have hu:=hr 0 v u rfl rfl;have ld:(args.map ρ')[0]?=some u:=by rw [<- TF,sk];rfl
   split at h
   ·rename_i hk
    obtain ⟨ti,d,z,nj,hd,hs,eg,aq,hz,co,_⟩:=(hT.get (t:=t) (by grind)).ex;rw [hk] at aq;cases aq;split at h
    ·rename_i s
     have sk:=hu.dstr;subst sk;exact mq50
    simp_all
   ·rename_i el hk
    obtain ⟨ti,d,z,nj,hd,hs,eg,aq,hz,co,_⟩:=(hT.get (t:=t) (by grind)).ex;rw [hk] at aq;cases aq;split at h
    ·rename_i b off m
     cases hu with
     | asl _ _ _ hb =>
     exact mq50
    split at h
    ·rename_i rows bu
     obtain ⟨a,cap,hv,_⟩:=(Wd bu hu).sl_inv;subst hv;exact mq50
    simp_all
   ·rename_i kt el hk
    obtain ⟨ti,d,z,nj,hd,hs,eg,aq,hz,co,_⟩:=(hT.get (t:=t) (by grind)).ex;rw [hk] at aq;obtain ⟨rfl,_⟩:=aq
    cases hu with
    | nilm =>
     exact mq50
    | mp b hb =>
     simp only at h;split at h
     ·rename_i cs bn ck d8
      obtain ⟨es,g1,g2,_⟩:=(hS.box _ _ d8).mrel;have hl:cs.length / 2=es.size:=by rw [g2.to.1];simp
      exact mq104
     ·rename_i l d8
      obtain ⟨bn,ck,_,hB⟩:=(hS.box _ _ d8).of_dmap;obtain ⟨es,g1,g2,_⟩:=hB.mrel;have hl:l.length=es.size:=by have q:=g2.to.1;rw [J8] at q;grind
      exact mq104
     simp_all
    | _=>grind
   simp_all
  ·rename_i k a k' b bq
   obtain ⟨us,sk,hlen,hr⟩:=ac _ bq;split at h
   ·rename_i iu
    cases ZcX iu
    match us,hlen with
    | [u1,u2],_ =>
     have h1:=(hr 0 _ u1 rfl rfl).dint;have h2:=(hr 1 _ u2 rfl rfl).dint;subst h1;subst h2;refine ⟨_,_,h,.mkint,?_⟩;simp only [ho,resolve,invoke,builtin,Sem.run_bind,Sem.run_pure,Result.andThen,Builtin.min_,sk];have:min a b=(if b<a then b else a):=oM;rw [this];rfl
   simp_all
  ·rename_i k a k' b bq
   obtain ⟨us,sk,hlen,hr⟩:=ac _ bq;split at h
   ·rename_i iu
    cases ZcX iu
    match us,hlen with
    | [u1,u2],_ =>
     have h1:=(hr 0 _ u1 rfl rfl).dint;have h2:=(hr 1 _ u2 rfl rfl).dint;subst h1;subst h2;refine ⟨_,_,h,.mkint,?_⟩;simp only [ho,resolve,invoke,builtin,Sem.run_bind,Sem.run_pure,Result.andThen,Builtin.max_,sk];have:max a b=(if b>a then b else a):=oM;rw [this];rfl
   simp_all
  simp_all
 simp_all
end
end Go.PM
end
