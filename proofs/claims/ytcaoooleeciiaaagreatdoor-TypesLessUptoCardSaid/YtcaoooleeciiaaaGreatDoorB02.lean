/- A part of the proof: plain logic, contracts and laws over the given program. -/
import Derived.RangeFuncRecord
import Derived.Deep.AppendSrc
import Derived.Deep.Upon
import Derived.Lib.OthersKept
import Derived.Lib.ConvBytes
import Derived.OrdersIn
import Derived.Test.YtcaoooleeciiaaaGreatDoorB01
set_option linter.unusedVariables false
set_option linter.unusedSimpArgs false
set_option linter.all false
set_option maxRecDepth 100000
set_option maxHeartbeats 16000000
section
namespace Go.PM
section
variable {G:GE} {e:Env} {σ:St} {w:World} {T:Tab}
structure Grows (w w1:World):Prop where
 os:w1.os=w.os
 tape:w1.tape=w.tape
 output:w1.output=w.output
 size:w.heap.size<=w1.heap.size
 old:∀b,b<w.heap.size->w1.heap[b]?=w.heap[b]?
def Grows.refl (w:World):Grows w w:=⟨rfl,rfl,rfl,Tw _,fun _ _=>rfl⟩
def Grows.trans {a b c:World} (h:Grows a b) (k:Grows b c):Grows a c :=
 ⟨k.os.trans h.os,k.tape.trans h.tape,k.output.trans h.output,Sc h.size k.size,fun i hi=>(k.old i (TG hi h.size)).trans (h.old i hi)⟩
def Grows.alloc (w:World) (o:Obj):Grows w (w.alloc o):=⟨rfl,rfl,rfl,by simp only [World.alloc,Array.size_push];omega,fun i hi=>heap_alloc_old w o i hi⟩
def Grows.drew (w:World):Grows w w.drew:=⟨rfl,rfl,rfl,Tw _,fun _ _=>rfl⟩
def Grows.cell {w w1:World} (h:Grows w w1) {b off:Nat} (hb:b<w.heap.size):w1.cell? ⟨b,off,none⟩=w.cell? ⟨b,off,none⟩:=by simp [World.cell?,h.old b hb]
def Grows.stepped {w1:World} (h:Grows w w1) (e:Env) (σ:St):Stepped e σ w e σ w1 where
 len:=Tw _
 beta:=fun _ _=>rfl
 X:=rfl
 pres:=fun b off u hc ho=>⟨ho,(h.cell (Uz hc)).trans hc⟩
 blocks:=fun b hb _ _ _=>h.old b hb
 size:=h.size
 os:=h.os
 tape:=h.tape
 output:=h.output
 fresh:=fun i h1 h2=>oM
 ftok:=fun t ht p hp=>.inr (.inl ⟨t,ht,p,hp,rfl⟩)
 fhid:=fun b h=>.inr (.inr h)
 nx:=Tw _
 toks:=fun _ _ ht=>⟨ht,rfl⟩
 own:=fun _ _ _ _ _ hp=>h.old _ hp
def SRel.keepG (hS:SRel G e σ w) {w1:World} (h:Grows w w1) (bb:Nat):HKeep e w e w1 bb:=fun b q hq _=>⟨hq,h.old _ (hS.hid b q hq).2.1⟩
def SRel.grow (hS:SRel G e σ w) {w1:World} (h:Grows w w1):SRel G e σ w1 where
 inj:=hS.inj
 box:=fun i x hx=>(hS.box i x hx).step (h.stepped e σ) (h.old _ (hS.lt (Ti.1 hx).1)) (hS.keepG h _)
 low:=hS.low
 tkn:=hS.tkn
 own:=fun t ht p hp=>by
  obtain ⟨h1,h2,cs,ty,fz,h3⟩:=hS.own t ht p hp;exact ⟨h1,h2,cs,ty,fz,(h.old _ (Tr.1 h3).1).trans h3⟩
 dis:=hS.dis
 xown:=hS.xown
 xlt:=fun b off hx=>TG (hS.xlt b off hx) h.size
 hid:=fun b q hq=>let ⟨h1,h2,h3⟩:=hS.hid b q hq;⟨h1,TG h2 h.size,h3⟩
 glob:=fun b hb=>(h.old b (TG hb hS.big)).trans (hS.glob b hb)
 big:=Sc hS.big h.size
def SRel.fresh_okc (hS:SRel G e σ w) (off:Nat):okc e σ w.heap.size off:=by
 refine ⟨fun hX=>?_,fun k hk=>?_,fun t ht p hp ta=>?_,fun q hq=>?_⟩
 ·have:=hS.xlt _ _ hX;omega
 ·have:=hS.lt hk;omega
 ·obtain ⟨_,_,cs,ty,fz,hh⟩:=hS.own t ht p hp;have:=(Tr.1 hh).1;omega
 have:=(hS.hid _ _ hq).2.1;omega
def Env.more (e:Env) (n b:Nat):Env:={ e with β:=fun i=>if i=n then b else e.β i }
def ZJ1 (σ:St) (x:Box):(σ.new x).bx.length=σ.bx.length+1:=by simp [St.new]
def Jf (hS:SRel G e σ w) (x:Box) (ob:Obj) (hob:∀e1 σ1 w1,Stepped e σ w e1 σ1 w1->w1.heap[w.heap.size]?=some ob->BRel G e1 σ1 w1 x w.heap.size) :
  Stepped e σ w (e.more σ.bx.length w.heap.size) (σ.new x) (w.alloc ob)/\SRel G (e.more σ.bx.length w.heap.size) (σ.new x) (w.alloc ob) /\
   VRel G (e.more σ.bx.length w.heap.size) (σ.new x) (w.alloc ob) (.ptr σ.bx.length 0) (.pointer (some ⟨w.heap.size,0,none⟩)):=by
 have hg:=Grows.alloc w ob;have hβ:∀i,i<σ.bx.length->(e.more σ.bx.length w.heap.size).β i=e.β i:=fun i hi=>by simp only [Env.more];rw [Tb oM]
 have qf:(e.more σ.bx.length w.heap.size).β σ.bx.length=w.heap.size:=by simp [Env.more]
 have hst:Stepped e σ w (e.more σ.bx.length w.heap.size) (σ.new x) (w.alloc ob):={
  len:=by rw [ZJ1];omega
  beta:=hβ
  X:=rfl
  pres:=fun b off u hc ho=>⟨⟨ho.1,fun i hi=>by
    have hb:=Uz hc;rw [ZJ1] at hi
    by_cases h:i=σ.bx.length
    ·rw [h,qf];omega
    rw [hβ i oM];exact ho.2.1 i oM,ho.2.2⟩,(hg.cell (Uz hc)).trans hc⟩
  blocks:=fun b hb _ _ _=>hg.old b hb
  size:=hg.size
  os:=rfl
  tape:=rfl
  output:=rfl
  fresh:=fun i h1 h2=>by
   rw [ZJ1] at h2;rw [show i=σ.bx.length by omega,qf];exact Tw _
  ftok:=fun t ht p hp=>.inr (.inl ⟨t,ht,p,hp,rfl⟩)
  fhid:=fun b h=>.inr (.inr h)
  nx:=Tw _
  toks:=fun _ _ ht=>⟨ht,rfl⟩
  own:=fun _ _ _ _ _ hp=>hg.old _ hp }
 refine ⟨hst,?_,?_⟩
 ·exact {
   inj:=fun i j hi hj i9=>by
    rw [ZJ1] at hi hj
    by_cases h1:i=σ.bx.length <;> by_cases h2:j=σ.bx.length
    ·omega
    ·rw [h1,qf,hβ j oM] at i9;have:=hS.lt (i:=j) oM;omega
    ·rw [h2,qf,hβ i oM] at i9;have:=hS.lt (i:=i) oM;omega
    rw [hβ i oM,hβ j oM] at i9;exact hS.inj i j oM oM i9
   box:=fun i y hy=>by
    have hi:=(Ti.1 hy).1;rw [ZJ1] at hi
    by_cases h1:i=σ.bx.length
    ·subst h1;rw [qf];simp [St.new] at hy;subst hy;exact hob _ _ _ hst (heap_alloc_new w ob)
    have eu:i<σ.bx.length:=by omega
    rw [hβ i eu];simp only [St.new,TP eu] at hy;exact (hS.box i y hy).step hst (hg.old _ (hS.lt eu)) (hS.keepG hg _)
   low:=fun i hi=>by
    rw [ZJ1] at hi
    by_cases h1:i=σ.bx.length
    ·rw [h1,qf];exact hS.big
    rw [hβ i oM];exact hS.low i oM
   tkn:=hS.tkn
   own:=fun t ht p hp=>by
    obtain ⟨h1,h2,cs,ty,fz,h3⟩:=hS.own t ht p hp;have ab:=(Tr.1 h3).1;refine ⟨h1,fun i hi=>?_,cs,ty,fz,(hg.old _ ab).trans h3⟩;rw [ZJ1] at hi
    by_cases h4:i=σ.bx.length
    ·rw [h4,qf];omega
    rw [hβ i oM];exact h2 i oM
   dis:=hS.dis
   xown:=hS.xown
   xlt:=fun b off hx=>TG (hS.xlt b off hx) hg.size
   hid:=fun b q hq=>by
    obtain ⟨h1,h2,h3,h4⟩:=hS.hid b q hq;refine ⟨h1,TG h2 hg.size,fun i hi=>?_,h4⟩;rw [ZJ1] at hi
    by_cases h5:i=σ.bx.length
    ·rw [h5,qf];omega
    rw [hβ i oM];exact h3 i oM
   glob:=fun b hb=>(hg.old b (TG hb hS.big)).trans (hS.glob b hb)
   big:=Sc hS.big hg.size }
 have:=VRel.ptr (G:=G) (e:=e.more σ.bx.length w.heap.size) (σ:=σ.new x) (w:=w.alloc ob) σ.bx.length 0 (by rw [ZJ1];omega)
 rwa [qf] at this
def Zeq (hS:SRel G e σ w) (t:TypeId) (cs:List PV) (vs:Array Value) (hs:vs.size=cs.length) (hr:∀(i:Nat) (x:PV) (u:Value),cs[i]?=some x->vs[i]?=some u->VRel G e σ w x u/\u.oneCell'=true) :
  Stepped e σ w (e.more σ.bx.length w.heap.size) (σ.new (.cells t cs)) (w.alloc (.cells vs t))/\SRel G (e.more σ.bx.length w.heap.size) (σ.new (.cells t cs)) (w.alloc (.cells vs t)) /\
   VRel G (e.more σ.bx.length w.heap.size) (σ.new (.cells t cs)) (w.alloc (.cells vs t)) (.ptr σ.bx.length 0) (.pointer (some ⟨w.heap.size,0,none⟩)) :=
 Jf hS (.cells t cs) (.cells vs t) (fun _ _ _ hst hh=>⟨vs,hh,hs,fun i x u hx hu=>⟨(hr i x u hx hu).1.step hst,(hr i x u hx hu).2⟩⟩)
def ZrH (P:Program) (ρ':Operand->Value) (o:Oper) (w:World) (v:Value) (w1:World):Prop :=
 (execOp ρ' o).run P w=.ok (.value v) w1\/((execOp ρ' o).run P w=.ok .skip w1/\v=Go.undef)
def Xs (b:Nat):∀(vs:List Value) (o:Nat) (w:World) (cs:Array Value) (ty:TypeId) (fz:Nat×Nat),w.heap[b]?=some (.cells cs ty fz) ->
  ∃cs',(w.setCells b o vs).heap[b]?=some (.cells cs' ty fz)/\cs'.size=cs.size/\∀i,cs'[i]?=if o<=i/\i<o+vs.length/\i<cs.size then vs[i - o]? else cs[i]?
 | [],o,w,cs,ty,fz,h=>⟨cs,h,rfl,fun i=>by rw [Tb];simp;omega⟩
 | v::vs,o,w,cs,ty,fz,h=>by
  have h1:(w.setCell ⟨b,o,none⟩ v).heap[b]?=some (.cells (cs.setIfInBounds o v) ty fz):=by
   simp [World.setCell,SL,h]
  obtain ⟨cs',h2,h3,h4⟩:=Xs b vs (o+1) _ _ ty fz h1;refine ⟨cs',h2,by rw [h3];simp,fun i=>?_⟩;rw [h4];simp only [Array.size_setIfInBounds,Te,T6]
  by_cases hi:o+1<=i/\i<o+1+vs.length/\i<cs.size
  ·rw [Tg hi,Tg ⟨oM,oM,oM⟩,show i - o=(i - (o+1))+1 by omega,TY]
  rw [Tb hi]
  by_cases h5:o=i
  ·subst h5
   by_cases h6:o<cs.size
   ·rw [Tg rfl,Tg h6,Tg ⟨oM,oM,h6⟩];simp
   rw [Tg rfl,Tb h6,Tb oM];simp [h6]
  rw [Tb h5,Tb oM]
def X4 (b:Nat):∀(vs:List Value) (o:Nat) (w:World),(w.setCells b o vs).heap.size=w.heap.size
 | [],_,_=>rfl
 | v::vs,o,w=>by
  show ((w.setCell ⟨b,o,none⟩ v).setCells b (o+1) vs).heap.size=_;rw [X4 b vs];simp [World.setCell]
def Y6 (b:Nat):∀(vs:List Value) (o:Nat) (w:World),(w.setCells b o vs).os=w.os/\(w.setCells b o vs).tape=w.tape/\(w.setCells b o vs).output=w.output/\∀k,k≠b->(w.setCells b o vs).heap[k]?=w.heap[k]?
 | [],_,_=>⟨rfl,rfl,rfl,fun _ _=>rfl⟩
 | v::vs,o,w=>by
  obtain ⟨h1,h2,h3,h4⟩:=Y6 b vs (o+1) (w.setCell ⟨b,o,none⟩ v);exact ⟨h1,h2,h3,fun k hk=>(h4 k hk).trans (RowKit.Below.heap_setCell w ⟨b,o,none⟩ v k hk)⟩
def Jg (hS:SRel G e σ w) {b:Nat} {x x':Box} (hb:σ.bx[b]?=some x) {w1:World} (r1:w1.os=w.os) (r2:w1.tape=w.tape) (r3:w1.output=w.output) (hsz:w1.heap.size=w.heap.size) (r4:∀k,k≠e.β b->w1.heap[k]?=w.heap[k]?)
  (gw:Stepped e σ w e (σ.set b x') w1->BRel G e (σ.set b x') w1 x' (e.β b)):Stepped e σ w e (σ.set b x') w1/\SRel G e (σ.set b x') w1:=by
 have cm:b<σ.bx.length:=(Ti.1 hb).1;have ep:(σ.set b x').bx.length=σ.bx.length:=by simp [St.set]
 have hst:Stepped e σ w e (σ.set b x') w1:={
  len:=by rw [ep];exact Tw _
  beta:=fun _ _=>rfl
  X:=rfl
  pres:=fun k o u hk ho=>⟨⟨ho.1,fun j hj=>ho.2.1 j (by rw [ep] at hj;exact hj),ho.2.2⟩,by simpa [World.cell?,r4 k (fun h=>ho.2.1 b cm h.symm)] using hk⟩
  blocks:=fun k hk qg _ _=>r4 k (fun h=>qg b cm h.symm)
  size:=by rw [hsz];exact Tw _
  os:=r1
  tape:=r2
  output:=r3
  fresh:=fun i h1 h2=>by rw [ep] at h2;omega
  ftok:=fun t ht p hp=>.inr (.inl ⟨t,ht,p,hp,rfl⟩)
  fhid:=fun b h=>.inr (.inr h)
  nx:=Tw _
  toks:=fun _ _ ht=>⟨ht,rfl⟩
  own:=fun t' hn ht p hp ab=>r4 _ (fun h=>(hS.own t' ht p hp).2.1 b cm h.symm) }
 refine ⟨hst,?_⟩;exact {
  inj:=fun i j hi hj=>hS.inj i j (by rw [ep] at hi;exact hi) (by rw [ep] at hj;exact hj)
  box:=fun k y hy=>by
   by_cases hkb:k=b
   ·subst hkb;have:y=x':=by
     simp only [St.set,SJ cm] at hy;exact (Option.some.inj hy).symm
    subst this;exact gw hst
   have qw:σ.bx[k]?=some y:=by
    simp only [St.set] at hy
    rwa [SV (fun h=>hkb h.symm)] at hy
   have z7:=(Ti.1 qw).1;exact (hS.box k y qw).step hst (r4 _ (fun h=>hkb (hS.inj k b z7 cm h))) fun k2 q hq _=>⟨hq,r4 _ (fun h=>(hS.hid k2 q hq).2.2.1 b cm h.symm)⟩
  low:=fun i hi=>hS.low i (by rw [ep] at hi;exact hi)
  tkn:=hS.tkn
  own:=fun t' ht p hp=>by
   obtain ⟨q1,q2,cs2,ty2,fz2,q3⟩:=hS.own t' ht p hp;refine ⟨q1,fun i hi=>q2 i (by rw [ep] at hi;exact hi),cs2,ty2,fz2,(r4 _ (fun h=>q2 b cm h.symm)).trans q3⟩
  dis:=hS.dis
  xown:=hS.xown
  xlt:=fun k o hx=>by rw [hsz];exact hS.xlt k o hx
  hid:=fun k q hq=>by
   obtain ⟨h1,h2,h3,h4⟩:=hS.hid k q hq;exact ⟨h1,by rw [hsz];exact h2,fun i hi=>h3 i (by rw [ep] at hi;exact hi),h4⟩
  glob:=fun k hk=>(r4 k (fun h=>by have:=hS.low b cm;omega)).trans (hS.glob k hk)
  big:=by rw [hsz];exact hS.big }
def ZaF (hT:TabOK T G.P) (hS:SRel G e σ w) {t:TypeId} {b off:Nat} {x:PV} {v:Value} {l cs:List PV} {ty:TypeId} (hb:σ.bx[b]?=some (.cells ty cs)) (hx:VRel G e σ w x v) (hl:x.cells=some l)
  (aa:l.length=(T.get t).size) (oe:off+l.length<=cs.length) (hk:(T.get t).kind≠.other) :
  ∃w1,(Instr.storeAt t (.pointer (some ⟨e.β b,off,none⟩)) v).run G.P w=.ok () w1/\Stepped e σ w e (σ.set b (.cells ty (Z9 cs off l))) w1/\SRel G e (σ.set b (.cells ty (Z9 cs off l))) w1:=by
 obtain ⟨i,d,z,hi,hd,hs,dq,az,hz,co,_⟩:=(hT.get hk).ex;have cm:b<σ.bx.length:=(Ti.1 hb).1;obtain ⟨vs,my,qa,zy⟩:=hS.box b _ hb;obtain ⟨dg,bw⟩:=VW hx hl;have hvc:v.cells.toList.length=l.length:=by simpa using dg
 have jc:∀u∈v.cells.toList,u.oneCell'=true:=fun u hu=>by
  exact mq150
 have ai:=run_storeCells_cells (P:=G.P) (e.β b) off v.cells.toList 0 w (fun j hj=>by
   have:off+j<vs.size:=oM;simp [World.cell?,my,this]) (fun j hj=>by simp [World.frozen?,my]) jc
 simp only [SQ] at ai;obtain ⟨r1,r2,r3,r4⟩:=Y6 (e.β b) v.cells.toList off w;obtain ⟨cs',h1,h2,h3⟩:=Xs (e.β b) v.cells.toList off w vs ty (0,0) my;refine ⟨_,?_,Jg hS hb r1 r2 r3 (X4 _ _ _ _) r4 fun hst=>?_⟩
 ·have mz:v.cells.size=i.size:=by rw [dg,aa,hs]
  exact mq66
 refine ⟨cs',h1,by rw [h2,qa,XG],fun j x u gg hu=>?_⟩;rw [Vp] at gg;rw [h3,hvc] at hu
 by_cases qx:off<=j/\j<off+l.length/\j<cs.length
 ·rw [Tg qx] at gg;rw [Tg ⟨qx.1,qx.2.1,oM⟩,TB] at hu;obtain ⟨q1,q2⟩:=bw _ x u gg hu;exact ⟨q1.step hst,q2⟩
 rw [Tb qx] at gg;rw [Tb oM] at hu;obtain ⟨q1,q2⟩:=zy j x u gg hu;exact ⟨q1.step hst,q2⟩
def ZpN (hS:SRel G e σ w) {b:Nat} {s:List UInt8} {pos:Nat} (hb:σ.bx[b]?=some (.iter s pos)) (ty:TypeId) {K:PV->St->Prop}
  (h:CondP (decide (pos<s.length)) (K (.tuple [.d (.bool true),.d (.int .i64 pos),.d (.int .i32 (decodeL s pos).1)]) (σ.set b (.iter s (pos+(decodeL s pos).2)))) (K (.tuple [.d (.bool false)]) σ)) :
  ∃pv σ1 v w1,K pv σ1/\(Instr.next (.pointer (some ⟨e.β b,0,none⟩)) true ty).run G.P w=.ok v w1/\Stepped e σ w e σ1 w1/\SRel G e σ1 w1/\VRel G e σ1 w1 pv v:=by
 have cm:b<σ.bx.length:=(Ti.1 hb).1;have m7:w.heap[e.β b]?=some (.stringIter ⟨s.toArray⟩ pos):=hS.box b _ hb
 by_cases hp:pos<s.length
 ·have:decide (pos<s.length)=true:=by simp [hp]
  rw [this] at h;refine ⟨_,_,_,_,h,Lib.run_next_any_at w (e.β b) ⟨s.toArray⟩ pos ty m7 hp,?_⟩;have ku:∀k,k≠e.β b->(w.iterAt (e.β b) ⟨s.toArray⟩ (pos+(Utf8.decode ⟨s.toArray⟩ pos).2)).heap[k]?=w.heap[k]?:=fun k hk=>Lib.iterAt_other w (e.β b) k _ _ hk
  obtain ⟨g1,g2⟩:=Jg (x':=.iter s (pos+(decodeL s pos).2)) hS hb (w1:=w.iterAt (e.β b) ⟨s.toArray⟩ (pos+(Utf8.decode ⟨s.toArray⟩ pos).2)) rfl rfl rfl (by rw [Lib.iterAt_size]) ku fun _=>Lib.iterAt_heap w (e.β b) _ pos _ m7
  refine ⟨g1,g2,?_⟩;refine .tuple _ _ rfl (fun i x u hx hu=>?_)
  match i with
  | 0=>cases hx;cases hu;exact .mkbool
  | 1=>cases hx;cases hu;exact .mkint
  | 2=>cases hx;cases hu;exact .mkint
  | n+3=>cases hx
 have:decide (pos<s.length)=false:=by simp [hp]
 rw [this] at h;refine ⟨_,_,_,_,h,Lib.run_next_end_at w (e.β b) ⟨s.toArray⟩ pos ty m7 hp,.refl _ _ _,hS,.tuple _ _ rfl (fun i x u hx hu=>?_)⟩
 match i with
 | 0=>cases hx;cases hu;exact .mkbool
 | n+1=>cases hx
structure Flat (ok:Nat->Nat->Prop) (w:World) (rows:List (List D)) (sz:Nat) (xs:List Value):Prop where
 len:xs.length=rows.length * sz
 wid:∀r∈rows,r.length=sz
 rel:∀(a b:Nat) (y:D) (u:Value),b<sz->(rows[a]?.bind (·[b]?))=some y->xs[a * sz+b]?=some u->DRel ok w y u
def Flat.mono {ok ok':Nat->Nat->Prop} {w w':World} {rows:List (List D)} {sz:Nat} {xs:List Value} (h:Flat ok w rows sz xs) (hp:∀(y:D) (u:Value),DRel ok w y u->DRel ok' w' y u):Flat ok' w' rows sz xs :=
 ⟨h.len,h.wid,fun a b y u hb hy hu=>hp y u (h.rel a b y u hb hy hu)⟩
def Flat.nil (ok:Nat->Nat->Prop) (w:World) (sz:Nat):Flat ok w [] sz []:=⟨sM,fun r h=>(by cases h),fun a b y u _ hy=>by simp at hy⟩
def Flat.append {ok:Nat->Nat->Prop} {w:World} {r1 r2:List (List D)} {sz:Nat} {x1 x2:List Value} (h1:Flat ok w r1 sz x1) (h2:Flat ok w r2 sz x2):Flat ok w (r1++r2) sz (x1++x2):=by
 refine ⟨by rw [Ta,Ta,h1.len,h2.len,Sx],fun r hr=>?_,fun a b y u hb hy hu=>?_⟩
 ·rcases T1.1 hr with h | h
  ·exact h1.wid r h
  exact h2.wid r h
 by_cases ha:a<r1.length
 ·rw [TP ha] at hy;have ab:a * sz+b<x1.length:=by
   rw [h1.len]
   calc a * sz+b<a * sz+sz:=by omega
    _=(a+1) * sz:=by rw [Sx,Nat.one_mul]
    _<=r1.length * sz:=T9 _ ha
  rw [TP ab] at hu;exact h1.rel a b y u hb hy hu
 have tf:r1.length<=a:=by omega
 rw [TZ tf] at hy;have js:x1.length<=a * sz+b:=by
  rw [h1.len];exact Sc (T9 _ tf) (Nat.le_add_right _ _)
 rw [TZ js,h1.len] at hu;refine h2.rel (a - r1.length) b y u hb hy ?_;rw [<- hu]
 congr 1
 rw [Nat.sub_mul];have:=T9 sz tf;omega
def ZJ8 {ok:Nat->Nat->Prop} {w:World} {rows:List (List D)} {b off cap sz:Nat} (hsz:∀r∈rows,r.length=sz) (ao:0<sz) (h:DRel ok w (.sl rows) (.slice (some ⟨b,off,none⟩) rows.length cap)) :
  ∃xs,Flat ok w rows sz xs/\(∀(k:Nat) (u:Value),xs[k]?=some u->w.cell? ⟨b,off+k,none⟩=some u)/\(∀k,k<xs.length->ok b (off+k))/\∀u∈xs,u.oneCell'=true:=by
 cases h with
 | slz=>exact ⟨[],.nil _ _ _,fun k u h=>by simp at h,fun k h=>by simp at h,fun u h=>by cases h⟩
 | sl rows b off cap sz' u hcap jb hc ho hu =>
 by_cases hr:rows=[]
 ·subst hr;exact ⟨[],.nil _ _ _,fun k u h=>by simp at h,fun k h=>by simp at h,fun u h=>by cases h⟩
 have hss:sz'=sz:=by
  cases rows with
  | nil=>exact absurd rfl hr
  | cons r l=>rw [<- jb r sM,hsz r sM]
 subst hss;have hk:∀k,k<rows.length * sz'->k / sz'<rows.length/\k % sz'<sz'/\k / sz' * sz'+k % sz'=k:=fun k hk =>
  ⟨(Nat.div_lt_iff_lt_mul ao).2 hk,Nat.mod_lt _ ao,by rw [Nat.mul_comm];exact Nat.div_add_mod k sz'⟩
 have ig:∀k,k<rows.length * sz'->∃y,(rows[k / sz']?.bind (·[k % sz']?))=some y/\DRel ok w y (u (k / sz') (k % sz')):=fun k h=>by
  obtain ⟨h1,h2,h3⟩:=hk k h;have h4:(rows[k / sz']).length=sz':=jb _ (TM _);have h5:(rows[k / sz']?.bind (·[k % sz']?))=some ((rows[k / sz'])[k % sz']):=by
   rw [Tc h1];simp only [Option.bind_some];rw [Tc oM]
  exact ⟨_,h5,hu _ _ _ h5⟩
 refine ⟨(List.range (rows.length * sz')).map fun k=>u (k / sz') (k % sz'),⟨sM,jb,fun a b' y v hb hy hv=>?_⟩,fun k v hv=>?_,fun k h=>?_,fun v hv=>?_⟩
 ·rw [Tk] at hv;have ha:a<rows.length:=by
   rcases Nat.lt_or_ge a rows.length with h | h
   ·exact h
   rw [Sz h] at hy;cases hy
  have ab:a * sz'+b'<rows.length * sz':=by
   calc a * sz'+b'<a * sz'+sz':=by omega
    _=(a+1) * sz':=by rw [Sx,Nat.one_mul]
    _<=rows.length * sz':=T9 _ ha
  rw [List.getElem?_range ab] at hv;have hd:(a * sz'+b') / sz'=a:=by rw [Nat.mul_comm,Nat.mul_add_div ao,Nat.div_eq_of_lt hb];omega
  have hm:(a * sz'+b') % sz'=b':=by rw [Nat.mul_comm,Nat.mul_add_mod,Nat.mod_eq_of_lt hb]
  simp only [So,hd,hm] at hv
  cases hv
  exact hu a b' y hy
 ·rw [Tk] at hv
  by_cases ab:k<rows.length * sz'
  ·rw [List.getElem?_range ab] at hv
   cases hv
   obtain ⟨h1,h2,h3⟩:=hk k ab;have:=hc _ _ h1 h2
   rwa [Sv,h3] at this
  rw [Sz (by simpa using ab)] at hv;cases hv
 ·simp only [Tf,List.length_range] at h;obtain ⟨h1,h2,h3⟩:=hk k h;have:=ho _ _ h1 h2
  rwa [Sv,h3] at this
 obtain ⟨k,mj,rfl⟩:=Sh.1 hv;obtain ⟨y,_,hy⟩:=ig k (List.mem_range.1 mj);exact hy.one
def Flat.to_sl {ok:Nat->Nat->Prop} {w:World} {rows:List (List D)} {sz:Nat} {xs:List Value} (h:Flat ok w rows sz xs) (b off cap:Nat) (hcap:rows.length<=cap)
  (hc:∀(k:Nat) (u:Value),xs[k]?=some u->w.cell? ⟨b,off+k,none⟩=some u) (ho:∀k,k<xs.length->ok b (off+k)):DRel ok w (.sl rows) (.slice (some ⟨b,off,none⟩) rows.length cap):=by
 have ab:∀i j,i<rows.length->j<sz->i * sz+j<xs.length:=fun i j hi hj=>by
  rw [h.len]
  calc i * sz+j<i * sz+sz:=by omega
   _=(i+1) * sz:=by rw [Sx,Nat.one_mul]
   _<=rows.length * sz:=T9 _ hi
 refine .sl rows b off cap sz (fun i j=>xs.getD (i * sz+j) Go.undef) hcap h.wid (fun i j hi hj=>?_) (fun i j hi hj=>?_) (fun i j x hx=>?_)
 ·have h1:=ab i j hi hj;rw [Sv];exact hc _ _ (by simp [List.getD,Tc h1])
 ·rw [Sv];exact ho _ (ab i j hi hj)
 have hi:i<rows.length:=by
  rcases Nat.lt_or_ge i rows.length with h | h
  ·exact h
  rw [Sz h] at hx;cases hx
 have hj:j<sz:=by
  rw [Tc hi] at hx;have:=(Ti.1 hx).1
  rwa [h.wid _ (TM _)] at this
 exact h.rel i j x _ hj hx (by simp [List.getD,Tc (ab i j hi hj)])
def Zya (hT:TabOK T G.P) {tx el:Nat} {px:PV} {vx:Value} {more:List (List D)} {sz:Nat} (hm:Vn T tx el px=some more) (hx:VRel G e σ w px vx) (hsz:∀r∈more,r.length=sz) (ao:0<sz)
  (hel:sz=(T.get el).size):∃news,Src G.P sz tx vx more.length news w/\Flat (okc e σ) w more sz news:=by
 unfold Vn at hm
 split at hm
 ·rename_i hk
  obtain ⟨i,d,z,hi,hd,hs,dq,az,hz,co,_⟩:=(hT.get (t:=tx) (by rw [hk];simp)).ex;rw [hk] at az;cases az;split at hm
  ·rename_i bm
   split at hm
   ·rename_i s
    cases hm
    have hv:=hx.dstr;subst hv;have aa:(s.map fun b:UInt8=>[D.int .u8 b.toNat]).length=(⟨s.toArray⟩:ByteArray).size:=by simp;rfl
    have ez:∀sz',sz'=1->Flat (okc e σ) w (s.map fun b:UInt8=>[D.int .u8 b.toNat]) sz' (byteCells ⟨s.toArray⟩):=by
     rintro _ rfl
     refine ⟨by rw [byteCells_length,aa,Nat.mul_one],fun r hr=>?_,fun a b y u hb hy hu=>?_⟩
     ·obtain ⟨_,_,rfl⟩:=Sh.1 hr;rfl
     have ew:b=0:=by omega
     subst ew;simp only [Nat.mul_one,SQ,byteCells,Tk] at hu;rw [Tk] at hy
     cases hq:s[a]? with
     | none=>rw [hq] at hy;cases hy
     | some q =>
     rw [hq] at hy;simp at hy hu;rw [hq] at hu;simp at hu;subst hy;subst hu;exact .int _ _
    by_cases tg:s=[]
    ·subst tg;refine ⟨[],⟨.inr hd,fun _=>rfl,?_,?_,sM,fun u h=>by cases h⟩,.nil _ _ _⟩
     ·simp [Builtin.firstCells]
     simp [Builtin.firstCells]
    have h1:sz=1:=by
     cases s with
     | nil=>exact absurd rfl tg
     | cons b l=>exact (hsz [.int .u8 b.toNat] sM).symm
    subst h1;rw [aa];exact ⟨byteCells ⟨s.toArray⟩,Src.ofString w hd _,ez 1 rfl⟩
   cases hm
  cases hm
 ·rename_i e' hk
  obtain ⟨i,d,z,hi,hd,hs,dq,az,hz,co,_⟩:=(hT.get (t:=tx) (by rw [hk];simp)).ex;rw [hk] at az;cases az;split at hm
  ·rename_i rows bz
   cases hm
   have hD:=WY bz hx;generalize hg:D.sl more=dd at hD
   cases hD with
   | slnil=>cases hg;exact ⟨[],Src.ofNil w hd 0,.nil _ _ _⟩
   | slz ad=>cases hg;exact ⟨[],Src.ofSlice w hd ad 0 0 [] sM (fun j u hj=>by cases hj) (fun u h=>by cases h),.nil _ _ _⟩
   | sl rows b off cap sz' u hcap jb hc ho hu =>
    cases hg
    obtain ⟨xs,h1,h2,h3,h4⟩:=ZJ8 hsz ao (DRel.sl more b off cap sz' u hcap jb hc ho hu);exact ⟨xs,Src.ofSlice w hd ⟨b,off,none⟩ more.length cap xs h1.len (fun j u hj=>by rw [Yd];exact h2 j u hj) h4,h1⟩
   | _=>cases hg
  cases hm
 cases hm
def YJ (t:Nat):∀(l:List Nat),Zgm t l=true↔t∈l
 | []=>by simp [Zgm]
 | x::l=>by
  unfold Zgm
  split
  ·rename_i h;have:=Tl h;simp [this]
  rename_i h
  rw [YJ t l];have:x≠t:=fun h'=>by subst h';simp at h
  simp [Ne.symm this]
def Wy (t x:Nat):∀(l:List Nat),x∈JM t l↔x∈l/\x≠t
 | []=>by simp [JM]
 | y::l=>by
  unfold JM
  split
  ·rename_i h
   have:=Tl h;subst this;rw [Wy y x l]
   constructor
   ·exact fun h=>⟨Tt _ h.1,h.2⟩
   rintro ⟨h1,h2⟩
   rcases Tv.1 h1 with h | h
   ·exact absurd h h2
   exact ⟨h,h2⟩
  rename_i h
  have aj:y≠t:=fun h'=>by subst h';simp at h
  rw [Tv,Tv,Wy t x l]
  constructor
  ·rintro (rfl | h)
   ·exact ⟨.inl rfl,aj⟩
   exact ⟨.inr h.1,h.2⟩
  rintro ⟨rfl | h1,h2⟩
  ·exact .inl rfl
  exact .inr ⟨h1,h2⟩
def Env.own (e:Env) (t:Nat) (p:Option (Nat×Nat)):Env:={ e with M:=fun i=>if i=t then p else e.M i }
def ZgJ (hT:TabOK T G.P) (hS:SRel G e σ w) {t tx el ty:Nat} (ml:(T.get t).kind=.slice el) (cx:(T.get el).kind≠.other) (ao:0<(T.get el).size)
  {rows more:List (List D)} {v vx:Value} {news:List Value} (hD:DRel (okc e σ) w (.sl rows) v)
  (m9:∀r∈rows,r.length=(T.get el).size)
  (hO : (v = .slice none 0 0 /\ rows = []) \/ ∃ b off cap cs ty fz, v = .slice (some ⟨b, off, none⟩) rows.length cap /\ G.nG <= b /\ rows.length <= cap /\ w.heap[b]? = some (.cells cs ty fz) /\ (off + cap * (T.get el).size <= cs.size /\ off = 0 /\ ty = el /\ 0 < cap) /\
     (fz.1<=fz.2/\∀o,off+rows.length * (T.get el).size<=o->fz.1<=o->fz.2<=o)/\(∀i,i<σ.bx.length->e.β i≠b))
  (kw:Src G.P (T.get el).size tx vx more.length news w) (dt:Flat (okc e σ) w more (T.get el).size news)
  (jt:(rows.length+more.length) * (T.get el).bytes<=2 ^ 47) (aa:rows.length+more.length<=2 ^ 47) :
  ∃v' w1,(Builtin.append_ #[t,tx] ty #[v,vx]).run G.P w=.ok v' w1/\w1.os=w.os/\w1.tape=w.tape/\w1.output=w.output/\w.heap.size<=w1.heap.size /\
   (∀b off u,w.cell? ⟨b,off,none⟩=some u->okc e σ b off->w1.cell? ⟨b,off,none⟩=some u\/∃a o c,v=.slice (some ⟨a,o,none⟩) rows.length c/\b=a/\o+rows.length * (T.get el).size<=off) /\
   (∀b,b<w.heap.size->(∀a o c,v=.slice (some ⟨a,o,none⟩) rows.length c->b≠a)->w1.heap[b]?=w.heap[b]?) /\
   ((v'=.slice none 0 0/\rows++more=[])\/∃b off cap cs ty fz,v'=.slice (some ⟨b,off,none⟩) (rows++more).length cap/\G.nG<=b/\(rows++more).length<=cap/\w1.heap[b]?=some (.cells cs ty fz)/\(off+cap * (T.get el).size<=cs.size/\off=0/\ty=el/\0<cap) /\
    (fz.1<=fz.2/\∀o,off+rows.length * (T.get el).size<=o->fz.1<=o->fz.2<=o) /\
    ((∃c,v=.slice (some ⟨b,off,none⟩) rows.length c)\/w.heap.size<=b) /\
    ∃xs,Flat (okc e σ) w (rows++more) (T.get el).size xs/\∀(k:Nat) (u:Value),xs[k]?=some u->w1.cell? ⟨b,off+k,none⟩=some u):=by
 obtain ⟨ti,td,tz,nv,tj,_,_,az,_,_,_⟩:=(hT.get (t:=t) (by rw [ml];simp)).ex;rw [ml] at az;cases az;obtain ⟨i,d,z,hi,hd,hs,dq,bi,hz,co,ll,_⟩:=(hT.get cx).ex;have wa:z.cells.size=(T.get el).size:=by
  have:=(X8 (G:=G) (e:=e) (σ:=σ) (w:=w) co).1;rw [<- ll,<- this];simp
 rw [<- hs] at kw;have hsm:((rows.length+more.length:Nat):Int)<=9223372036854775807:=oM;have ja:(rows.length+more.length) * i.bytes<=140737488355328:=by rw [dq];omega
 have grow:∀(base:Option Addr) (cap:Nat) (olds:List Value),(Builtin.firstCells i.size rows.length (.slice base rows.length cap)).run G.P w.drew=.ok olds.toArray w.drew->Flat (okc e σ) w rows (T.get el).size olds->cap<rows.length+more.length ->
   ∃v' w1,(Builtin.append_ #[t,tx] ty #[.slice base rows.length cap,vx]).run G.P w=.ok v' w1/\Grows w w1 /\
    ∃b off cap cs ty fz,v'=.slice (some ⟨b,off,none⟩) (rows++more).length cap/\G.nG<=b/\(rows++more).length<=cap/\w1.heap[b]?=some (.cells cs ty fz)/\(off+cap * (T.get el).size<=cs.size/\off=0/\ty=el/\0<cap) /\
     (fz.1<=fz.2/\∀o,off+rows.length * (T.get el).size<=o->fz.1<=o->fz.2<=o)/\w.heap.size<=b /\
     ∃xs,Flat (okc e σ) w (rows++more) (T.get el).size xs/\∀(k:Nat) (u:Value),xs[k]?=some u->w1.cell? ⟨b,off+k,none⟩=some u:=by
  intro base cap olds nc ez ab
  have hr:=run_append_grow_src w t tx ty el i z tj hi hz base rows.length cap olds nc vx more.length news kw ab hsm (growslice_fits ab ja);refine ⟨_,_,hr,(Grows.drew w).trans (Grows.alloc _ _),w.heap.size,0,grownCap w (rows.length+more.length) cap el,_,el,(0,0),by rw [Ta],hS.big,by rw [Ta];exact grownCap_ge w _ _ _,heap_alloc_new w.drew _,⟨?_,rfl,rfl,by have:=grownCap_ge w (rows.length+more.length) cap el;omega⟩,⟨Tw _,fun o _ _=>Sl _⟩,Tw _,olds++news,ez.append dt,fun k u hk=>?_⟩
  ·have js:=grownCap_ge w (rows.length+more.length) cap el;simp only [Array.size_append,List.size_toArray,Ta,size_zeroCells,wa,ez.len,dt.len,Se,<- Sx];exact T9 _ oM
  have h1:k<(olds++news).length:=(Ti.1 hk).1;simp only [Se,World.cell?];rw [show (w.drew.alloc _).heap[w.heap.size]?=_ from heap_alloc_new w.drew _];simp only [Option.isSome_none,Tx,if_false];rw [Array.getElem?_append_left (by simpa using h1)];simpa using hk
 rcases hO with ⟨rfl,rfl⟩ | ⟨b,off,cap,cs,tyb,fz,rfl,hb,hc,hh,dk,kg,qg⟩
 ·by_cases hm:more.length=0
  ·have hmn:more=[]:=TH hm;subst hmn;have dl:news=[]:=TH (by rw [dt.len];simp);subst dl;exact ⟨_,w,run_append_nothing w t tx ty el i tj hi none 0 0 (Tw _) vx kw,rfl,rfl,rfl,Tw _,fun _ _ _ h _=>.inl h,fun _ _ _=>rfl,.inl ⟨rfl,rfl⟩⟩
  obtain ⟨v',w1,hr,hg,b,off,cap,cs,ty',fz,h1,h2,h3,h4,h5,h6,h7,h8⟩:=grow none 0 [] (run_firstCells_none w.drew i.size 0 0 0) (.nil _ _ _) sO;exact ⟨v',w1,hr,hg.os,hg.tape,hg.output,hg.size,fun b' o' u hu _=>.inl ((hg.cell (Uz hu)).trans hu),fun b' gh _=>hg.old b' gh,.inr ⟨b,off,cap,cs,ty',fz,h1,h2,h3,h4,h5,h6,.inr h7,h8⟩⟩
 obtain ⟨olds,aw,ak,bq,gd⟩:=ZJ8 m9 ao hD
 by_cases kx:rows.length+more.length<=cap
 ·have oe:rows.length * (T.get el).size+news.length<=cap * (T.get el).size:=by
   rw [dt.len,<- Sx];exact T9 _ kx
  have bf:∀k,k<cs.size->(w.cell? ⟨b,k,none⟩).isSome=true:=fun k hk=>by simp [World.cell?,hh,hk]
  have hr:=run_append_room_src w t tx ty el i tj hi b off rows.length cap vx more.length news kw kx (fun j hj=>bf _ (by have:=dk.1;rw [hs];omega)) (fun j hj=>by
   simp only [World.frozen?,hh];have h1:=kg.2 (off+rows.length * i.size+j) (by rw [hs];omega)
   by_cases h2:fz.1<=off+rows.length * i.size+j
   ·have:=h1 h2;simp;intro _;omega
   simp;omega)
  rw [hs] at hr;obtain ⟨r1,r2,r3,r4⟩:=Y6 b news (off+rows.length * (T.get el).size) w;obtain ⟨cs',q1,q2,q3⟩:=Xs b news (off+rows.length * (T.get el).size) w cs tyb fz hh;refine ⟨_,_,hr,r1,r2,r3,by rw [X4];exact Tw _,fun b' o' u hu ho=>?_,fun b' gh hn=>r4 b' (hn b off cap rfl),.inr ⟨b,off,cap,cs',tyb,fz,by rw [Ta],hb,by rw [Ta];exact kx,q1,⟨by rw [q2];exact dk.1,dk.2.1,dk.2.2.1,dk.2.2.2⟩,kg,.inl ⟨cap,rfl⟩,olds++news,aw.append dt,fun k u hk=>?_⟩⟩
  ·by_cases ki:b'=b
   ·subst ki
    by_cases hoo:off+rows.length * (T.get el).size<=o'
    ·exact .inr ⟨b',off,cap,rfl,rfl,hoo⟩
    left
    rw [World.cell?_setCells_out b' news _ w ⟨b',o',none⟩ (fun _ _=>.inl (by show o'<_;omega))];exact hu
   left;simpa [World.cell?,r4 b' ki] using hu
  by_cases ei:k<olds.length
  ·rw [TP ei] at hk;rw [World.cell?_setCells_out b news _ w ⟨b,off+k,none⟩ (fun _ _=>.inl (by show off+k<_;rw [<- aw.len];omega))];exact ak k u hk
  rw [TZ oM] at hk;have lx:=(Ti.1 hk).1;have:=World.cell?_setCells_in b news (off+rows.length * (T.get el).size) w (fun j hj=>bf _ (by have:=dk.1;omega)) (k - olds.length) lx;exact mq135
 obtain ⟨v',w1,hr,hg,b2,off2,cap2,cs2,ty2,fz2,h1,h2,h3,h4,h5,h6,h7,h8⟩:=grow (some ⟨b,off,none⟩) cap olds (run_firstCells_some w.drew i.size rows.length ⟨b,off,none⟩ rows.length cap olds (by rw [aw.len,hs]) (fun j u hj=>by rw [Yd];exact ak j u hj)) aw oM;exact ⟨v',w1,hr,hg.os,hg.tape,hg.output,hg.size,fun b' o' u hu _=>.inl ((hg.cell (Uz hu)).trans hu),fun b' gh _=>hg.old b' gh,.inr ⟨b2,off2,cap2,cs2,ty2,fz2,h1,h2,h3,h4,h5,h6,.inr h7,h8⟩⟩
def JS (hT:TabOK T G.P) (hS:SRel G e σ w) {el:Nat} (cx:(T.get el).kind≠.other) (ao:0<(T.get el).size)
  {rows more:List (List D)} {v v':Value} {w1:World} (hD:DRel (okc e σ) w (.sl rows) v) (tk0:List Nat) (ay:∀x,x∈tk0->x∈σ.tk) (m9:∀r∈rows,r.length=(T.get el).size) (hw:∀r∈more,r.length=(T.get el).size)
  (fg:∀a o c,v=.slice (some ⟨a,o,none⟩) rows.length c->∃tok,tok∈σ.tk/\tok∉tk0/\e.M tok=some (a,o+rows.length * (T.get el).size))
  (qh:w1.os=w.os) (ky:w1.tape=w.tape) (ju:w1.output=w.output) (cn:w.heap.size<=w1.heap.size)
  (bf:∀b off u,w.cell? ⟨b,off,none⟩=some u->okc e σ b off->w1.cell? ⟨b,off,none⟩=some u\/∃a o c,v=.slice (some ⟨a,o,none⟩) rows.length c/\b=a/\o+rows.length * (T.get el).size<=off)
  (gj:∀b,b<w.heap.size->(∀a o c,v=.slice (some ⟨a,o,none⟩) rows.length c->b≠a)->w1.heap[b]?=w.heap[b]?)
  (jv:(v'=.slice none 0 0/\rows++more=[])\/∃b off cap cs ty fz,v'=.slice (some ⟨b,off,none⟩) (rows++more).length cap/\G.nG<=b/\(rows++more).length<=cap/\w1.heap[b]?=some (.cells cs ty fz)/\(off+cap * (T.get el).size<=cs.size/\off=0/\ty=el/\0<cap) /\
    (fz.1<=fz.2/\∀o,off+rows.length * (T.get el).size<=o->fz.1<=o->fz.2<=o) /\
    ((∃c,v=.slice (some ⟨b,off,none⟩) rows.length c)\/w.heap.size<=b) /\
    ∃xs,Flat (okc e σ) w (rows++more) (T.get el).size xs/\∀(k:Nat) (u:Value),xs[k]?=some u->w1.cell? ⟨b,off+k,none⟩=some u) :
  ∃e1,Stepped e σ w e1 { σ with tk:=σ.nx::tk0,nx:=σ.nx+1 } w1/\SRel G e1 { σ with tk:=σ.nx::tk0,nx:=σ.nx+1 } w1 /\
   VRel G e1 { σ with tk:=σ.nx::tk0,nx:=σ.nx+1 } w1 (.sl σ.nx el (rows++more)) v':=by
 obtain ⟨i,d,z,hi,hd,hs,dq,bi,hz,co,ll,_⟩:=(hT.get cx).ex;have gp:∀b off u,w.cell? ⟨b,off,none⟩=some u->okc e σ b off->w1.cell? ⟨b,off,none⟩=some u:=fun b off u hu ho=>by
  rcases bf b off u hu ho with h | ⟨a,o,c,hv,rfl,am⟩
  ·exact h
  obtain ⟨tok,fk,_,iz⟩:=fg _ o c hv;have:=ho.2.2.1 tok fk _ iz rfl;simp only at this;omega
 have jj:∀b,b<w.heap.size->(∀t,t∈σ.tk->t∉tk0->∀p,e.M t=some p->p.1≠b)->w1.heap[b]?=w.heap[b]?:=fun b hb hn=>gj b hb fun a o c hv h=>by
  obtain ⟨tok,fk,kz,iz⟩:=fg a o c hv;exact hn tok fk kz _ iz h.symm
 obtain ⟨p,hp,jw,hpn⟩:∃p:Option (Nat×Nat),(p=none\/∃b k,p=some (b,k)/\G.nG<=b/\(∃cs ty fz,w1.heap[b]?=some (.cells cs ty fz))/\((∃a o c,v=.slice (some ⟨a,o,none⟩) rows.length c/\a=b/\o+rows.length * (T.get el).size<=k)\/w.heap.size<=b)) /\
   (∀e1:Env,e1.M σ.nx=p->Owned G e1 w1 σ.nx el (rows++more) v') /\
   (∀b k,p=some (b,k)->True):=by
  rcases jv with ⟨rfl,aq⟩ | ⟨b,off,cap,cs,tyb,fz,rfl,hb,hc,hh,dk,kg,i5,zw⟩
  ·refine ⟨none,.inl rfl,fun e1 he=>.inl ⟨rfl,aq,he⟩,fun _ _ _=>trivial⟩
  refine ⟨some (b,off+(rows++more).length * (T.get el).size),.inr ⟨b,_,rfl,hb,⟨cs,tyb,fz,hh⟩,?_⟩,fun e1 he=>.inr ⟨i.size,by rw [hi];rfl,oM,fun r hr=>?_,b,off,cap,cs,tyb,fz,rfl,hb,hc,hh,by rw [hs];exact dk,⟨kg.1,fun o ho=>kg.2 o (by rw [hs] at ho;rw [Ta,Sx] at ho;omega)⟩,by rw [hs];exact he⟩,fun _ _ _=>trivial⟩
  ·rcases i5 with ⟨c,hv⟩ | h
   ·refine .inl ⟨b,off,c,hv,rfl,?_⟩;rw [Ta,Sx];omega
   exact .inr h
  rw [hs];rcases T1.1 hr with h | h
  ·exact m9 r h
  exact hw r h
 have ly:∀x,x∈tk0->(e.own σ.nx p).M x=e.M x:=fun x hx=>by
  have:=hS.tkn x (ay x hx);simp only [Env.own];rw [Tb oM]
 have jk:(e.own σ.nx p).M σ.nx=p:=by simp [Env.own]
 have ik:∀b off,b<w.heap.size->okc e σ b off->okc (e.own σ.nx p) { σ with tk:=σ.nx::tk0,nx:=σ.nx+1 } b off:=fun b off hb ho=>by
  refine ⟨ho.1,ho.2.1,fun x hx q hq nw=>?_,ho.2.2.2⟩;rcases Tv.1 hx with rfl | hx
  ·rw [jk] at hq;rcases hp with h | ⟨b2,k,h,_,_,i5⟩
   ·rw [h] at hq;cases hq
   rw [h] at hq;cases hq;simp only at nw;subst nw;rcases i5 with ⟨a,o,c,hv,rfl,am⟩ | js
   ·obtain ⟨tok,fk,_,iz⟩:=fg _ o c hv;have:=ho.2.2.1 tok fk _ iz rfl;simp only at this |-;omega
   omega
  rw [ly x hx] at hq;exact ho.2.2.1 x (ay x hx) q hq nw
 have hst:Stepped e σ w (e.own σ.nx p) { σ with tk:=σ.nx::tk0,nx:=σ.nx+1 } w1:={
  len:=Tw _
  beta:=fun _ _=>rfl
  X:=rfl
  pres:=fun b off u hu ho=>⟨ik b off (Uz hu) ho,gp b off u hu ho⟩
  blocks:=fun b hb _ hn _=>jj b hb fun t ht _ q hq=>hn t ht q hq
  fhid:=fun b h=>.inr (.inr h)
  size:=cn
  os:=qh
  tape:=ky
  output:=ju
  fresh:=fun i h1 h2=>by simp only at h2;omega
  ftok:=fun x hx q hq=>by
   rcases Tv.1 hx with rfl | h
   ·rw [jk] at hq;rcases hp with h | ⟨b2,k,h,_,_,i5⟩
    ·rw [h] at hq;cases hq
    rw [h] at hq;cases hq;rcases i5 with ⟨a,o,c,hv,rfl,_⟩ | js
    ·obtain ⟨tok,fk,_,iz⟩:=fg _ o c hv;exact .inr (.inl ⟨tok,fk,_,iz,rfl⟩)
    exact .inl js
   rw [ly x h] at hq;exact .inr (.inl ⟨x,ay x h,q,hq,rfl⟩)
  nx:=by show σ.nx<=σ.nx+1;omega
  toks:=fun x hx hm=>by
   rcases Tv.1 hm with rfl | h
   ·omega
   exact ⟨ay x h,ly x h⟩
  own:=fun x hx hm q hq ab=>by
   rcases Tv.1 hm with rfl | h
   ·omega
   refine jj _ ab fun t fk kz r hr=>?_
   exact hS.dis t x fk (ay x h) (fun h'=>kz (h' ▸ h)) r q hr hq }
 have jd:∀b k,p=some (b,k)->G.nG<=b/\(∀i,i<σ.bx.length->e.β i≠b)/\(∀x,x∈tk0->∀q,e.M x=some q->q.1≠b)/\(∀off,k<=off->¬e.X b off)/\∃cs ty fz,w1.heap[b]?=some (.cells cs ty fz):=fun b k eh=>by
  rcases hp with h | ⟨b2,k2,h,hb,dk,i5⟩
  ·rw [h] at eh;cases eh
  rw [h] at eh;cases eh;refine ⟨hb,fun j hj h'=>?_,fun x hx q hq h'=>?_,fun off ho hX=>?_,dk⟩
  ·rcases i5 with ⟨a,o,c,hv,rfl,am⟩ | js
   ·obtain ⟨tok,fk,_,iz⟩:=fg _ o c hv;exact (hS.own tok fk _ iz).2.1 j hj h'
   have:=hS.lt hj;omega
  ·rcases i5 with ⟨a,o,c,hv,rfl,am⟩ | js
   ·obtain ⟨tok,fk,kz,iz⟩:=fg _ o c hv;exact hS.dis tok x fk (ay x hx) (fun h2=>kz (h2 ▸ hx)) _ q iz hq h'.symm
   obtain ⟨_,_,cs,tyy,fz,hh⟩:=hS.own x (ay x hx) q hq;have:=(Tr.1 hh).1;omega
  rcases i5 with ⟨a,o,c,hv,rfl,am⟩ | js
  ·obtain ⟨tok,fk,_,iz⟩:=fg _ o c hv;exact hS.xown tok fk _ iz off (by simp only;omega) hX
  have:=hS.xlt _ _ hX;omega
 have rc:∀b k,p=some (b,k)->∀q,e.H b≠some q:=fun b k eh q hq=>by
  obtain ⟨_,k2,_,k4,_⟩:=hS.hid b q hq;rcases hp with h | ⟨b2,k2,h,hb,dk,i5⟩
  ·rw [h] at eh;cases eh
  rw [h] at eh;cases eh;rcases i5 with ⟨a,o,c,hv,rfl,am⟩ | js
  ·obtain ⟨tok,fk,_,iz⟩:=fg _ o c hv;exact k4 tok fk _ iz rfl
  omega
 have hbH:∀b q,e.H b=some q->w1.heap[b]?=w.heap[b]?:=fun b q hq=>by
  obtain ⟨_,k2,_,k4,_⟩:=hS.hid b q hq;exact jj b k2 fun t ht _ r hr=>k4 t ht r hr
 refine ⟨e.own σ.nx p,hst,?_,?_⟩
 ·exact {
   hid:=fun b q hq=>by
    obtain ⟨k1,k2,k3,k4,k5⟩:=hS.hid b q hq;refine ⟨k1,TG k2 cn,k3,fun x hx r hr=>?_,k5⟩;rcases Tv.1 hx with rfl | h
    ·rw [jk] at hr;exact fun h=>rc r.1 r.2 hr q (by rw [h];exact hq)
    rw [ly x h] at hr;exact k4 x (ay x h) r hr
   inj:=hS.inj
   box:=fun k y hy=>by
    have hk:=(Ti.1 hy).1;exact (hS.box k y hy).step hst (jj _ (hS.lt hk) fun t ht _ q hq h=>(hS.own t ht q hq).2.1 k hk h.symm) fun b q hq _=>⟨hq,hbH b q hq⟩
   low:=hS.low
   tkn:=fun x hx=>by
    rcases Tv.1 hx with rfl | h
    ·show σ.nx<σ.nx+1;omega
    have:=hS.tkn x (ay x h);show x<σ.nx+1;omega
   own:=fun x hx q hq=>by
    rcases Tv.1 hx with rfl | h
    ·rw [jk] at hq;obtain ⟨h1,h2,_,_,h3⟩:=jd q.1 q.2 hq;exact ⟨h1,h2,h3⟩
    rw [ly x h] at hq;obtain ⟨h1,h2,cs,tyy,fz,hh⟩:=hS.own x (ay x h) q hq;refine ⟨h1,h2,cs,tyy,fz,(jj _ (Tr.1 hh).1 fun t fk kz r hr=>?_).trans hh⟩;exact hS.dis t x fk (ay x h) (fun h'=>kz (h' ▸ h)) r q hr hq
   dis:=fun x y hx hy wb q r hq hr=>by
    rcases Tv.1 hx with rfl | h1 <;> rcases Tv.1 hy with rfl | h2
    ·exact absurd rfl wb
    ·rw [jk] at hq;rw [ly y h2] at hr;exact fun h=>(jd q.1 q.2 hq).2.2.1 y h2 r hr h.symm
    ·rw [jk] at hr;rw [ly x h1] at hq;exact fun h=>(jd r.1 r.2 hr).2.2.1 x h1 q hq h
    rw [ly x h1] at hq;rw [ly y h2] at hr;exact hS.dis x y (ay x h1) (ay y h2) wb q r hq hr
   xlt:=fun b off hX=>TG (hS.xlt b off hX) cn
   xown:=fun x hx q hq off ho=>by
    rcases Tv.1 hx with rfl | h
    ·rw [jk] at hq;exact (jd q.1 q.2 hq).2.2.2.1 off ho
    rw [ly x h] at hq;exact hS.xown x (ay x h) q hq off ho
   glob:=fun b hb=>(jj b (TG hb hS.big) fun t ht _ q hq h=>by have:=(hS.own t ht q hq).1;omega).trans (hS.glob b hb)
   big:=Sc hS.big cn }
 refine .sl _ _ _ _ (by show σ.nx<σ.nx+1;omega) ?_ (fun _=>jw _ jk);rcases jv with ⟨rfl,aq⟩ | ⟨b,off,cap,cs,tyb,fz,rfl,hb,hc,hh,dk,kg,i5,xs,w7,aa6⟩
 ·rw [aq];exact .slnil
 have ez:Flat (okc (e.own σ.nx p) { σ with tk:=σ.nx::tk0,nx:=σ.nx+1 }) w1 (rows++more) (T.get el).size xs:=w7.mono fun y u h=>h.later hst.toLater
 refine ez.to_sl b off cap hc aa6 fun k hk=>?_
 have aa7:=jw (e.own σ.nx p) jk;rcases aa7 with ⟨h1,_⟩ | ⟨sz,il,ny,hq3,b',off',cap',cs',ty',fz',h1,_,_,_,_,_,pi⟩
 ·cases h1
 cases h1
 rw [jk] at pi;rw [hi] at il;simp only [So,Option.some.injEq] at il;subst il;obtain ⟨g1,g2,g3,g4,g5⟩:=jd _ _ pi;rw [w7.len] at hk;refine ⟨fun hX=>?_,g2,fun x hx q hq nw=>?_,fun q hq=>absurd hq (rc _ _ pi q)⟩
 ·rcases i5 with ⟨c,hv⟩ | js
  ·obtain ⟨tok,fk,_,iz⟩:=fg _ off c hv
   by_cases kh:k<rows.length * (T.get el).size
   ·subst hv;obtain ⟨olds,aw,ak,bq,gd⟩:=ZJ8 m9 ao hD;exact (bq k (by rw [aw.len];exact kh)).1 hX
   exact hS.xown tok fk _ iz (off+k) (by simp only;omega) hX
  have:=hS.xlt _ _ hX;omega
 rcases Tv.1 hx with rfl | h
 ·rw [jk,pi] at hq;cases hq;simp only;rw [hs];omega
 rw [ly x h] at hq;exact absurd nw (g3 x h q hq)
def ZaG (hT:TabOK T G.P) (hS:SRel G e σ w) {el:Nat} (cx:(T.get el).kind≠.other) {rows:List (List D)} {v:Value} (tk0:List Nat)
  (hO:(v=.slice none 0 0/\rows=[])\/∃tok,tok∈σ.tk/\tok∉tk0/\Owned G e w tok el rows v) :
  ((v = .slice none 0 0 /\ rows = []) \/ ∃ b off cap cs ty fz, v = .slice (some ⟨b, off, none⟩) rows.length cap /\ G.nG <= b /\ rows.length <= cap /\ w.heap[b]? = some (.cells cs ty fz) /\ (off + cap * (T.get el).size <= cs.size /\ off = 0 /\ ty = el /\ 0 < cap) /\
     (fz.1<=fz.2/\∀o,off+rows.length * (T.get el).size<=o->fz.1<=o->fz.2<=o)/\(∀i,i<σ.bx.length->e.β i≠b))/\(∀r∈rows,r.length=(T.get el).size) /\
     (∀a o c,v=.slice (some ⟨a,o,none⟩) rows.length c->∃tok,tok∈σ.tk/\tok∉tk0/\e.M tok=some (a,o+rows.length * (T.get el).size)):=by
 obtain ⟨i,d,z,hi,hd,hs,dq,bi,hz,co,ll,_⟩:=(hT.get cx).ex;rcases hO with ⟨rfl,rfl⟩ | ⟨tok,fk,kz,⟨rfl,rfl,_⟩ | ⟨sz,h1,h2,h3,b,off,cap,cs,tyb,fz,rfl,hb,hc,hh,dk,kg,iz⟩⟩
 ·exact ⟨.inl ⟨rfl,rfl⟩,fun r h=>(by cases h),fun a o c h=>by simp at h⟩
 ·exact ⟨.inl ⟨rfl,rfl⟩,fun r h=>(by cases h),fun a o c h=>by simp at h⟩
 rw [hi] at h1;simp only [So,Option.some.injEq] at h1;subst h1;rw [hs] at h3 dk kg iz;exact ⟨.inr ⟨b,off,cap,cs,tyb,fz,rfl,hb,hc,hh,dk,kg,(hS.own tok fk _ iz).2.1⟩,h3,fun a o c hv=>by cases hv;exact ⟨tok,fk,kz,iz⟩⟩
def ZgK (hT:TabOK T G.P) (hS:SRel G e σ w) {t tx el ty:Nat} (ml:(T.get t).kind=.slice el) (cx:(T.get el).kind≠.other) (ao:0<(T.get el).size)
  {rows more:List (List D)} {v vx:Value} {px:PV} (hD:DRel (okc e σ) w (.sl rows) v) (tk0:List Nat) (ay:∀x,x∈tk0->x∈σ.tk)
  (hO:(v=.slice none 0 0/\rows=[])\/∃tok,tok∈σ.tk/\tok∉tk0/\Owned G e w tok el rows v)
  (hm:Vn T tx el px=some more) (hx:VRel G e σ w px vx) (hw:∀r∈more,r.length=(T.get el).size)
  (jt:(rows.length+more.length) * (T.get el).bytes<=2 ^ 47) (aa:rows.length+more.length<=2 ^ 47) :
  ∃v' w1 e1,(Builtin.append_ #[t,tx] ty #[v,vx]).run G.P w=.ok v' w1/\Stepped e σ w e1 { σ with tk:=σ.nx::tk0,nx:=σ.nx+1 } w1/\SRel G e1 { σ with tk:=σ.nx::tk0,nx:=σ.nx+1 } w1 /\
   VRel G e1 { σ with tk:=σ.nx::tk0,nx:=σ.nx+1 } w1 (.sl σ.nx el (rows++more)) v':=by
 obtain ⟨i,d,z,hi,hd,hs,dq,bi,hz,co,ll,_⟩:=(hT.get cx).ex;obtain ⟨news,kw,dt⟩:=Zya hT hm hx hw ao rfl;obtain ⟨w8,m9,fg⟩:=ZaG hT hS cx tk0 hO;obtain ⟨v',w1,ai,qh,ky,ju,cn,bf,gj,jv⟩:=ZgJ (ty:=ty) hT hS ml cx ao hD m9 w8 kw dt jt aa;obtain ⟨e1,h1,h2,h3⟩:=JS hT hS cx ao hD tk0 ay m9 hw fg qh ky ju cn bf gj jv;exact ⟨v',w1,e1,ai,h1,h2,h3⟩
def JT {ok:Nat->Nat->Prop}:∀{l:List PV} {r:List D},ZpG l=some r->r.length=l.length/\∀(i:Nat) (x:PV) (y:D),l[i]?=some x->r[i]?=some y->toD x=some y
 | [],r,h=>by cases h;exact ⟨rfl,fun i x y hx=>by simp at hx⟩
 | v::l,r,h=>by
  simp only [ZpG] at h;split at h
  ·rename_i d hd
   split at h
   ·rename_i r' hr
    cases h
    obtain ⟨h1,h2⟩:=JT (ok:=ok) hr;refine ⟨by simp [h1],fun i x y hx hy=>?_⟩
    cases i with
    | zero=>simp at hx hy;subst hx;subst hy;exact hd
    | succ i=>exact h2 i x y (by simpa using hx) (by simpa using hy)
   cases h
  cases h
def ZjT {ρ:Operand->PV} {ρ':Operand->Value} (hρ:∀x,VRel G e σ w (ρ x) (ρ' x)) {sz:Nat} (ao:0<sz) :
  ∀(ps:List (Nat×Operand)) (rows rows':List (List D)) (vs:Array Value),Flat (okc e σ) w rows sz vs.toList->(∀u∈vs,u.oneCell'=true)->Wv sz ρ ps rows=some rows' ->
   ∃vs':Array Value,Instr.fill (fun i=>some (i * sz,sz)) vs (ps.map fun p=>(p.1,ρ' p.2))=some vs'/\Flat (okc e σ) w rows' sz vs'.toList/\rows'.length=rows.length/\(∀u∈vs',u.oneCell'=true)
 | [],rows,rows',vs,hf,h1,h=>by cases h;exact ⟨vs,rfl,hf,rfl,h1⟩
 | (i,x)::ps,rows,rows',vs,hf,h1,h=>by
  simp only [Wv] at h;split at h
  ·rename_i r hr
   split at h
   ·rename_i aa ab
    have e1:=Tl aa;have e2:=Td ab;unfold ZlU at hr
    split at hr
    ·rename_i l hl
     obtain ⟨dg,bw⟩:=VW (hρ x) hl;obtain ⟨dz,cf⟩:=JT (ok:=okc e σ) hr;have ca:vs.size=rows.length * sz:=by have:=hf.len;simpa using this
     have hsz:(ρ' x).cells.size=sz:=by rw [dg,<- dz,e1]
     have qx:i * sz+sz<=rows.length * sz:=by
      calc i * sz+sz=(i+1) * sz:=by rw [Sx,Nat.one_mul]
       _<=rows.length * sz:=T9 _ e2
     simp only [Tz,Instr.fill];rw [Tb (by rw [hsz,ca];simp;omega)];rw [ZrE];have cg:∀k,((((ρ' x).cells.toList.zipIdx 0).foldl (fun cs (p:Value×Nat)=>cs.setIfInBounds (i * sz+p.2) p.1) vs))[k]?=if i * sz<=k/\k<i * sz+sz then (ρ' x).cells[k - i * sz]? else vs[k]?:=fun k=>by
      rw [Zep];simp only [SQ,Sy,hsz,TB]
      by_cases hk:i * sz<=k/\k<i * sz+sz
      ·rw [Tg hk,Tg ⟨hk.1,hk.2,oM⟩]
      rw [Tb hk,Tb oM]
     have cn:((((ρ' x).cells.toList.zipIdx 0).foldl (fun cs (p:Value×Nat)=>cs.setIfInBounds (i * sz+p.2) p.1) vs)).size=vs.size:=Zc2 vs (i * sz) (ρ' x).cells.toList 0 vs;generalize ((((ρ' x).cells.toList.zipIdx 0).foldl (fun cs (p:Value×Nat)=>cs.setIfInBounds (i * sz+p.2) p.1) vs))=vs2 at cg cn |-;have tn:Flat (okc e σ) w (rows.set i r) sz vs2.toList:=by
      refine ⟨by rw [Sy,cn,ca,SK],fun r' nt=>?_,fun a b y u hb hy hu=>?_⟩
      ·rcases List.mem_or_eq_of_mem_set nt with h' | rfl
       ·exact hf.wid r' h'
       exact e1
      rw [TB,cg] at hu
      by_cases hai:a=i
      ·subst hai;rw [Tg ⟨oM,oM⟩,show a * sz+b - a * sz=b by omega] at hu;rw [SJ oM] at hy;simp only [Option.bind_some] at hy;have cm:b<l.length:=oM;have:=cf b l[b] y (Tc cm) hy;exact WY this (bw b l[b] u (Tc cm) hu).1
      rw [SV (Ne.symm hai)] at hy;have aj:¬(i * sz<=a * sz+b/\a * sz+b<i * sz+sz):=fun hh=>by
       rcases Nat.lt_or_gt_of_ne hai with h' | h'
       ·have:(a+1) * sz<=i * sz:=T9 _ h';rw [Sx,Nat.one_mul] at this;omega
       have:(i+1) * sz<=a * sz:=T9 _ h';rw [Sx,Nat.one_mul] at this;omega
      rw [Tb aj] at hu;exact hf.rel a b y u hb hy (by rw [TB];exact hu)
     have w9:∀u∈vs2,u.oneCell'=true:=by
      intro u hu
      obtain ⟨k,hk,rfl⟩:=SU hu;have h3:=cg k;rw [TC hk] at h3
      by_cases bm:i * sz<=k/\k<i * sz+sz
      ·rw [Tg bm] at h3;have cm:k - i * sz<l.length:=oM;exact (bw (k - i * sz) l[k - i * sz] _ (Tc cm) h3.symm).2
      rw [Tb bm] at h3;exact h1 _ (Sk h3.symm)
     obtain ⟨vs',q1,q2,q3,q4⟩:=ZjT hρ ao ps (rows.set i r) rows' vs2 tn w9 h;exact ⟨vs',q1,q2,by rw [q3,SK],q4⟩
    cases hr
   cases h
  cases h
def Zan (hT:TabOK T G.P) {ρ:Operand->PV} {ρ':Operand->Value} (hρ:∀x,VRel G e σ w (ρ x) (ρ' x)) {t n el:Nat} {ps:Array (Nat×Operand)} {zero:List D} {rows:List (List D)}
  (ml:(T.get t).kind=.slice el) (cx:(T.get el).kind≠.other) (eo:ZpG (T.get el).zero=some zero) (ao:1<=zero.length) (cy:n * zero.length<=16777216) (bz:Zcf zero ρ n ps.toList=some rows) :
  ∃vs',(Instr.buildSlice t n (ps.map fun p=>(p.1,ρ' p.2))).run G.P w=.ok (.slice (some ⟨w.heap.size,0,none⟩) n n) (w.alloc (.cells vs' el))/\Flat (okc e σ) w rows zero.length vs'.toList/\rows.length=n/\zero.length=(T.get el).size:=by
 obtain ⟨ti,td,tz,nv,tj,_,_,az,_,_,_⟩:=(hT.get (t:=t) (by rw [ml];simp)).ex;rw [ml] at az;cases az;obtain ⟨i,d,z,hi,hd,hs,dq,bi,hz,co,ll,_⟩:=(hT.get cx).ex;obtain ⟨dz,cf⟩:=JT (ok:=okc e σ) eo;have qi:i.size=zero.length:=by rw [hs,<- ll,dz]
 obtain ⟨sy,nd⟩:=X8 (G:=G) (e:=e) (σ:=σ) (w:=w) co;have wa:z.cells.size=zero.length:=by rw [dz,<- sy];simp
 have hsz:0<zero.length:=ao;have h0:Flat (okc e σ) w (List.replicate n zero) zero.length ((Array.range (n * zero.length)).map (fun k=>z.cells[k % z.cells.size]!)).toList:=by
  exact mq27
 have h01:∀u∈(Array.range (n * zero.length)).map (fun k=>z.cells[k % z.cells.size]!),u.oneCell'=true:=fun u hu=>by
  obtain ⟨k,hk,rfl⟩:=Array.mem_map.1 hu;have hm:k % z.cells.size<z.cells.size:=Nat.mod_lt _ oM;rw [getElem!_pos z.cells _ hm];have cm:k % z.cells.size<(T.get el).zero.length:=oM;exact (nd _ _ _ (Tc cm) (by rw [TB,TC hm])).2
 obtain ⟨vs',q1,q2,q3,q4⟩:=ZjT hρ hsz ps.toList _ rows _ h0 h01 bz;rw [List.length_replicate] at q3;have ai:(Instr.buildSlice t n (ps.map fun p=>(p.1,ρ' p.2))).run G.P w=.ok (.slice (some ⟨w.heap.size,0,none⟩) n n) (w.alloc (.cells vs' el)):=by
  unfold Instr.buildSlice
  simp only [Sem.run_bind,Za tj,Result.andThen,ZA hi,qi];rw [Tb oM];have tq:(ps.map fun p=>(p.1,ρ' p.2)).toList=ps.toList.map fun p=>(p.1,ρ' p.2):=sM
  split
  ·rename_i h0'
   have fb:(Array.range (n * zero.length)).map (fun k=>(#[]:Array Value)[k % (#[]:Array Value).size]!)=(Array.range (n * zero.length)).map (fun k=>z.cells[k % z.cells.size]!):=by
    rw [h0'];simp
   simp only [Sem.run_bind,Sem.run_pure,Result.andThen];rw [fb,tq,q1];exact mq96
  simp only [Sem.run_bind,Sem.run_pure,Result.andThen,zeroValue,Yq hi,hz];rw [tq,q1];exact mq96
 exact ⟨vs',ai,q2,q3,by rw [<- qi,hs]⟩
def ZdB (hT:TabOK T G.P) (hS:SRel G e σ w) {ρ:Operand->PV} {ρ':Operand->Value} (hρ:∀x,VRel G e σ w (ρ x) (ρ' x)) {t n el:Nat} {ps:Array (Nat×Operand)} {zero:List D} {rows:List (List D)}
  (ml:(T.get t).kind=.slice el) (cx:(T.get el).kind≠.other) (eo:ZpG (T.get el).zero=some zero) (ao:1<=zero.length) (cy:n * zero.length<=16777216) (bz:Zcf zero ρ n ps.toList=some rows) :
  ∃v w1,(Instr.buildSlice t n (ps.map fun p=>(p.1,ρ' p.2))).run G.P w=.ok v w1/\Grows w w1/\DRel (okc e σ) w1 (.sl rows) v:=by
 obtain ⟨vs',ai,q2,aa,_⟩:=Zan (ρ':=ρ') hT hρ ml cx eo ao cy bz;refine ⟨_,_,ai,Grows.alloc w _,?_⟩;have hg:=Grows.alloc w (.cells vs' el);have hst:=hg.stepped e σ;have ez:Flat (okc e σ) (w.alloc (.cells vs' el)) rows zero.length vs'.toList:=q2.mono fun y u h=>h.later hst.toLater
 have:=ez.to_sl w.heap.size 0 n oM (fun k u hk=>by
  simp only [World.cell?,Se];rw [heap_alloc_new w (.cells vs' el)];simpa using hk) (fun k hk=>hS.fresh_okc _)
 rwa [aa] at this
def Zer (hT:TabOK T G.P) (hS:SRel G e σ w) {t n el:Nat} {zero:List D}
  (ml:(T.get t).kind=.slice el) (cx:(T.get el).kind≠.other) (eo:ZpG (T.get el).zero=some zero) (ao:1<=zero.length) (cy:n * zero.length<=16777216) (ki:n * (T.get el).bytes<=16777216) :
  ∃v w1,(Instr.makeSlice t (.int .i64 n) (.int .i64 n)).run G.P w=.ok v w1/\Grows w w1/\DRel (okc e σ) w1 (.sl (List.replicate n zero)) v:=by
 obtain ⟨ti,td,tz,nv,tj,_,_,az,_,_,_⟩:=(hT.get (t:=t) (by rw [ml];simp)).ex;rw [ml] at az;cases az;obtain ⟨i,d,z,hi,hd,hs,dq,bi,hz,co,ll,_⟩:=(hT.get cx).ex;obtain ⟨dz,cf⟩:=JT (ok:=okc e σ) eo;have qi:i.size=zero.length:=by rw [hs,<- ll,dz]
 obtain ⟨sy,nd⟩:=X8 (G:=G) (e:=e) (σ:=σ) (w:=w) co;have wa:z.cells.size=zero.length:=by rw [dz,<- sy];simp
 have hsz:0<zero.length:=ao;have hn:n<=16777216:=Sc (Nat.le_mul_of_pos_right n hsz) cy;obtain ⟨V,hV⟩:∃V,(Array.range (n * zero.length)).map (fun k=>z.cells[k % z.cells.size]!)=V:=⟨_,rfl⟩
 have h0:Flat (okc e σ) w (List.replicate n zero) zero.length V.toList:=by
  rw [<- hV];exact mq27
 have hwr:IntKind.i64.wrap (n:Int)=n:=by
  unfold IntKind.wrap
  exact mq141
 have og:(decide ((n:Int)<0) || decide ((i.bytes:Int) * (n:Int)>2 ^ 48))=false:=by
  have:(i.bytes:Int) * (n:Int)=((n * (T.get el).bytes:Nat):Int):=by rw [dq];push_cast;exact Int.mul_comm _ _
  rw [this];simp only [Sd,decide_eq_false_iff_not];exact ⟨oM,oM⟩
 have ai:(Instr.makeSlice t (.int .i64 n) (.int .i64 n)).run G.P w=.ok (.slice (some ⟨w.heap.size,0,none⟩) n n) (w.alloc (.cells V el)):=by
  unfold Instr.makeSlice
  have ha:Sem.run G.P (asIntOf (.int .i64 (n:Int))) w=.ok (.i64,(n:Int)) w:=rfl;have oa:decide ((n:Int)<0)=false:=decide_eq_false oM;have du:decide ((n:Int)>(n:Int))=false:=decide_eq_false oM;have fc:decide ((i.bytes:Int) * (n:Int)>2 ^ 48)=false:=by
   rw [Sd] at og;exact og.2
  have kx:(askRoom (n * i.bytes)).run G.P w=.ok () w:=by
   unfold askRoom
   rw [Tb (by rw [dq];unfold roomBytes;omega)];rfl
  simp only [Sem.run_bind,Za tj,Result.andThen,asInt,Functor.map,Sem.run_pure,Yq hi,ha,hwr,oa,du,fc,SG,Tx,if_false,Tn,kx,ZA hi,qi];split
  ·rename_i h0'
   have fb:(Array.range (n * zero.length)).map (fun k=>(#[]:Array Value)[k % (#[]:Array Value).size]!)=V:=by
    rw [<- hV,h0'];simp
   simp only [Sem.run_bind,Sem.run_pure,Result.andThen];rw [fb];exact mq96
  simp only [Sem.run_bind,Sem.run_pure,Result.andThen,zeroValue,Yq hi,hz];rw [hV];exact mq96
 refine ⟨_,_,ai,Grows.alloc w _,?_⟩;have hg:=Grows.alloc w (.cells V el);have hst:=hg.stepped e σ;have ez:Flat (okc e σ) (w.alloc (.cells V el)) (List.replicate n zero) zero.length V.toList:=h0.mono fun y u h=>h.later hst.toLater
 have:=ez.to_sl w.heap.size 0 n (by rw [List.length_replicate];exact Tw _) (fun k u hk=>by
  simp only [World.cell?,Se];rw [heap_alloc_new w (.cells V el)];simpa using hk) (fun k hk=>hS.fresh_okc _)
 rwa [List.length_replicate] at this
def ZpO (hT:TabOK T G.P) (hS:SRel G e σ w) {K:PV->St->Prop} {ρ:Operand->PV} {ρ':Operand->Value} (hρ:∀x,VRel G e σ w (ρ x) (ρ' x)) (o:Oper) (h:ZDj T o.op ρ σ K) :
  ∃pv σ1 v w1 e1,K pv σ1/\(execOp ρ' o).run G.P w=.ok (.value v) w1/\Stepped e σ w e1 σ1 w1/\SRel G e1 σ1 w1/\VRel G e1 σ1 w1 pv v:=by
 unfold ZDj at h
 split at h
 ·rename_i t n ps ho
  split at h
  ·rename_i el hk
   split at h
   ·exact h.elim
   rename_i bm
   split at h
   ·rename_i zero eo
    split at h
    ·rename_i rows ao cy hn bz
     have hn:=Td hn;obtain ⟨vs',ai,d7,aa,hzs⟩:=Zan (ρ':=ρ') hT hρ hk (fun h0=>bm h0) eo (Td ao) (Td cy) bz;rw [hzs] at d7;have ca:vs'.size=n * (T.get el).size:=by have:=d7.len;rw [aa,Sy] at this;exact this
     obtain ⟨e1,h1,h2,h3⟩:=JS (more:=rows) (v':=.slice (some ⟨w.heap.size,0,none⟩) n n) (w1:=w.alloc (.cells vs' el)) hT hS (fun h0=>bm h0) (by have:=Td ao;omega) (.slnil) σ.tk (fun _ h=>h) (fun r hr=>by cases hr) (fun r hr=>d7.wid r hr)
      (fun a o c hv=>by simp at hv) rfl rfl rfl (Grows.alloc w _).size (fun b off u hu _=>.inl (by rw [(Grows.alloc w _).cell (Uz hu)];exact hu)) (fun b hb _=>heap_alloc_old w _ b hb)
      (.inr ⟨w.heap.size,0,n,vs',el,(0,0),by simp [aa],hS.big,by simp [aa],heap_alloc_new w _,⟨oM,rfl,rfl,oM⟩,⟨Tw _,fun o _ _=>sM⟩,.inr (Tw _),vs'.toList,by simpa using d7,fun k u hk=>by
       simp only [World.cell?,Se];rw [heap_alloc_new w (.cells vs' el)];simpa using hk⟩)
     refine ⟨_,_,_,_,e1,h,?_,h1,h2,h3⟩;exact mq116
    exact h.elim
   exact h.elim
  exact h.elim
 ·rename_i s d x ho
  have hx:=hρ x;split at h
  ·rename_i el hk
   obtain ⟨i,ds,z,hi,hd,hs,dq,az,hz,co,_⟩:=(hT.get (t:=s) (by rw [hk];simp)).ex;rw [hk] at az;cases az;split at h
   ·rename_i b off n bm gc od
    obtain ⟨i2,dd,z2,af,cf,em,ja,bi,co,sw,_⟩:=(hT.get (t:=d) (by rw [bm];simp)).ex;rw [bm] at bi;cases bi;obtain ⟨i3,de,z3,hi3,sx,hs3,w6,kq,sy,aa1,_⟩:=(hT.get (t:=el) (by rw [gc];simp)).ex;rw [gc] at kq;cases kq;rw [od] at hx;split at h
    ·rename_i tb cs dx
     obtain ⟨l,sv,cp,hK⟩:=h;generalize hv:ρ' x=vx at hx
     cases hx with
     | asl _ _ _ hb =>
     refine ⟨_,_,_,_,e,hK,?_,Stepped.refl e σ w,hS,.mkstr⟩;unfold execOp
     simp only [ho,convert,Sem.run_bind,Za hd,Za cf,Result.andThen,hv];simp only [Za sx,Sem.run_bind,Result.andThen,ZrF (hS.box b _ dx) cp sv,Sem.run_pure]
    exact h.elim
   exact h.elim
  exact h.elim
 ·rename_i t ho
  split at h
  ·rename_i kt el hk
   split at h
   ·rename_i el2 bm
    obtain ⟨h1,h2,h3⟩:=Jf hS (.smap el2 [] none) (.map #[] 0) fun e1 σ1 w1 _ hh=>(by
     refine ⟨#[],⟨[],0,hh,rfl,rfl,fun i u hu=>?_⟩,fun i u x hu hx=>?_,fun kv gf=>?_,List.nodup_nil⟩
     ·simp at hu
     ·simp at hu
     cases gf)
    refine ⟨_,_,.map (some w.heap.size),_,_,h,?_,h1,h2,?_⟩
    ·exact mq140
    have:=VRel.mp (G:=G) (e:=e.more σ.bx.length w.heap.size) (σ:=σ.new (.smap el2 [] none)) (w:=w.alloc (.map #[] 0)) σ.bx.length (by rw [ZJ1];omega)
    rwa [show (e.more σ.bx.length w.heap.size).β σ.bx.length=w.heap.size by simp [Env.more]] at this
   exact h.elim
  exact h.elim
 exact h.elim
def ZpP (hT:TabOK T G.P) (hS:SRel G e σ w) {K:PV->Prop} {ρ:Operand->PV} {ρ':Operand->Value} (hρ:∀x,VRel G e σ w (ρ x) (ρ' x)) (o:Oper) (h:ZhY T o.op o.type ρ σ.bx K) :
  ∃pv v w1,K pv/\Grows w w1/\VRel G e σ w1 pv v/\(execOp ρ' o).run G.P w=.ok (.value v) w1:=by
 unfold ZhY at h
 split at h
 ·rename_i x hx
  unfold ZlT at hx
  split at hx
  ·rename_i s d x' ho
   split at hx
   ·rename_i dj
    split at hx
    ·rename_i el az
     split at hx
     ·rename_i z8
      cases hx
      obtain ⟨i1,d1,z1,z6,dz,lw,ae9,xa,_⟩:=(hT.get (t:=s) (by rw [dj];simp)).ex;obtain ⟨i2,d2,z2,af,cf,em,ja,bi,_⟩:=(hT.get (t:=d) (by rw [az];simp)).ex;obtain ⟨i3,d3,z3,hi3,sx,hs3,w6,kq,_⟩:=(hT.get (t:=el) (by rw [z8];simp)).ex;rw [dj] at xa;rw [az] at bi;rw [z8] at kq;obtain rfl:d1=.string:=xa;obtain rfl:d2=.slice el:=bi;obtain rfl:d3=.int .u8:=kq;have hx:=hρ x;split at h
      ·rename_i l bu
       rw [bu] at hx;have hg:Grows w (Lib.bytesWorld w el ⟨l.toArray⟩):=⟨rfl,rfl,rfl,by rw [Lib.bytesWorld_size];omega,fun b hb=>Lib.bytesWorld_at_old w el _ b hb⟩
       refine ⟨_,.slice (some ⟨w.heap.size,0,none⟩) l.length (grownCap w l.length 0 el),_,h,hg,?_,?_⟩
       ·refine .d _ _ ?_;have:=DRel.sl (ok:=okc e σ) (w:=Lib.bytesWorld w el ⟨l.toArray⟩) (l.map fun b:UInt8=>[D.int .u8 b.toNat]) w.heap.size 0 (grownCap w l.length 0 el) 1 (fun i _=>.int .u8 (l.getD i 0).toNat) ?_ ?_ ?_ ?_ ?_
        ·simpa using this
        ·simp only [Tf];exact grownCap_ge w l.length 0 el
        ·intro r hr;simp only [Sh] at hr;obtain ⟨b,_,rfl⟩:=hr;rfl
        ·intro i j hi hj
         simp only [Tf] at hi;have:j=0:=oM;subst this;simp only [Se,Nat.mul_one,SQ];have:=Lib.bytesWorld_cell w el ⟨l.toArray⟩ i (show i<l.toArray.size by simpa using hi);simpa using this
        ·intro i j hi hj
         exact hS.fresh_okc _
        intro i j y hy
        rw [Tk] at hy
        cases dh:l[i]? with
        | none=>rw [dh] at hy;simp at hy
        | some b =>
        rw [dh] at hy
        cases j with
        | zero=>simp at hy;subst hy;simp only [T5,dh,SE];exact .int _ _
        | succ j=>simp at hy
       unfold execOp
       simp only [ho,hx.dstr];rw [Sem.run_bind,Lib.run_convert_string_bytes w s d el ⟨l.toArray⟩ dz cf sx];rfl
      exact h.elim
     cases hx
    cases hx
   cases hx
  cases hx
 split at h
 ·rename_i t n ps ho
  split at h
  ·rename_i el hk
   split at h
   ·exact h.elim
   rename_i bm
   split at h
   ·rename_i zero eo
    split at h
    ·rename_i rows ao cy bz
     obtain ⟨v,w1,ai,hg,hD⟩:=ZdB hT hS hρ hk (fun h0=>bm h0) eo (Td ao) (Td cy) bz;refine ⟨_,v,w1,h,hg,.d _ _ hD,?_⟩;exact mq116
    exact h.elim
   exact h.elim
  exact h.elim
 ·rename_i t l c ho
  split at h
  ·rename_i el hk
   split at h
   ·exact h.elim
   rename_i bm
   split at h
   ·rename_i zero n m eo hl hc
    obtain ⟨rfl,ao,cy,ki,h⟩:=h;obtain ⟨v,w1,ai,hg,hD⟩:=Zer hT hS hk (fun h0=>bm h0) eo ao cy ki;refine ⟨_,v,w1,h,hg,.d _ _ hD,?_⟩;have e1:ρ' l=.int .i64 (n:Int):=by have:=hρ l;rw [hl] at this;exact this.dint
    have e2:ρ' c=.int .i64 (n:Int):=by have:=hρ c;rw [hc] at this;exact this.dint
    unfold execOp
    simp only [ho,Sem.run_bind,e1,e2];rw [ai];rfl
   exact h.elim
  exact h.elim
 obtain ⟨pv,v,h1,h2,h3⟩:=ZrG hT hS hρ o h;exact ⟨pv,v,w,h1,Grows.refl w,h2,h3⟩
def ZgL {P:Program} {r ck ck':Nat} {es es':Array MapEntry} (h:w.heap[r]?=some (.map es ck)):(setObj r (.map es' ck')).run P w=.ok () (w.putObj r (.map es' ck')):=by
 simp only [setObj,Sem.run,h,World.putObj]
def MRel.step {e':Env} {σ':St} {w':World} (hs:Stepped e σ w e' σ' w'):∀{cs:List PV} {l:List MapEntry},MRel G e σ w cs l->MRel G e' σ' w' cs l
 | [],[],_=>trivial
 | [],_::_,h=>h.elim
 | .d (.str k)::x::cs,u::l,h=>⟨h.1,h.2.1.step hs,MRel.step hs h.2.2⟩
 | .d (.str _)::_::_,[],h=>h.elim
 | [.d (.str _)],_,h=>by cases h
def MRel.push {k:List UInt8} {x:PV} {u:MapEntry} (h1:u.key=.string ⟨k.toArray⟩) (h2:VRel G e σ w x u.val):∀{cs:List PV} {l:List MapEntry},MRel G e σ w cs l->MRel G e σ w (cs++[.d (.str k),x]) (l++[u])
 | [],[],_=>⟨h1,h2,trivial⟩
 | [],_::_,h=>h.elim
 | .d (.str _)::y::cs,v::l,h=>⟨h.1,h.2.1,MRel.push h1 h2 h.2.2⟩
 | .d (.str _)::_::_,[],h=>h.elim
 | [.d (.str _)],_,h=>by cases h
def Zvr {px:PV} {x:MV} {v:Value} (h:ZG6 px=some x) (hv:VRel G e σ w px v):VRel G e σ w x.pv v:=by
 unfold ZG6 at h
 split at h
 ·rename_i cs
  split at h
  ·rename_i l hl
   cases h
   cases hv with
   | agg _ vs h1 h2 h3 =>
   obtain ⟨g1,g2⟩:=JT (ok:=fun _ _=>True) hl;refine .agg _ vs (by rw [h1,Tf,g1]) (fun i y u hy hu=>?_) h3;rw [Tk] at hy;obtain ⟨d,hd,rfl⟩:=TF.1 hy;have hi:=(Ti.1 hd).1;have hc:cs[i]?=some cs[i]:=Tc oM;exact .d _ _ (WY (g2 i _ d hc hd) (h2 i _ u hc hu))
  cases h
 split at h
 ·rename_i y hy
  cases h
  exact .d _ _ (WY hy hv)
 cases h
def Zci {t el kt:TypeId} (hd:G.P.underlying t=some (.map kt el)) (dj:G.P.underlying kt=some .string) {key:List UInt8} {px:PV} {vx:Value} {cs:List PV} {bn:List Nat} {ck b:Nat} (hB:BRel G e σ w (.map cs bn ck) b) (hx:VRel G e σ w px vx) :
  ∃w1,(Instr.mapUpdate t (.map (some b)) (.string ⟨key.toArray⟩) vx).run G.P w=.ok () w1/\(w1.os=w.os/\w1.tape=w.tape/\w1.output=w.output/\w1.heap.size=w.heap.size/\∀k,k≠b->w1.heap[k]?=w.heap[k]?) /\
   ((∃cs',ZpH key px cs=some cs'/\∀σ1,Stepped e σ w e σ1 w1->BRel G e σ1 w1 (.map cs' bn ck) b)\/(ZpH key px cs=none/\∀σ1,Stepped e σ w e σ1 w1->BRel G e σ1 w1 (.map (cs++[.d (.str key),px]) (bn++[ck]) (ck+1)) b)) /\
   ∃(es es':Array MapEntry) (ck':Nat),w.heap[b]?=some (.map es ck)/\w1.heap[b]?=some (.map es' ck')/\∀(i:Nat) (u:MapEntry),es'[i]?=some u->u.key≠.string ⟨key.toArray⟩->es[i]?=some u:=by
 obtain ⟨es,g1,g2,g3⟩:=hB.mrel;have ab:b<w.heap.size:=(Tr.1 g1).1;have h0:(getObj b).run G.P w=.ok (.map es ck) w:=by simp only [getObj,Sem.run,g1]
 have h1:=ZaD dj false ⟨key.toArray⟩ w;have other:∀ob:Obj,(w.putObj b ob).os=w.os/\(w.putObj b ob).tape=w.tape/\(w.putObj b ob).output=w.output/\(w.putObj b ob).heap.size=w.heap.size/\∀k,k≠b->(w.putObj b ob).heap[k]?=w.heap[k]?:=fun ob=>⟨rfl,rfl,rfl,World.putObj_size,fun k hk=>World.putObj_heap_other hk⟩
 rcases Wa (n:=0) (key:=key) g2 with ⟨x,v,j,q1,q2,q3,_,q5,q6,en,q7,q8⟩ | ⟨q1,q2,q3⟩
 ·obtain ⟨cs',q9,q10⟩:=q6 px vx hx;have h2:=JQ (P:=G.P) dj q2 w;simp only [Nat.sub_zero] at q5 q7 q10;have q7':es[j]?=some en:=by rw [<- TB];exact q7
  have hl:(es.modify j fun e0=>{ e0 with key:=.string ⟨key.toArray⟩,val:=vx }).toList=es.toList.modify j fun e0=>{ e0 with key:=.string ⟨key.toArray⟩,val:=vx }:=sM
  refine ⟨w.putObj b (.map (es.modify j fun e0=>{ e0 with key:=.string ⟨key.toArray⟩,val:=vx }) ck),?_,other _,.inl ⟨cs',q9,fun σ1 hst=>.ofM (World.putObj_heap_same ab) (by rw [hl];exact q10.step hst) (by
    rw [hl,<- g3]
    apply List.ext_getElem?
    intro i
    rw [Tk,Tk,List.getElem?_modify]
    cases es.toList[i]? with
    | none=>rfl
    | some e0 =>
     simp only [Option.map_eq_map,So];split <;> rfl)⟩,es,_,ck,g1,World.putObj_heap_same ab,fun i u hu aj=>by
    rw [SL] at hu;split at hu
    ·obtain ⟨e0,_,rfl⟩:=TF.1 hu;exact absurd rfl aj
    exact hu⟩
  unfold Instr.mapUpdate
  have h3:(Instr.keyThatStays en.key (.string ⟨key.toArray⟩)).run G.P w=.ok (.string ⟨key.toArray⟩) w:=by
   unfold Instr.keyThatStays
   rw [q8,Tg]
   ·rfl
   show ((⟨key.toArray⟩:ByteArray) == ⟨key.toArray⟩)=true;rw [ZnP];simp
  simp only [Sem.run_bind,Za hd,Result.andThen,h0,h1,h2,q7',So,SE,h3,ZgL g1]
 have h2:=JQ (P:=G.P) dj q2 w;refine ⟨w.putObj b (.map (es.push { key:=.string ⟨key.toArray⟩,val:=vx,born:=ck }) (ck+1)),?_,other _,.inr ⟨q3 px,fun σ1 hst=>.ofM (World.putObj_heap_same ab) (by rw [Array.toList_push];exact MRel.step hst (MRel.push rfl hx g2)) (by rw [Array.toList_push,Su,g3];rfl)⟩,es,_,ck+1,g1,World.putObj_heap_same ab,fun i u hu aj=>by
   rw [Array.getElem?_push] at hu;split at hu
   ·cases hu;exact absurd rfl aj
   exact hu⟩
 unfold Instr.mapUpdate
 simp only [Sem.run_bind,Za hd,Result.andThen,h0,h1,h2,ZgL g1]
def ZgM {k:List UInt8} {v v0:PV}:∀{l:List (List UInt8×List (List D))},k∉l.map (·.1)->U2 l (some (k,v0))=U2 l (some (k,v))
 | [],_=>rfl
 | (x,r)::l,h=>by
  simp only [Tz,Tv,not_or] at h;have hx:¬x=k:=fun e=>h.1 e.symm
  simp only [U2,ZjI,decide_eq_false hx];rw [ZgM (v:=v) (v0:=v0) h.2]
def ZjU {k:List UInt8} {v v0:PV}:∀{m:List (List UInt8×List (List D))},(m.map (·.1)).Nodup->ZpH k v (U2 m (some (k,v0)))=some (U2 (Y5 k [] m) (some (k,v)))\/(ZpH k v (U2 m (some (k,v0)))=none/\U2 (Y5 k [] m) (some (k,v))=U2 m (some (k,v0))++[.d (.str k),v])
 | [],_=>.inr ⟨rfl,by simp [U2,Y5,ZjI]⟩
 | (x,r)::l,h=>by
  simp only [Tz,List.nodup_cons] at h;simp only [U2,ZpH,Y5]
  by_cases hk:k=x
  ·subst hk
   left
   simp only [decide_true,U2,ZjI];rw [ZgM h.1]
  have hx:¬x=k:=fun e=>hk e.symm
  simp only [decide_eq_false hk];rcases ZjU (k:=k) (v:=v) (v0:=v0) h.2 with g | ⟨g,g2⟩
  ·left;simp only [g,U2,ZjI,decide_eq_false hx]
  right;refine ⟨by simp only [g],by simp only [U2,g2,ZjI,decide_eq_false hx,Tp]⟩
def Zes {α:Type} {k:List UInt8} {v:α}:∀m:List (List UInt8×α),(k∈m.map (·.1)/\(Y5 k v m).map (·.1)=m.map (·.1))\/(k∉m.map (·.1)/\(Y5 k v m).map (·.1)=m.map (·.1)++[k])
 | []=>.inr ⟨sM,rfl⟩
 | (x,u)::l=>by
  simp only [Y5]
  by_cases hk:k=x
  ·subst hk;left;simp
  simp only [decide_eq_false hk];rcases Zes (k:=k) (v:=v) l with ⟨h1,h2⟩ | ⟨h1,h2⟩
  ·left;exact ⟨Tt _ h1,by simp only [Tz,h2]⟩
  right;exact ⟨by simp only [Tz,Tv,not_or];exact ⟨hk,h1⟩,by simp only [Tz,h2,Tp]⟩
def ZgN {α:Type} {k:List UInt8} {v:α} {m:List (List UInt8×α)} (h:(m.map (·.1)).Nodup):((Y5 k v m).map (·.1)).Nodup:=by
 rcases Zes (k:=k) (v:=v) m with ⟨_,h2⟩ | ⟨h1,h2⟩
 ·rw [h2];exact h
 rw [h2,List.nodup_append];exact ⟨h,sM,fun a ha b hb=>by simp at hb;subst hb;exact fun e=>h1 (e ▸ ha)⟩
def ZnR {α:Type} {k:List UInt8} {v:α}:∀{m:List (List UInt8×α)} {i:Nat} {x:List UInt8×α},(Y5 k v m)[i]?=some x->x.1≠k->m[i]?=some x
 | [],0,x,h,aj=>by simp [Y5] at h;subst h;exact absurd rfl aj
 | [],i+1,x,h,aj=>by simp [Y5] at h
 | (y,u)::l,i,x,h,aj=>by
  simp only [Y5] at h
  by_cases hk:k=y
  ·subst hk;simp only [decide_true] at h
   cases i with
   | zero=>simp at h;subst h;exact absurd rfl aj
   | succ i=>simpa using h
  simp only [decide_eq_false hk] at h
  cases i with
  | zero=>simpa using h
  | succ i=>simp only [TY] at h |-;exact ZnR h aj
def Zbl {α:Type} {k:List UInt8} {v:α}:∀m:List (List UInt8×α),lkM k (Y5 k v m)=some v
 | []=>by simp [Y5,lkM]
 | (y,u)::l=>by
  simp only [Y5]
  by_cases hk:k=y
  ·subst hk;simp [lkM]
  simp only [decide_eq_false hk,lkM];exact Zbl l
def Wz {fo:Option (List UInt8×PV)}:∀{m:List (List UInt8×List (List D))} {i:Nat} {x:List UInt8×List (List D)},m[i]?=some x->(U2 m fo)[2 * i]?=some (.d (.str x.1))/\(U2 m fo)[2 * i+1]?=some (ZjI x.1 x.2 fo)
 | [],i,x,h=>by simp at h
 | (y,r)::l,0,x,h=>by simp at h;subst h;exact ⟨rfl,rfl⟩
 | (y,r)::l,i+1,x,h=>by
  have:=Wz (fo:=fo) (m:=l) (i:=i) (x:=x) (by simpa using h);rw [show 2 * (i+1)=2 * i+2 by omega,show 2 * i+2+1=2 * i+1+2 by omega];simpa [U2] using this
def Zet (hT:TabOK T G.P) (hS:SRel G e σ w) {t:TypeId} {pm pk px:PV} {vm vk vx:Value} {K:PV->St->Prop} (hm:VRel G e σ w pm vm) (hk:VRel G e σ w pk vk) (hx:VRel G e σ w px vx) (h:Zeh T t pm pk px σ K) :
  ∃σ1 w1,K .undef σ1/\(Instr.mapUpdate t vm vk vx).run G.P w=.ok () w1/\Stepped e σ w e σ1 w1/\SRel G e σ1 w1:=by
 unfold Zeh at h
 split at h
 ·rename_i kt el bc
  obtain ⟨i,d,z0,hi,hd,_,_,az,_⟩:=(hT.get (t:=t) (by rw [bc];simp)).ex;rw [bc] at az;obtain ⟨rfl,dj⟩:=az;split at h
  ·rename_i key b
   cases hk.dstr
   cases hm with
   | mp _ hb =>
   split at h
   ·rename_i cs bn ck dx
    obtain ⟨w1,ai,⟨r1,r2,r3,r4,r5⟩,hc,_⟩:=Zci hd dj (key:=key) (hS.box _ _ dx) hx;rcases hc with ⟨cs',q1,q2⟩ | ⟨q1,q2⟩
    ·rw [q1] at h;exact ⟨_,w1,h,ai,Jg hS dx r1 r2 r3 r4 r5 fun hst=>q2 _ hst⟩
    rw [q1] at h;exact ⟨_,w1,h,ai,Jg hS dx r1 r2 r3 r4 r5 fun hst=>q2 _ hst⟩
   ·rename_i l dx
    split at h
    ·rename_i x hmv
     obtain ⟨bn,ck,hB⟩:=(hS.box _ _ dx).of_dmap;obtain ⟨w1,ai,⟨r1,r2,r3,r4,r5⟩,hc,_⟩:=Zci hd dj (key:=key) hB (Zvr hmv hx);refine ⟨_,w1,h,ai,Jg hS dx r1 r2 r3 r4 r5 fun hst=>?_⟩;rcases ZjR (k:=key) (y:=x) l with g1 | ⟨g1,g2⟩
     ·rcases hc with ⟨cs',q1,q2⟩ | ⟨q1,q2⟩
      ·rw [g1] at q1;cases q1;exact (q2 _ hst).to_dmap
      rw [g1] at q1;cases q1
     rcases hc with ⟨cs',q1,q2⟩ | ⟨q1,q2⟩
     ·rw [g1] at q1;cases q1
     have:=q2 _ hst;rw [<- g2] at this;exact this.to_dmap
    exact h.elim
   ·rename_i el2 l k' v0 dx
    obtain ⟨rfl,h⟩:=h;have qb:=hS.box _ _ dx;obtain ⟨es0,⟨bn,ck,h1,h2,h3,h4⟩,h5,h6,h7⟩:=qb;have hB:BRel G e σ w (.map (U2 l (some (key,v0))) bn ck) (e.β b):=⟨es0,h1,h2,h3,h4⟩
    obtain ⟨w1,ai,⟨r1,r2,r3,r4,r5⟩,hc,es,es',ck',q1,q2,q3⟩:=Zci hd dj (key:=key) hB hx;rw [h1] at q1
    cases q1
    refine ⟨_,w1,h,ai,Jg hS dx r1 r2 r3 r4 r5 fun hst=>?_⟩;obtain ⟨bn',ck2,hB'⟩:∃bn' ck2,BRel G e (σ.set b (.smap el2 (Y5 key [] l) (some (key,px)))) w1 (.map (U2 (Y5 key [] l) (some (key,px))) bn' ck2) (e.β b):=by
     rcases ZjU (k:=key) (v:=px) (v0:=v0) h7 with g1 | ⟨g1,g2⟩
     ·rcases hc with ⟨cs',p1,p2⟩ | ⟨p1,p2⟩
      ·rw [g1] at p1;cases p1;exact ⟨_,_,p2 _ hst⟩
      rw [g1] at p1;cases p1
     rcases hc with ⟨cs',p1,p2⟩ | ⟨p1,p2⟩
     ·rw [g1] at p1;cases p1
     have:=p2 _ hst;rw [<- g2] at this;exact ⟨_,_,this⟩
    obtain ⟨es2,k1,k2,k3,k4⟩:=hB';rw [q2] at k1
    cases k1
    refine ⟨_,⟨bn',_,q2,k2,k3,k4⟩,fun i u x hu cd aj=>?_,fun kv gf hl=>?_,ZgN h7⟩
    ·have jl:x.1≠key:=aj _ rfl;obtain ⟨_,kk,y,g2,_,g4,_⟩:=k4 i u hu;rw [(Wz cd).1] at g2
     cases g2
     have xb:=q3 i u hu (by rw [g4];intro e;apply jl;have:=congrArg (fun v=>match v with | Value.string s=>s.data.toList | _=>[]) e;simpa using this);exact (h5 i u x xb (ZnR cd jl) fun kv gf=>by cases gf;exact jl).keep fun b2 q hq _=>⟨hq,r5 _ fun h=>(hS.hid b2 q hq).2.2.1 b hb h.symm⟩
    cases gf
    rw [Zbl] at hl;cases hl
   exact h.elim
  exact h.elim
 exact h.elim
def ZrI (hT:TabOK T G.P) (hS:SRel G e σ w) {K:PV->St->Prop} {ρ:Operand->PV} {ρ':Operand->Value} (hρ:∀x,VRel G e σ w (ρ x) (ρ' x)) (o:Oper) (h:eop T o.op ρ σ K) :
  ∃pv σ1 v w1 e1,K pv σ1/\ZrH G.P ρ' o w v w1/\Stepped e σ w e1 σ1 w1/\SRel G e1 σ1 w1/\VRel G e1 σ1 w1 pv v:=by
 unfold eop at h
 split at h
 ·rename_i el ho
  split at h
  ·exact h.elim
  rename_i hk
  obtain ⟨i,d,z,hi,hd,hs,dq,az,hz,co,ll,_⟩:=(hT.get (t:=el) (fun h0=>hk h0)).ex;obtain ⟨sy,nd⟩:=X8 (G:=G) (e:=e) (σ:=σ) (w:=w) co;obtain ⟨h1,h2,h3⟩:=Zeq hS el (T.get el).zero z.cells (by simpa using sy) (fun i x u hx hu=>nd i x u hx (by rw [TB];exact hu));refine ⟨_,_,_,_,_,h,.inl ?_,h1,h2,h3⟩;unfold execOp
  simp only [ho,Instr.alloc,zeroValue,Sem.run_bind,Yq hi,Result.andThen,hz,Sem.run_pure];rfl
 ·rename_i el x ho
  split at h
  ·rename_i l hl
   obtain ⟨dg,bw⟩:=VW (hρ x) hl;obtain ⟨h1,h2,h3⟩:=Zeq hS el l (ρ' x).cells dg bw;exact ⟨_,_,_,_,_,h,.inl (by unfold execOp;simp only [ho];rfl),h1,h2,h3⟩
  exact h.elim
 ·rename_i t a x ho
  have ha:=hρ a;split at h
  ·rename_i b off bu;rw [bu] at ha
   split at h
   ·rename_i ty cs hb
    split at h
    ·rename_i l hl
     split at h
     ·exact h.elim
     ·rename_i h1 h2 hk
      generalize hv:ρ' a=v at ha
      cases ha with
      | ptr b off cm =>
      obtain ⟨w1,ai,hst,gq⟩:=ZaF hT hS hb (hρ x) hl (Tl h1) (Td h2) (fun h0=>hk h0);refine ⟨_,_,Go.undef,w1,e,h,.inr ⟨?_,rfl⟩,hst,gq,.undef _⟩;unfold execOp
      simp only [ho,hv,Sem.run_bind,ai,Result.andThen,Sem.run_pure]
     exact h.elim
    exact h.elim
   exact h.elim
  exact h.elim
 ·rename_i t x ho
  split at h
  ·rename_i hk
   obtain ⟨i,d,z,hi,hd,hs,dq,az,hz,co,ll,_⟩:=(hT.get (t:=t) (by rw [hk];simp)).ex;rw [hk] at az;cases az;split at h
   ·rename_i s bu
    have hx:=hρ x;rw [bu] at hx;have hxv:=hx.dstr;obtain ⟨h1,h2,h3⟩:=Jf hS (.iter s 0) (.stringIter ⟨s.toArray⟩ 0) (fun _ _ _ _ hh=>hh);refine ⟨_,_,_,_,_,h,.inl ?_,h1,h2,h3⟩;unfold execOp
    simp only [ho,hxv,Instr.range,Sem.run_bind,Za hd,Result.andThen,Sem.run_pure,run_newObj];rfl
   exact h.elim
  exact h.elim
 ·rename_i t ho
  split at h
  ·rename_i kt el hk
   have mk:∀x:Box,(∀e1 σ1 w1,Stepped e σ w e1 σ1 w1->w1.heap[w.heap.size]?=some (.map #[] 0)->BRel G e1 σ1 w1 x w.heap.size)->K (.mp σ.bx.length) (σ.new x) ->
     ∃pv σ1 v w1 e1,K pv σ1/\ZrH G.P ρ' o w v w1/\Stepped e σ w e1 σ1 w1/\SRel G e1 σ1 w1/\VRel G e1 σ1 w1 pv v:=by
    intro x hx h
    obtain ⟨h1,h2,h3⟩:=Jf hS x (.map #[] 0) hx;refine ⟨_,_,.map (some w.heap.size),_,_,h,.inl ?_,h1,h2,?_⟩
    ·exact mq140
    have:=VRel.mp (G:=G) (e:=e.more σ.bx.length w.heap.size) (σ:=σ.new x) (w:=w.alloc (.map #[] 0)) σ.bx.length (by rw [ZJ1];omega)
    rwa [show (e.more σ.bx.length w.heap.size).β σ.bx.length=w.heap.size by simp [Env.more]] at this
   split at h
   ·exact mk (.map [] [] 0) (fun _ _ _ _ hh=>BRel.ofM hh trivial rfl) h
   ·exact mk (.map [] [] 0) (fun _ _ _ _ hh=>BRel.ofM hh trivial rfl) h
   exact mk _ (fun e1 σ1 w1 _ hh=>(show BRel G e1 σ1 w1 (.map (Zeg []) [] 0) w.heap.size from .ofM hh trivial rfl).to_dmap) h
  exact h.elim
 ·exact mq74
 ·exact mq74
 ·rename_i x ho
  have hx:=hρ x;split at h
  ·rename_i b bu;rw [bu] at hx
   split at h
   ·rename_i s pos hb
    generalize hv:ρ' x=v at hx
    cases hx with
    | ptr b off cm =>
    obtain ⟨pv,σ1,v,w1,hK,ai,hst,gq,hr⟩:=ZpN hS hb o.type h;refine ⟨pv,σ1,v,w1,e,hK,.inl ?_,hst,gq,hr⟩;unfold execOp
    simp only [ho,hv,Sem.run_bind,ai,Result.andThen,Sem.run_pure]
   exact h.elim
  exact h.elim
 ·rename_i args argTypes ho
  split at h
  ·rename_i t tx s x s8 ca
   have qe:argTypes=#[t,tx]:=by rw [<- Array.toArray_toList (xs:=argTypes),s8]
   obtain ⟨q1,q2,ah⟩:∃q1 q2,args.toList=[q1,q2]:=by
    cases hl:args.toList with
    | nil=>rw [hl] at ca;cases ca
    | cons a l=>cases l with
     | nil=>rw [hl] at ca;cases ca
     | cons b l=>cases l with
      | nil=>exact ⟨a,b,rfl⟩
      | cons c l=>rw [hl] at ca;simp at ca
   have ha:args=#[q1,q2]:=by rw [<- Array.toArray_toList (xs:=args),ah]
   rw [ah] at ca;simp only [Tz,TN,List.cons.injEq,and_true] at ca;obtain ⟨n7,gg⟩:=ca;have lq:=hρ q1;have hrx:=hρ q2;rw [n7] at lq;rw [gg] at hrx;have mn:∀v' w1,(Builtin.append_ #[t,tx] o.type #[ρ' q1,ρ' q2]).run G.P w=.ok v' w1->ZrH G.P ρ' o w v' w1:=fun v' w1 hr=>.inl (by
    unfold execOp
    simp only [ho,resolve,invoke,builtin,Sem.run_bind,Sem.run_pure,Result.andThen,ha,qe];rw [show Array.map ρ' #[q1,q2]=#[ρ' q1,ρ' q2] from sM,hr])
   split at h
   ·rename_i el hk
    split at h
    ·exact h.elim
    rename_i bm
    split at h
    ·rename_i more ao hm
     split at h
     ·rename_i el2
      obtain ⟨hw,hb,hl,hK⟩:=h;generalize hv:ρ' q1=v at lq mn
      cases lq with
      | nils =>
      obtain ⟨v',w1,e1,ai,hst,gq,hr⟩:=ZgK (ty:=o.type) hT hS hk (fun h0=>bm h0) (Td ao) (rows:=[]) (.slnil) σ.tk (fun _ h=>h) (.inl ⟨rfl,rfl⟩) hm hrx hw (by simpa using hb) (by simpa using hl);exact ⟨_,_,v',w1,e1,hK,mn v' w1 ai,hst,gq,hr⟩
     ·rename_i tok e2 rows
      split at h
      ·rename_i dv qj
       obtain ⟨hw,hb,hl,hK⟩:=h;have:=Tl qj;subst this;have rd:=(YJ _ _).1 dv;generalize hv:ρ' q1=v at lq mn
       cases lq with
       | sl tok e2 rows v hn hd ht =>
       obtain ⟨v',w1,e1,ai,hst,gq,hr⟩:=ZgK (ty:=o.type) hT hS hk (fun h0=>bm h0) (Td ao) hd (JM tok σ.tk) (fun x hx=>((Wy _ _ _).1 hx).1) (.inr ⟨tok,rd,fun h=>((Wy _ _ _).1 h).2 rfl,ht rd⟩) hm hrx hw hb hl;exact ⟨_,_,v',w1,e1,hK,mn v' w1 ai,hst,gq,hr⟩
      exact h.elim
     exact h.elim
    exact h.elim
   exact h.elim
  exact h.elim
 exact h.elim
end
end Go.PM
end

section
namespace Go.PM
def fw (ro:Option Nat):Fence:={ fn:=fun _=>True,depth:=none,alive:=false,round:=ro }
def VX (P:Program) (g:FuncId):Prop:=∀(args:Array Value) (w:World),(callFunc g args).run P w=.ok (.enter g args) w
def ArgsRel (G:GE) (e:Env) (σ:St) (w:World) (args:List PV) (vs:Array Value):Prop :=
 vs.size=args.length/\∀(i:Nat) (x:PV) (u:Value),args[i]?=some x->vs[i]?=some u->VRel G e σ w x u
def ZrJ (G:GE) (e:Env) (σ:St) (w:World):PEnd->Ending->Prop
 | .ret x,en=>∃v,en=.returned v/\VRel G e σ w x v
 | .panic x,en=>∃v,en=.panicked [{ v:=v,recovered:=false }]/\VRel G e σ w x v
def ZDy (G:GE) (e:Env) (σ:St) (w:World) (K:PEnd->St->Prop) (en:Ending) (w':World):Prop :=
 ∃pe σ' e',K pe σ'/\ZrJ G e' σ' w' pe en/\SRel G e' σ' w'/\Stepped e σ w e' σ' w'
def Xz (G:GE) (e:Env) (σ:St) (w:World) (K:PEnd->St->Prop) (en:Ending) (w':World):Prop :=
 ∃pe σ' e',K pe σ'/\ZrJ G e' σ' w' pe en/\SRel G e' σ' w'/\Later e σ w e' σ' w'
def CallSem (G:GE) (cc:FuncId->List PV->St->(PEnd->St->Prop)->Prop):Prop:=∀g args σ K,cc g args σ K ->
 VX G.P g/\∀(ro:Option Nat) (n:Nat) (e:Env) (w:World) (vs:Array Value),SRel G e σ w->ArgsRel G e σ w args vs->CallsIn (fw ro) n G.P g vs w (ZDy G e σ w K)
def RawSem (G:GE) (e0:Env) (σ0:St) (w0:World) (cr:Value->List PV->St->(PEnd->St->Prop)->Prop):Prop:=∀v args σ K,cr v args σ K ->
 ∃l,v=.func (.yield l) #[] #[]/\∀(ro:Option Nat) (n:Nat) (e:Env) (w:World) (vs:Array Value),SRel G e σ w->Later e0 σ0 w0 e σ w->ArgsRel G e σ w args vs ->
  ∃f tmps asg body,(Instr.yield l vs).run G.P w=.ok (.round l f tmps asg body) w/\RoundIn (fw ro) n G.P l f tmps asg body w (Xz G e σ w K)
def Jh (G:GE) (ci:FuncId->List PV->(Value->List PV->St->(PEnd->St->Prop)->Prop)->St->(PEnd->St->Prop)->Prop):Prop:=∀g args raw σ K,ci g args raw σ K ->
 VX G.P g/\∀(n:Nat) (e:Env) (w:World) (vs:Array Value),SRel G e σ w->ArgsRel G e σ w args vs->RawSem G e σ w raw->CallsIn (fw none) n G.P g vs w (Xz G e σ w K)
structure CxOK (G:GE) (C:Cx) (ro:Option Nat) (e0:Env) (σ0:St) (w0:World):Prop where
 tab:TabOK C.T G.P
 call:CallSem G C.call
 raw:RawSem G e0 σ0 w0 C.raw
 iter:Jh G C.iter
 out:ro=none\/∀g args raw σ K,¬C.iter g args raw σ K
def RawSem.later {G:GE} {e0 e:Env} {σ0 σ:St} {w0 w:World} {cr:Value->List PV->St->(PEnd->St->Prop)->Prop} (h:RawSem G e0 σ0 w0 cr) (hL:Later e0 σ0 w0 e σ w):RawSem G e σ w cr:=fun v args σ' K hc=>by
 obtain ⟨l,h1,h2⟩:=h v args σ' K hc;exact ⟨l,h1,fun ro n e' w' vs hS je ha=>h2 ro n e' w' vs hS (hL.trans je) ha⟩
def CxOK.later {G:GE} {C:Cx} {ro:Option Nat} {e0 e:Env} {σ0 σ:St} {w0 w:World} (h:CxOK G C ro e0 σ0 w0) (hL:Later e0 σ0 w0 e σ w):CxOK G C ro e σ w:=⟨h.tab,h.call,h.raw.later hL,h.iter,h.out⟩
def CxOK.calm {G:GE} {C:Cx} {ro:Option Nat} {e0:Env} {σ0:St} {w0:World} (h:CxOK G C ro e0 σ0 w0):CxOK G C.calm ro e0 σ0 w0:=⟨h.tab,h.call,fun _ _ _ _ h=>h.elim,h.iter,h.out⟩
def Zbm (r:Nat):Deferred:={ target:=.collected r,args:=#[] }
def Marks (lo:Nat×List Deferred×Bool) (e:Env) (σ:St) (w:World) (l:List Deferred):Prop:=lo.1<=w.heap.size/\∃rs:List Nat,l=rs.map Zbm++lo.2.1/\(lo.2.2=true->rs=[])/\rs.Nodup/\∀r,r∈rs->lo.1<=r/\w.heap[r]?=some (.deferred (some [])) /\
 (∀i,i<σ.bx.length->e.β i≠r)/\(∀t,t∈σ.tk->∀p,e.M t=some p->p.1≠r)/\e.H r=none
def Marks.nil {lo:Nat} {fl:Bool} (e:Env) (σ:St) {w:World} (h:lo<=w.heap.size):Marks (lo,[],fl) e σ w []:=⟨h,[],rfl,fun _=>rfl,List.nodup_nil,fun r h=>(by cases h)⟩
def Marks.later {lo:Nat×List Deferred×Bool} {e e':Env} {σ σ':St} {w w':World} {l:List Deferred} (h:Marks lo e σ w l) (hL:Later e σ w e' σ' w'):Marks lo e' σ' w' l:=by
 obtain ⟨h0,rs,h1,d7,h2,h3⟩:=h;refine ⟨Sc h0 hL.size,rs,h1,d7,h2,fun r hr=>?_⟩;obtain ⟨g1,g2,g3,g4,g5⟩:=h3 r hr;have ab:=(Tr.1 g2).1;refine ⟨g1,(hL.blocks r ab g3 g4 g5).trans g2,fun i hi=>?_,fun t ht p hp=>?_,?_⟩
 ·by_cases h:i<σ.bx.length
  ·rw [hL.beta i h];exact g3 i h
  have:=hL.fresh i oM hi;omega
 ·rcases hL.ftok t ht p hp with h | ⟨t0,h0,p0,n5,h⟩ | h
  ·omega
  ·rw [<- h];exact g4 t0 h0 p0 n5
  exact fun he=>h (by rw [he];exact g5)
 cases hq:e'.H r with
 | none=>rfl
 | some q =>
 rcases hL.fhid r (by rw [hq];simp) with h | ⟨t0,h0,p0,n5,h⟩ | h
 ·omega
 ·exact absurd h (g4 t0 h0 p0 n5)
 exact absurd g5 h
def JU {n:Nat}:∀{l:List PV},Zro n l=true->∀(i:Nat) (x:PV),l[i]?=some x->bnd n x=true
 | [],_,i,x,hx=>by simp at hx
 | y::l,h,i,x,hx=>by
  simp only [Zro,Tm] at h
  cases i with
  | zero=>simp at hx;subst hx;exact h.1
  | succ i=>exact JU h.2 i x (by simpa using hx)
def ZrK {n:Nat}:∀{l:List PV},(∀(i:Nat) (x:PV),l[i]?=some x->bnd n x=true)->Zro n l=true
 | [],_=>rfl
 | y::l,h=>by
  simp only [Zro,Tm];exact ⟨h 0 y sM,ZrK fun i x hx=>h (i+1) x (by simpa using hx)⟩
def WO:∀{l:List PV} (i:Nat) (y:PV),(XE l)[i]?=some y->∃x,l[i]?=some x/\y=clean x
 | [],i,y,h=>by simp [XE] at h
 | x::l,i,y,h=>by
  cases i with
  | zero=>simp [XE] at h;exact ⟨x,sM,h.symm⟩
  | succ i=>simp only [XE,TY] at h;obtain ⟨z,h1,h2⟩:=WO i y h;exact ⟨z,by simpa using h1,h2⟩
def Y7:∀{l:List PV},(XE l).length=l.length
 | []=>rfl
 | x::l=>by simp [XE,Y7]
section
variable {G:GE} {e e':Env} {σ σ':St} {w w':World}
def VRel.bnd {x:PV} {v:Value} (h:VRel G e σ w x v):bnd σ.bx.length x=true:=by
 have get:∀{l:List PV} {va:Array Value},va.size=l.length->(∀(i:Nat) (x:PV) (u:Value),l[i]?=some x->va[i]?=some u->PM.bnd σ.bx.length x=true)->Zro σ.bx.length l=true:=fun {l va} hs h=>ZrK fun i x hx=>by
  have hi:=(Ti.1 hx).1;exact h i x va[i] hx (TC oM)
 induction h with
 | ptr b off h=>simp only [PM.bnd,S3];omega
 | mp b h=>simp only [PM.bnd,S3];omega
 | asl b off n h=>simp only [PM.bnd,S3];omega
 | func f a c va vc ha hc _ _ ih1 ih2=>simp only [PM.bnd,Tm];exact ⟨get ha ih1,get hc ih2⟩
 | iface t x v _ ih=>exact ih
 | agg cs vs hs _ _ ih=>exact get hs ih
 | tuple cs vs hs _ ih=>exact get hs ih
 | _=>rfl
def VRel.clean {n:Nat} (hn:n<=σ'.bx.length) (hβ:∀i,i<n->e'.β i=e.β i)
  (hp:∀b off u,w.cell? ⟨b,off,none⟩=some u->okc e σ b off->okc e' σ' b off/\w'.cell? ⟨b,off,none⟩=some u) {x:PV} {v:Value} (h:VRel G e σ w x v) (hb:PM.bnd n x=true):VRel G e' σ' w' (clean x) v:=by
 induction h with
 | d x v h=>exact .d _ _ (h.mono hp)
 | undef v=>exact .undef _
 | ptr b off h =>
  simp only [PM.bnd,S3] at hb;rw [<- hβ b oM];exact .ptr b off oM
 | asl b off m h =>
  simp only [PM.bnd,S3] at hb;rw [<- hβ b oM];exact .asl b off m oM
 | mp b h =>
  simp only [PM.bnd,S3] at hb;rw [<- hβ b oM];exact .mp b oM
 | nilm=>exact .nilm
 | elem r off b o u hc ho hu=>exact .elem r off b o u (fun j hj=>(hp b _ _ (hc j hj) (ho j hj)).2) (fun j hj=>(hp b _ _ (hc j hj) (ho j hj)).1) (fun j x hx=>(hu j x hx).mono hp)
 | sl t el rows v hn hd ht=>exact .d _ _ (hd.mono hp)
 | nils el=>exact .d _ _ .slnil
 | func f a c va vc ha hc _ _ ih1 ih2 =>
  simp only [PM.bnd,Tm] at hb;refine .func f _ _ va vc (by rw [Y7];exact ha) (by rw [Y7];exact hc) (fun i y u hy hu=>?_) (fun i y u hy hu=>?_)
  ·obtain ⟨x,hx,rfl⟩:=WO i y hy;exact ih1 i x u hx hu (JU hb.1 i x hx)
  obtain ⟨x,hx,rfl⟩:=WO i y hy;exact ih2 i x u hx hu (JU hb.2 i x hx)
 | iface t x v _ ih=>exact .iface t _ v (ih hb)
 | agg cs vs hs _ h1 ih=>exact .agg _ vs (by rw [Y7];exact hs) (fun i y u hy hu=>by obtain ⟨x,hx,rfl⟩:=WO i y hy;exact ih i x u hx hu (JU hb i x hx)) h1
 | tuple cs vs hs _ ih=>exact .tuple _ vs (by rw [Y7];exact hs) (fun i y u hy hu=>by obtain ⟨x,hx,rfl⟩:=WO i y hy;exact ih i x u hx hu (JU hb i x hx))
 | raw v=>exact .raw _
def Zao:∀{l:List PV},(cleanNL l).length=l.length
 | []=>rfl
 | x::l=>by simp [PM.cleanNL,Zao]
def Zeu:∀{l:List PV} (i:Nat) (y:PV),(cleanNL l)[i]?=some y->∃x,l[i]?=some x/\y=PM.cleanN x
 | [],i,y,h=>by simp [PM.cleanNL] at h
 | x::l,i,y,h=>by
  cases i with
  | zero=>simp [PM.cleanNL] at h;exact ⟨x,sM,h.symm⟩
  | succ i=>simp only [PM.cleanNL,TY] at h;obtain ⟨z,h1,h2⟩:=Zeu i y h;exact ⟨z,by simpa using h1,h2⟩
def VRel.cleanN {n:Nat} (hn:n<=σ'.bx.length) (hβ:∀i,i<n->e'.β i=e.β i)
  (hp:∀b off u,w.cell? ⟨b,off,none⟩=some u->okc e σ b off->okc e' σ' b off/\w'.cell? ⟨b,off,none⟩=some u) {x:PV} {v:Value} (h:VRel G e σ w x v) (hb:PM.bnd n x=true):VRel G e' σ' w' (cleanN x) v:=by
 induction h with
 | d x v h=>exact .d _ _ (h.mono hp)
 | undef v=>exact .undef _
 | ptr b off h =>
  simp only [PM.bnd,S3] at hb;rw [<- hβ b oM];exact .ptr b off oM
 | asl b off m h =>
  simp only [PM.bnd,S3] at hb;rw [<- hβ b oM];exact .asl b off m oM
 | mp b h =>
  simp only [PM.bnd,S3] at hb;rw [<- hβ b oM];exact .mp b oM
 | nilm=>exact .nilm
 | elem r off b o u hc ho hu=>exact .elem r off b o u (fun j hj=>(hp b _ _ (hc j hj) (ho j hj)).2) (fun j hj=>(hp b _ _ (hc j hj) (ho j hj)).1) (fun j x hx=>(hu j x hx).mono hp)
 | sl t el rows v hn hd ht=>exact .d _ _ (hd.mono hp)
 | nils el=>exact .nils el
 | func f a c va vc ha hc h1 h2 ih1 ih2=>exact VRel.clean hn hβ hp (.func f a c va vc ha hc h1 h2) hb
 | iface t x v h ih=>exact VRel.clean hn hβ hp (.iface t x v h) hb
 | agg cs vs hs _ h1 ih=>exact .agg _ vs (by rw [Zao];exact hs) (fun i y u hy hu=>by obtain ⟨x,hx,rfl⟩:=Zeu i y hy;exact ih i x u hx hu (JU hb i x hx)) h1
 | tuple cs vs hs h ih=>exact VRel.clean hn hβ hp (.tuple cs vs hs h) hb
 | raw v=>exact .raw _
end
def FRel.clean {G:GE} {e e':Env} {σ σ':St} {w w':World} {f:Frame} {tm:Array Value} (hF:FRel G e σ w f tm) (hL:Later e σ w e' σ' w'):FRel G e' σ' w' (Ja f) tm :=
 fun i=>VRel.clean hL.len hL.beta hL.pres (hF i) (hF i).bnd
def ZDz (G:GE) (e:Env) (σ:St) (w:World):PExit->Exit->Prop
 | .normal,x=>x=.normal
 | .exit id,x=>x=.exit id
 | .goto l,x=>x=.goto l
 | .ret,x=>x=.ret
 | .panic p,x=>∃v,x=.panic [{ v:=v,recovered:=false }]/\VRel G e σ w p v
def ZQ (G:GE) (e0:Env) (σ0:St) (w0:World) (ds:Nat×List Deferred×Bool) (n:Nat) (Z:Array Value->Prop) (Q:PQ):Exit->Act->World->Prop:=fun x a w =>
 ∃pe f e σ,Q pe f σ/\ZDz G e σ w pe x/\SRel G e σ w/\FRel G e σ w f a.tmps/\Later e0 σ0 w0 e σ w/\a.tmps.size=n/\Marks ds e σ w a.defers/\Z a.tmps
def KRel (G:GE) (e0:Env) (σ0:St) (w0:World) (ds:Nat×List Deferred×Bool) (n:Nat) (Z:Array Value->Prop) (K:Frame->St->Prop):Act->World->Prop:=fun a w =>
 ∃f e σ,K f σ/\SRel G e σ w/\FRel G e σ w f a.tmps/\Later e0 σ0 w0 e σ w/\a.tmps.size=n/\Marks ds e σ w a.defers/\Z a.tmps
def WZ:∀(n:Nat) (K:Nat->Prop),YA n K=K n
 | 0,K=>rfl
 | n+1,K=>by simp only [YA,WZ n]
def ZrL (v:PV) (K:PV->Prop):Zrm v K=K v:=by cases v <;> simp only [Zrm,WZ]
def Zcj:∀(l:List PV) (K:List PV->Prop),Ux l K=K l
 | [],_=>rfl
 | v::l,K=>by simp only [Ux,ZrL,Zcj l]
def ZjV (v:PV) (K:PV->Prop):ZnN v K=K v:=by cases v <;> simp only [ZnN,WZ,Zcj]
def ZgO:∀(l:List PV) (K:List PV->Prop),ZhX l K=K l
 | [],_=>rfl
 | v::l,K=>by simp only [ZhX,ZjV,ZgO l]
def Z0 (v:PV) (K:PV->Prop):Zac v K=K v:=by cases v <;> simp only [Zac,WZ,Zcj,ZjV,ZgO]
def Zev:∀(l:List PV) (K:List PV->Prop),ZjJ l K=K l
 | [],_=>rfl
 | v::l,K=>by simp only [ZjJ,Z0,Zev l]
def W0:∀(l:List Nat) (K:List Nat->Prop),Zei l K=K l
 | [],_=>rfl
 | t::l,K=>by simp only [Zei,WZ,W0 l]
def Wb:∀(l:List Box) (K:List Box->Prop),Wq l K=K l
 | [],_=>rfl
 | .cells t cs::l,K=>by simp only [Wq,Zev,Wb l]
 | .iter s p::l,K=>by simp only [Wq,Wb l]
 | .loop st pd r::l,K=>by simp only [Wq,Wb l]
 | .dmap m::l,K=>by simp only [Wq,Wb l]
 | .smap el m none::l,K=>by simp only [Wq,Wb l]
 | .smap el m (some (k,v))::l,K=>by simp only [Wq,Z0,Wb l]
 | .map cs bn ck::l,K=>by simp only [Wq,Zev,W0,WZ,Wb l]
def ZY (σ:St) (K:St->Prop):XW σ K=K σ:=by simp only [XW,Wb,W0,WZ]
def Yf (f:Frame) (d:Option Nat) (v:PV) (K:Frame->Prop):ZjH f d v K=K (YC f d v):=by
 cases d with
 | none=>rfl
 | some i=>simp only [ZjH,Z0];rfl
def XH {f:Frame} {s:Nat} {v:PV} (h:f s=v):U6 f s v=f:=by
 funext j
 by_cases hj:s=j
 ·subst hj;rw [YO,h]
 rw [XF f v hj]
def YU (a:Act) (d:Option Nat) (v:Value):(a.put d v).tmps.size=a.tmps.size:=by cases d <;> simp [Act.put]
def ZnS {N:Nat} {Z:Array Value->Prop} {a:Act} {d:Option Nat} {v:Value} (hd:∀i,d=some i->i<N/\∀t v,Z t->Z (t.setIfInBounds i v)) (hZ:Z a.tmps):Z (a.put d v).tmps:=by
 cases d with
 | none=>exact hZ
 | some i=>exact (hd i rfl).2 _ _ hZ
def XX (a:Act) (d:Option Nat) (v:Value):(a.put d v).defers=a.defers:=by cases d <;> rfl
section
variable {G:GE} {C:Cx} {e0 e:Env} {σ0 σ:St} {w0 w:World} {a:Act} {f:Frame} {Q:PQ} {K:Frame->St->Prop} {ro:Option Nat} {n:Nat} {ds:Nat×List Deferred×Bool} {N:Nat} {Z:Array Value->Prop}
def KRel.put {e1:Env} {σ1:St} {w1:World} {o:Oper} {pv:PV} {v:Value} (hF:FRel G e σ w f a.tmps) (hL:Later e0 σ0 w0 e σ w) (hN:a.tmps.size=N) (bh:Marks ds e σ w a.defers) (hZ:Z a.tmps) (hd:∀d,o.dst=some d->d<N/\∀t v,Z t->Z (t.setIfInBounds d v))
  (hK:ZjH f o.dst pv fun f=>K f σ1) (hst:Stepped e σ w e1 σ1 w1) (gq:SRel G e1 σ1 w1) (hr:VRel G e1 σ1 w1 pv v):KRel G e0 σ0 w0 ds N Z K (a.put o.dst v) w1:=by
 rw [Yf] at hK;exact ⟨_,e1,σ1,hK,gq,(hF.step hst).put hr (by rw [hN];exact fun d h=>(hd d h).1),hL.trans hst.toLater,by rw [YU];exact hN,by rw [XX];exact bh.later hst.toLater,ZnS hd hZ⟩
def Zh3 {args:Array Operand} (hρ:∀x,VRel G e σ w (ev f x) (a.eval x)):ArgsRel G e σ w (args.toList.map (ev f)) (args.map a.eval):=by
 refine ⟨sM,fun i x u hx hu=>?_⟩;rw [Tk] at hx;rw [Array.getElem?_map] at hu
 cases hq:args[i]? with
 | none=>rw [hq] at hu;cases hu
 | some q =>
 exact mq146
def ArgsRel.append {x y:List PV} {vx vy:Array Value} (h1:ArgsRel G e σ w x vx) (h2:ArgsRel G e σ w y vy):ArgsRel G e σ w (x++y) (vx++vy):=by
 refine ⟨by rw [Array.size_append,Ta,h1.1,h2.1],fun i p u hp hu=>?_⟩
 by_cases hi:i<x.length
 ·rw [TP hi] at hp;rw [Array.getElem?_append_left (by rw [h1.1];exact hi)] at hu;exact h1.2 i p u hp hu
 rw [TZ oM] at hp;rw [Array.getElem?_append_right (by rw [h1.1];omega),h1.1] at hu;exact h2.2 _ p u hp hu
def ZrM {G:GE} {C:Cx} {e e':Env} {σ σ':St} {w w':World} {f:Frame} {tm:Array Value} (hF:FRel G e σ w f tm) (hL:Later e σ w e' σ' w'):FRel G e' σ' w' (C.pf f) tm:=by
 unfold Cx.pf
 split
 ·exact hF.clean hL
 exact fun i=>.undef _
def ZaH (hC:CxOK G C ro e0 σ0 w0) (hS:SRel G e σ w) (hF:FRel G e σ w f a.tmps) (hL:Later e0 σ0 w0 e σ w) (hN:a.tmps.size=N) (bh:Marks ds e σ w a.defers) (hZ:Z a.tmps) {o:Oper} (hd:∀d,o.dst=some d->d<N/\∀t v,Z t->Z (t.setIfInBounds d v))
  (h:Wj C o f σ Q K):o.wpIn (fw ro) n G.P a w (KRel G e0 σ0 w0 ds N Z K) (ZQ G e0 σ0 w0 ds N Z Q):=by
 have hρ:∀x,VRel G e σ w (ev f x) (a.eval x):=fun x=>Zc1 hF x
 refine ⟨fun _ _=>trivial,?_⟩;unfold Wj at h
 simp only [ZY,Z0] at h;split at h
 ·rename_i hE
  have i7:∀c,o.op≠.defer c:=fun c hc=>by rw [hc] at h;exact h
  rw [show (fw ro).round=ro from rfl,Oper.semAt_eq _ _ _ i7];obtain ⟨pv,v,w1,hK,hg,hr,ai⟩:=ZpP hC.tab hS hρ o h;rw [ai];exact KRel.put hF hL hN bh hZ hd hK (hg.stepped e σ) (hS.grow hg) hr
 rename_i hE
 have i7:∀c,o.op≠.defer c:=fun c hc=>by rw [hc] at hE;cases hE
 rw [show (fw ro).round=ro from rfl,Oper.semAt_eq _ _ _ i7];split at h
 ·rename_i x args at' ho
  have hx:=hρ x;have jv:∀(next:World->Ending->World->Prop),True:=fun _=>trivial
  unfold Zej at h
  split at h
  ·rename_i g first caps bu
   rw [bu] at hx;generalize hv:a.eval x=v at hx
   cases hx with
   | func g first caps va vc ha hc h1 h2 =>
   obtain ⟨lz,la⟩:=hC.call _ _ _ _ h;have ah:ArgsRel G e σ w (first++args.toList.map (ev f)++caps) (va++args.map a.eval++vc):=(ArgsRel.append (ArgsRel.append ⟨ha,h1⟩ (Zh3 hρ)) ⟨hc,h2⟩)
   have ai:(execOp a.eval o).run G.P w=.ok (.enter g (va++args.map a.eval++vc)) w:=by
    unfold execOp
    simp only [ho,resolve,hv,Deferred.ofValue,Sem.run_bind,Sem.run_pure,Result.andThen,invoke];exact lz _ _
   rw [ai,Oper.uponIn_enter];refine ⟨fun h=>by simp [fw] at h,(la ro (n - 1) e w _ hS ah).mono fun en w' hA=>?_⟩;obtain ⟨pe,σ',e',hK,rf,jm,hst⟩:=hA
   cases pe with
   | ret pv =>
    obtain ⟨u,rfl,hr⟩:=rf;exact KRel.put hF hL hN bh hZ hd hK hst jm hr
   | panic pv =>
   obtain ⟨u,rfl,hr⟩:=rf;exact ⟨.panic pv,_,e',σ',hK,⟨u,rfl,hr⟩,jm,ZrM hF hst.toLater,hL.trans hst.toLater,hN,bh.later hst.toLater,hZ⟩
  ·rename_i v bu
   rw [bu] at hx;generalize hv:a.eval x=v' at hx
   cases hx with
   | raw v =>
   obtain ⟨l,rfl,tr⟩:=hC.raw _ _ _ _ h;obtain ⟨fn,tmps,asg,body,hy,l0⟩:=tr ro (n - 1) e w _ hS hL (Zh3 hρ);have ai:(execOp a.eval o).run G.P w=.ok (.round l fn tmps asg body) w:=by
    unfold execOp
    simp only [ho,resolve,hv,Deferred.ofValue,Sem.run_bind,Sem.run_pure,Result.andThen,invoke,Array.empty_append,hy]
   rw [ai,Oper.uponIn_round];refine ⟨fun h=>by simp [fw] at h,l0.mono fun en w' hA=>?_⟩;obtain ⟨pe,σ',e',hK,rf,jm,hst⟩:=hA
   cases pe with
   | ret pv =>
    obtain ⟨u,rfl,hr⟩:=rf;simp only at hK;rw [Yf] at hK;exact ⟨_,e',σ',hK,jm,(hF.clean hst).put hr (by rw [hN];exact fun d h=>(hd d h).1),hL.trans hst,by rw [YU];exact hN,by rw [XX];exact bh.later hst,ZnS hd hZ⟩
   | panic pv =>
   obtain ⟨u,rfl,hr⟩:=rf;exact ⟨.panic pv,_,e',σ',hK,⟨u,rfl,hr⟩,jm,ZrM (hF.clean (Later.refl _ _ _)) hst,hL.trans hst,hN,bh.later hst,hZ⟩
  exact h.elim
 ·rename_i x ho
  have hx:=hρ x;split at h
  ·rename_i t pv bu
   rw [bu] at hx;generalize hv:a.eval x=v at hx
   cases hx with
   | iface _ _ u hu =>
   have ai:(execOp a.eval o).run G.P w=.halt (.panic (.iface t u)) w:=by
    unfold execOp
    simp only [ho,hv,Instr.panic];rfl
   rw [ai];exact ⟨.panic (.iface t pv),_,e,σ,h,⟨.iface t u,rfl,.iface t pv u hu⟩,hS,ZrM hF (Later.refl _ _ _),hL,hN,bh,hZ⟩
  exact h.elim
 obtain ⟨pv,σ1,v,w1,e1,hK,tt,hst,gq,hr⟩:=ZrI hC.tab hS hρ o h;rcases tt with ai | ⟨ai,rfl⟩
 ·rw [ai];exact KRel.put hF hL hN bh hZ hd hK hst gq hr
 rw [ai];exact KRel.put hF hL hN bh hZ hd hK hst gq hr
def UB (hC:CxOK G C ro e0 σ0 w0) (hS:SRel G e σ w) (hF:FRel G e σ w f a.tmps) (hL:Later e0 σ0 w0 e σ w) (hN:a.tmps.size=N) (bh:Marks ds e σ w a.defers) (hZ:Z a.tmps) {ops:Array Oper} {o:Oper} (hd:∀d,o.dst=some d->d<N/\∀t v,Z t->Z (t.setIfInBounds d v))
  (h:VU C ops.toList Q o f σ K) :
  if Region.wanted o (yielded ops a.tmps)=true then o.wpIn (fw ro) n G.P a w (KRel G e0 σ0 w0 ds N Z K) (ZQ G e0 σ0 w0 ds N Z Q)
  else KRel G e0 σ0 w0 ds N Z K (a.put o.dst Go.undef) w:=by
 unfold VU at h
 split at h
 ·rename_i hg
  have:Region.wanted o (yielded ops a.tmps)=true:=by simp [Region.wanted,hg]
  rw [Tg this];exact ZaH hC hS hF hL hN bh hZ hd h
 rename_i j want hg
 split at h
 ·rename_i s hs
  have rg:(ops[j]?).bind (·.dst)=some s:=by
   unfold WU at hs
   rw [TB] at hs
   cases hoj:ops[j]? with
   | none=>rw [hoj] at hs;cases hs
   | some oj=>rw [hoj] at hs;exact hs
  have xc:=hF s;split at h
  ·rename_i t nu
   rw [nu] at xc;have hv:=xc.dbool;have hy:yielded ops a.tmps j=some t:=by
    unfold yielded
    rw [rg];have:a.tmps[s]?=some (.bool t):=by
     rw [Array.getD_eq_getD_getElem?] at hv
     cases h2:a.tmps[s]? with
     | none=>rw [h2] at hv;cases hv
     | some u=>rw [h2] at hv;simp at hv;rw [hv]
    simp [this]
   have oh:Region.wanted o (yielded ops a.tmps)=(t == want):=by simp [Region.wanted,hg,hy]
   rw [oh]
   cases t <;> cases want <;> simp only [CondP] at h
   ·rw [XH nu] at h;simp only [beq_self_eq_true,if_true];exact ZaH hC hS hF hL hN bh hZ hd h
   ·rw [XH nu] at h;rw [Tb dM];exact KRel.put hF hL hN bh hZ hd h (.refl _ _ _) hS (.raw _)
   ·rw [XH nu] at h;rw [Tb dM];exact KRel.put hF hL hN bh hZ hd h (.refl _ _ _) hS (.raw _)
   rw [XH nu] at h;simp only [beq_self_eq_true,if_true];exact ZaH hC hS hF hL hN bh hZ hd h
  ·rename_i vs nu
   rw [nu] at xc;generalize hv:a.tmps.getD s Go.undef=v at xc
   cases xc
   have hy:yielded ops a.tmps j=none:=by
    unfold yielded
    rw [rg];rw [Array.getD_eq_getD_getElem?] at hv
    cases h2:a.tmps[s]? with
    | none=>simp [h2]
    | some u=>rw [h2] at hv;simp at hv;subst hv;simp [h2]
   have oh:Region.wanted o (yielded ops a.tmps)=false:=by simp [Region.wanted,hg,hy]
   rw [oh,Tb sM];exact KRel.put hF hL hN bh hZ hd h (.refl _ _ _) hS (.raw _)
  exact h.elim
 exact h.elim
def Zc3 (hC:CxOK G C ro e0 σ0 w0) (hS:SRel G e σ w) (hF:FRel G e σ w f a.tmps) (hL:Later e0 σ0 w0 e σ w) (hN:a.tmps.size=N) (bh:Marks ds e σ w a.defers) (hZ:Z a.tmps) {ops:Array Oper} {o:Oper} (hd:∀d,o.dst=some d->d<N/\∀t v,Z t->Z (t.setIfInBounds d v))
  (h:ZjK C ops.toList Q o f σ K) :
  if Region.wanted o (yielded ops a.tmps)=true then o.wpIn (fw ro) n G.P a w (KRel G e0 σ0 w0 ds N Z K) (ZQ G e0 σ0 w0 ds N Z Q)
  else KRel G e0 σ0 w0 ds N Z K (a.put o.dst Go.undef) w:=by
 unfold ZjK at h
 split at h
 ·rename_i hb
  have hg:o.guard=none:=by
   unfold ZgE at hb
   split at hb
   ·split at hb
    ·assumption
    cases hb
   cases hb
  have:Region.wanted o (yielded ops a.tmps)=true:=by simp [Region.wanted,hg]
  rw [Tg this];simp only [ZY] at h;have i7:∀c,o.op≠.defer c:=fun c hc=>by rw [hc] at h;exact h
  refine ⟨fun _ _=>trivial,?_⟩;rw [show (fw ro).round=ro from rfl,Oper.semAt_eq _ _ _ i7];obtain ⟨pv,σ1,v,w1,e1,hK,ai,hst,gq,hr⟩:=ZpO hC.tab hS (fun x=>Zc1 hF x) o h;rw [ai];exact KRel.put hF hL hN bh hZ hd hK hst gq hr
 exact UB hC hS hF hL hN bh hZ hd h
def ZgP (hC:CxOK G C ro e0 σ0 w0) {ops:Array Oper} (hd:∀o,o∈ops->∀d,o.dst=some d->d<N/\∀t v,Z t->Z (t.setIfInBounds d v)):∀(l:List Oper) (k:Nat),(∀j,l[j]?=ops[k+j]?)->∀{e:Env} {σ:St} {w:World} {a:Act} {f:Frame},
  SRel G e σ w->FRel G e σ w f a.tmps->Later e0 σ0 w0 e σ w->a.tmps.size=N->Marks ds e σ w a.defers->Z a.tmps->Zrj C ops.toList Q l f σ ->
  wpOpsIn (fw ro) n G.P ops (ZQ G e0 σ0 w0 ds N Z Q) (List.range' k l.length) a w
 | [],k,_,e,σ,w,a,f,hS,hF,hL,hN,bh,hZ,h=>⟨.normal,f,e,σ,h,rfl,hS,hF,hL,hN,bh,hZ⟩
 | o::l,k,hl,e,σ,w,a,f,hS,hF,hL,hN,bh,hZ,h=>by
  have h0:ops[k]?=some o:=by simpa using (hl 0).symm
  have bl:=Zc3 (ro:=ro) (n:=n) hC hS hF hL hN bh hZ (ops:=ops) (hd o (Sk h0)) h;have next:∀a' w',KRel G e0 σ0 w0 ds N Z (Zrj C ops.toList Q l) a' w'->wpOpsIn (fw ro) n G.P ops (ZQ G e0 σ0 w0 ds N Z Q) (List.range' (k+1) l.length) a' w':=fun a' w' ⟨f',e',σ',h1,h2,h3,h4,h5,h6,h7⟩ =>
   ZgP hC hd l (k+1) (fun j=>by have:=hl (j+1);simpa [Sv,Nat.add_comm 1 j] using this) h2 h3 h4 h5 h6 h7 h1
  rw [Te,List.range'_succ];simp only [wpOpsIn,h0];split at bl
  ·rename_i hw
   rw [Tg hw];exact Oper.wpIn_mono next bl
  rename_i hw
  rw [Tb hw];exact ⟨fun _ _=>trivial,next _ _ bl⟩
end
end Go.PM
end

section
namespace Go.PM
def ZdQ {k:IntKind} {n:Int} {K:PV->Prop} (h:ZdA k n K):∃v,K v/\∀K':PV->Prop,K' v->ZdA k n K':=by
 rcases h with ⟨h1,h2⟩ | h
 ·exact ⟨_,h2,fun K' h'=>.inl ⟨h1,h'⟩⟩
 exact ⟨_,h,fun K' h'=>.inr h'⟩
def ZyX {op:BinOp} {k:IntKind} {a b:Int} {K:PV->Prop} (h:Zx6 op k a b K):∃v,K v/\∀K':PV->Prop,K' v->Zx6 op k a b K':=by
 cases op <;> simp only [Zx6] at h <;> first
  | exact h.elim
  | exact ZdQ h
  | exact ⟨_,h,fun K' h'=>h'⟩
  | (obtain ⟨v,h1,h2⟩:=ZdQ h.2;exact ⟨v,h1,fun K' h'=>⟨h.1,h2 K' h'⟩⟩)
  | exact ⟨_,h.2,fun K' h'=>⟨h.1,h'⟩⟩
def UC {T:Tab}:∀{fs:List (Nat×Nat)} {i:Nat} {xs ys:List PV} {K:Bool->Prop},Y4 T i fs xs ys K->∃v,K v/\∀K':Bool->Prop,K' v->Y4 T i fs xs ys K'
 | [],i,xs,ys,K,h=>by cases xs <;> cases ys <;> first | exact ⟨_,h,fun K' h'=>h'⟩ | exact h.elim
 | (o,t)::fs,i,[],ys,K,h=>h.elim
 | (o,t)::fs,i,x::xs,[],K,h=>h.elim
 | (o,t)::fs,i,x::xs,y::ys,K,h=>by
  simp only [Y4] at h;split at h
  ·rename_i h1 h2
   split at h
   ·rename_i h3
    obtain ⟨v,g1,g2⟩:=UC h;exact ⟨_,g1,fun K' h'=>by simp only [Y4,h1,h2,h3];exact g2 (fun r=>K' _) h'⟩
   exact h.elim
  ·exact mq127
  ·exact mq127
  exact h.elim
def ZDA {T:Tab} {t:TypeId} {x y:Operand} {px py:PV} {K:Bool->Prop} (h:peq T t x y px py K):∃v,K v/\∀K':Bool->Prop,K' v->peq T t x y px py K':=by
 unfold peq at h
 split at h
 case h_7 =>
  rename_i hk
  split at h
  ·rename_i he
   split at h
   ·obtain ⟨v,g1,g2⟩:=UC h;exact ⟨v,g1,fun K' h'=>by simp only [peq,hk,he];exact g2 K' h'⟩
   exact h.elim
  exact h.elim
 all_goals (repeat' split at h) <;> first
  | exact h.elim
  | exact ⟨_,h,fun K' h'=>by simp only [peq, *];exact h'⟩
  | exact ⟨_,h,fun K' h'=>by simp only [peq, *]⟩
def ZyY {T:Tab} {op:BinOp} {t:TypeId} {x y:Operand} {px py:PV} {K:PV->Prop} (h:Zu8 T op t x y px py K):∃v,K v/\∀K':PV->Prop,K' v->Zu8 T op t x y px py K':=by
 unfold Zu8 at h
 split at h
 ·split at h
  ·obtain ⟨v,h1,h2⟩:=ZdQ h.2;exact ⟨_,h1,fun K' h'=>⟨h.1,h2 K' h'⟩⟩
  ·exact ⟨_,h.2,fun K' h'=>⟨h.1,h'⟩⟩
  rename_i h1 h2
  split at h
  ·rename_i hk
   obtain ⟨v,g1,g2⟩:=ZyX h;refine ⟨v,g1,fun K' h'=>?_⟩
   cases op <;> first
    | exact absurd rfl h1
    | exact absurd rfl h2
    | (simp only [Zu8,hk];exact g2 K' h')
  exact h.elim
 ·cases op <;> simp only at h <;> first
   | exact h.elim
   | exact ⟨_,h,fun K' h'=>h'⟩
   | exact ⟨_,h.2,fun K' h'=>⟨h.1,h'⟩⟩
 rename_i h1 h2
 cases op <;> simp only at h <;> first
  | exact h.elim
  | (obtain ⟨v, g1, g2⟩ := ZDA h
     refine ⟨_,g1,fun K' h'=>?_⟩;unfold Zu8
     split
     ·exact absurd rfl (h1 _ _ _ _ rfl)
     ·exact absurd rfl (h2 _ _ rfl)
     exact g2 _ h')
def Zew {lo hi:Option PV} {n:Nat} {K:Nat->Nat->Prop} (h:Wu lo hi n K):∃a b,K a b/\∀K':Nat->Nat->Prop,K' a b->Wu lo hi n K':=by
 unfold Wu at h
 split at h
 ·exact ⟨_,_,h,fun K' h'=>h'⟩
 ·split at h
  ·exact ⟨_,_,h.2.2,fun K' h'=>⟨h.1,h.2.1,h'⟩⟩
  exact h.elim
 ·split at h
  ·exact ⟨_,_,h.2.2,fun K' h'=>⟨h.1,h.2.1,h'⟩⟩
  exact h.elim
 split at h
 ·exact ⟨_,_,h.2.2.2,fun K' h'=>⟨h.1,h.2.1,h.2.2.1,h'⟩⟩
 exact h.elim
def Zh4 {T:Tab} {t:TypeId} {x:PV} {bx:List Box} {K:PV->Prop} (h:ZaA T t x bx K):∃v,K v/\∀K':PV->Prop,K' v->ZaA T t x bx K':=by
 unfold ZaA at h
 (repeat' split at h) <;> first
  | exact h.elim
  | exact ⟨_,h,fun K' h'=>by simp only [ZaA, *];exact h'⟩
  | exact ⟨_,h,fun K' h'=>by simp_all [ZaA]⟩
def ZpQ {T:Tab} {t:TypeId} {m k:PV} {ok:Bool} {bx:List Box} {K:PV->Prop} (h:YY T t m k ok bx K):∃v,K v/\∀K':PV->Prop,K' v->YY T t m k ok bx K':=by
 unfold YY at h
 split at h
 ·rename_i kt el hk
  split at h
  ·exact h.elim
  rename_i ho
  have lift:∀{X:Prop},X->(match (generalizing:=false) (T.get el).kind with | .other=>False | _=>X):=fun {X} x=>by
   cases qk:(T.get el).kind
   case other=>exact absurd qk ho
   all_goals exact x
  split at h
  ·split at h
   ·rename_i hz
    split at h
    ·exact ⟨_,h,fun K' h'=>by simp only [YY,hk,hz];exact h'⟩
    ·split at h
     ·rename_i hb
      split at h
      ·rename_i hf;exact ⟨_,h,fun K' h'=>by simp only [YY,hk,hz,hb,hf];exact h'⟩
      rename_i hf;exact ⟨_,h,fun K' h'=>by simp only [YY,hk,hz,hb,hf];exact h'⟩
     ·rename_i hb
      exact mq97
     ·rename_i hb
      split at h
      ·exact mq97
      split at h
      ·obtain ⟨rfl,h⟩:=h;exact ⟨_,h,fun K' h'=>by simp only [YY,hk,hz,hb];exact ⟨trivial,h'⟩⟩
      exact h.elim
     exact h.elim
    exact h.elim
   exact h.elim
  exact h.elim
 exact h.elim
def Zvs {m m':List (List UInt8×List (List D))} {fo fo':Option (List UInt8×PV)} (h:ZGP m fo=ZGP m' fo'):m=m'/\fo=fo':=by
 unfold ZGP at h
 obtain ⟨h1,h2⟩:=List.cons.inj h;refine ⟨List.map_inj_right (fun x y wb=>?_) |>.1 h2,?_⟩
 ·obtain ⟨x1,x2⟩:=x;obtain ⟨y1,y2⟩:=y;simp at wb;rw [wb.1,wb.2]
 cases fo with
 | none=>cases fo' with
  | none=>rfl
  | some kv=>cases h1
 | some kv=>cases fo' with
  | none=>cases h1
  | some kv' =>
   obtain ⟨k,v⟩:=kv;obtain ⟨k',v'⟩:=kv';simp at h1;rw [h1.1,h1.2]
def Zh5 {T:Tab} {t:TypeId} {m k:PV} {ok:Bool} {bx bx':List Box} {K:PV->Prop} (hl:∀b,m=.mp b->Yc bx b 0 0=Yc bx' b 0 0) (h:YY T t m k ok bx K):YY T t m k ok bx' K:=by
 cases m with
 | mp b =>
  have hc:=hl b rfl;have:(∀cs bn ck,bx[b]?=some (.map cs bn ck)->∃bn' ck',bx'[b]?=some (.map cs bn' ck')):=fun cs bn ck hb=>by
   unfold Yc at hc
   rw [hb] at hc;simp only at hc;split at hc
   ·cases hc
   ·rename_i cs' bn' ck' gh;cases hc;exact ⟨bn',ck',gh⟩
   ·cases hc
   ·cases hc
   cases hc
  have this2:∀l,bx[b]?=some (.dmap l)->bx'[b]?=some (.dmap l):=fun l hb=>by
   unfold Yc at hc
   rw [hb] at hc;simp only at hc;split at hc
   ·cases hc
   ·cases hc
   ·rename_i gh;cases hc;exact gh
   ·cases hc
   cases hc
  have this3:∀el m fo,bx[b]?=some (.smap el m fo)->∃el',bx'[b]?=some (.smap el' m fo):=fun el m fo hb=>by
   unfold Yc at hc
   rw [hb] at hc;simp only at hc;split at hc
   ·cases hc
   ·cases hc
   ·cases hc
   ·rename_i el' m' fo' gh
    obtain ⟨rfl,rfl⟩:=Zvs (Prod.mk.inj (Prod.mk.inj (Option.some.inj hc)).2).1;exact ⟨el',gh⟩
   cases hc
  unfold YY at h |-
  split at h
  ·rename_i kt el hk
   split at h
   ·exact h.elim
   rename_i ho
   have lift:∀{X:Prop},X->(match (generalizing:=false) (T.get el).kind with | .other=>False | _=>X):=fun {X} x=>by
    cases qk:(T.get el).kind
    case other=>exact absurd qk ho
    all_goals exact x
   split at h
   ·split at h
    ·simp only at h |-;split at h
     ·rename_i cs bn ck hb
      obtain ⟨bn',ck',gh⟩:=this cs bn ck hb;simp only [gh];exact h
     ·rename_i l hb
      simp only [this2 l hb];exact h
     ·rename_i el2 l fo hb
      obtain ⟨el',gh⟩:=this3 el2 l fo hb;simp only [gh];exact h
     exact h.elim
    exact h.elim
   exact h.elim
  exact h.elim
 | _=>exact h
def ZrN {T:Tab} {t:TypeId} {x:PV} {lo hi:Option PV} {K:PV->Prop} (h:U1 T t x lo hi K):∃v,K v/\∀K':PV->Prop,K' v->U1 T t x lo hi K':=by
 unfold U1 at h
 split at h
 ·rename_i hk
  split at h
  ·obtain ⟨a,b,h1,h2⟩:=Zew h;exact ⟨_,h1,fun K' h'=>by simp only [U1,hk];exact h2 (fun a b=>K' _) h'⟩
  exact h.elim
 ·rename_i el hk
  split at h
  ·exact h.elim
  rename_i bm
  split at h
  ·rename_i rows bz
   obtain ⟨hw,h⟩:=h;obtain ⟨a,b,h1,h2⟩:=Zew h;refine ⟨_,h1,fun K' h'=>?_⟩;unfold U1
   rw [hk];dsimp only
   cases gc:(T.get el).kind
   case other=>exact absurd gc bm
   all_goals (dsimp only;rw [bz];exact ⟨hw,h2 (fun a b=>K' _) h'⟩)
  exact h.elim
 ·rename_i n el hk
  split at h
  ·exact h.elim
  rename_i bm
  split at h
  ·refine ⟨_,h,fun K' h'=>?_⟩;unfold U1
   rw [hk];dsimp only
   cases gc:(T.get el).kind
   case other=>exact absurd gc bm
   all_goals exact h'
  ·rename_i qy qz
   obtain ⟨g1,g2,h⟩:=h;refine ⟨_,h,fun K' h'=>?_⟩;unfold U1
   rw [hk];dsimp only
   cases gc:(T.get el).kind
   case other=>exact absurd gc bm
   all_goals exact ⟨g1,g2,h'⟩
  exact h.elim
 exact h.elim
def Zl2 {T:Tab} {fs:List (Nat×Nat)} {ρ:Operand->PV}:∀{ps:List (Nat×Operand)} {cs:List PV} {K:List PV->Prop},Yp T fs ρ ps cs K->∃v,K v/\∀K':List PV->Prop,K' v->Yp T fs ρ ps cs K'
 | [],cs,K,h=>⟨cs,h,fun K' h'=>h'⟩
 | (i,x)::ps,cs,K,h=>by
  simp only [Yp] at h;split at h
  ·split at h
   ·exact h.elim
   ·obtain ⟨v,h1,h2⟩:=Zl2 h;exact ⟨v,h1,fun K' h'=>by have:=h2 K' h';simp only [Yp, *]⟩
   exact h.elim
  exact h.elim
def ZDB {T:Tab} {o:Op} {ty:TypeId} {ρ:Operand->PV} {bx:List Box} {K:PV->Prop} (h:qop T o ty ρ bx K):∃v,K v/\∀K':PV->Prop,K' v->qop T o ty ρ bx K':=by
 unfold qop at h
 split at h
 case h_5=>obtain ⟨v,h1,h2⟩:=Zh4 h;exact ⟨v,h1,fun K' h'=>h2 K' h'⟩
 case h_6=>obtain ⟨v,h1,h2⟩:=ZpQ h;exact ⟨v,h1,fun K' h'=>h2 K' h'⟩
 case h_8=>obtain ⟨v,h1,h2⟩:=ZyY h;exact ⟨v,h1,fun K' h'=>h2 K' h'⟩
 case h_15=>obtain ⟨v,h1,h2⟩:=ZrN h;exact ⟨v,h1,fun K' h'=>h2 K' h'⟩
 case h_4 =>
  split at h
  ·rename_i fs hk;obtain ⟨v,h1,h2⟩:=Zl2 h;exact ⟨_,h1,fun K' h'=>by simp only [qop,hk];exact h2 (fun cs=>K' (.agg cs)) h'⟩
  ·rename_i n el hk
   split at h
   ·exact h.elim
   rename_i bm
   split at h
   ·rename_i cq
    obtain ⟨v,h1,h2⟩:=Zl2 h;refine ⟨_,h1,fun K' h'=>?_⟩;have h3:=h2 (fun cs=>K' (.agg cs)) h';simp only [qop,hk]
    cases qk:(T.get el).kind
    case other=>exact absurd qk bm
    all_goals (simp only [cq];exact h3)
   exact h.elim
  exact h.elim
 case h_3 =>
  split at h
  ·rename_i t bu
   cases t
   ·exact ⟨_,h,fun K' h'=>by simp only [qop,bu];exact h'⟩
   exact ⟨_,h,fun K' h'=>by simp only [qop,bu];exact h'⟩
  exact h.elim
 all_goals (repeat' split at h) <;> first
  | exact h.elim
  | exact ⟨_,h,fun K' h'=>by first | (simp only [qop, *];exact h') | (simp only [qop, *])⟩
  | (obtain ⟨v,h1,h2⟩:=ZdQ h;exact ⟨_,h1,fun K' h'=>by first | (simp only [qop, *];exact h2 K' h') | (simp only [qop, *])⟩)
  | (obtain ⟨h1,h2⟩:=h;exact ⟨_,h2,fun K' h'=>by simp only [qop, *];exact ⟨h1,h'⟩⟩)
  | (obtain ⟨h0,h1,h2⟩:=h;exact ⟨_,h2,fun K' h'=>by first | (simp only [qop, *];exact ⟨h0,h1,h'⟩) | (simp only [qop, *];exact ⟨trivial,trivial,h'⟩)⟩)
  | skip
 ·rename_i h1 _ h2 _ h3 _ rows h4
  obtain ⟨l,hl,hK⟩:=h;exact ⟨_,hK,fun K' h'=>by simp only [qop,h1,h2,h3,h4];exact ⟨l,hl,h'⟩⟩
 ·rename_i h1 _ h2 _ s h3
  obtain ⟨h4,h5,hK⟩:=h;exact ⟨_,hK,fun K' h'=>by simp only [qop,h1,h2,h3];exact ⟨h4,h5,h'⟩⟩
 ·rename_i hi _ m el hk _ cs hx _ ha _ l hl
  obtain ⟨h4,h5,hK⟩:=h;exact ⟨_,hK,fun K' h'=>by simp only [qop,hi,hk,hx,ha,hl];exact ⟨h4,h5,h'⟩⟩
 ·rename_i hi _ m el hk _ cs hx _ ha _ ho _ hs _ v hv
  obtain ⟨h4,h5,hK⟩:=h;refine ⟨_,hK,fun K' h'=>?_⟩;simp only [qop,hi,hk,hx,ha]
  cases gc:(T.get el).kind
  case other=>exact absurd gc ho
  all_goals (simp only [hs,hv];exact ⟨h4,h5,h'⟩)
 ·rename_i hi _ el hk _ ho _ b off m hx
  exact mq105
 ·rename_i hi _ el hk _ ho _ aj _ rows hr
  obtain ⟨r,h4,h5,h6⟩:=h;split at h6
  ·rename_i h7
   refine ⟨_,h6,fun K' h'=>?_⟩;simp only [qop,hi,hk]
   cases gc:(T.get el).kind
   case other=>exact absurd gc ho
   all_goals
    split
    ·rename_i cd;rw [hr] at cd;cases cd;exact ⟨r,h4,h5,by simp only [h7];exact h'⟩
    rename_i cd;exact (cd _ hr).elim
  exact h6.elim
 rename_i hi _ m el hk _ ho _ b off hx
 exact mq105
def ZpR {T:Tab} {o:Op} {ty:TypeId} {ρ:Operand->PV} {bx:List Box} {K:PV->Prop} (h1:ZlT T o=none) (h2:∀t n ps,o=.buildSlice t n ps->False) (h3:∀t l c,o=.makeSlice t l c->False):ZhY T o ty ρ bx K=qop T o ty ρ bx K:=by
 unfold ZhY
 rw [h1]
 cases o <;> first | rfl | exact (h2 _ _ _ rfl).elim | exact (h3 _ _ _ rfl).elim
def ZrO {T:Tab} {o:Op} {ty:TypeId} {ρ:Operand->PV} {bx:List Box} {K:PV->Prop} (h:ZhY T o ty ρ bx K):∃v,K v/\∀K':PV->Prop,K' v->ZhY T o ty ρ bx K':=by
 unfold ZhY at h
 split at h
 ·rename_i x hx
  split at h
  ·rename_i s bu
   exact ⟨_,h,fun K' h'=>by unfold ZhY;rw [hx];simp only [bu];exact h'⟩
  exact h.elim
 rename_i hx
 split at h
 ·rename_i t n ps
  (repeat' split at h) <;> first
   | exact h.elim
   | (refine ⟨_,h,fun K' h'=>?_⟩;unfold ZhY;rw [hx];simp only [*])
 ·rename_i t l c
  (repeat' split at h) <;> first
   | exact h.elim
   | (obtain ⟨rfl,q2,q3,q4,h⟩:=h;refine ⟨_,h,fun K' h'=>?_⟩;unfold ZhY;rw [hx];simp only [*];exact ⟨by simp_all,by simp_all,by simp_all,by simp_all,by first | exact h' | trivial⟩)
 rename_i jx wz
 obtain ⟨v,h1,h2⟩:=ZDB h;exact ⟨v,h1,fun K' h'=>by rw [ZpR hx jx wz];exact h2 K' h'⟩
def Zl3 {bx bx':List Box} {b off n:Nat} (h:Yc bx b off n=Yc bx' b off n) {t:TypeId} {cs:List PV} (hb:bx[b]?=some (.cells t cs)) :
  ∃t' cs',bx'[b]?=some (.cells t' cs')/\(cs.drop off).take n=(cs'.drop off).take n:=by
 unfold Yc at h
 rw [hb] at h;simp only at h;split at h
 ·rename_i t' cs' gh;exact ⟨t',cs',gh,(Prod.mk.inj (Prod.mk.inj (Option.some.inj h)).2).1⟩
 ·cases h
 ·cases h
 ·cases h
 cases h
def Zex {α:Type}:∀{n:Nat} {l m:List α},l.take n=m.take n->VT n l=VT n m
 | 0,_,_,_=>rfl
 | n+1,[],[],_=>rfl
 | n+1,[],y::m,h=>by simp at h
 | n+1,x::l,[],h=>by simp at h
 | n+1,x::l,y::m,h=>by
  simp only [List.take_succ_cons,List.cons.injEq] at h;obtain ⟨rfl,h⟩:=h;simp only [VT,Zex h]
def Zl4 {T:Tab} {t:TypeId} {x:PV} {bx bx':List Box} {K:PV->Prop} (ao:(T.get t).kind≠.other->(T.get t).kind.isAgg=false->(T.get t).size=1) (hl:∀b off,x=.ptr b off->Yc bx b off (T.get t).size=Yc bx' b off (T.get t).size)
  (h:ZaA T t x bx K):ZaA T t x bx' K:=by
 unfold ZaA at h |-
 split at h
 ·rename_i b off
  have hc:=hl b off rfl;split at h
  ·rename_i ty cs hb
   obtain ⟨t',cs',gh,rh⟩:=Zl3 hc hb;simp only [gh];split at h
   ·rename_i hk
    rw [<- Zex rh];exact h
   rename_i hk
   have h1:(T.get t).kind≠.other->cs[off]?=cs'[off]?:=fun ho=>by
    have hp:=ao ho hk;have:=congrArg (·[0]?) rh
    simpa [S0,hp] using this
   cases bm:(T.get t).kind <;> rw [bm] at h <;> simp only at h |- <;> first | exact h.elim | (rw [<- h1 (by rw [bm];simp)];exact h)
  exact h.elim
 ·exact h
 exact h.elim
def ZrP {T:Tab} {o:Op} {ty:TypeId} {ρ ρ':Operand->PV} {bx bx':List Box} {K:PV->Prop} (hρ:∀x,x∈o.operands->ρ x=ρ' x)
  (ao:∀t,(T.get t).kind≠.other->(T.get t).kind.isAgg=false->(T.get t).size=1)
  (hl:∀b off n,Zu9 T o ρ=some (b,off,n)->Yc bx b off n=Yc bx' b off n) (h:qop T o ty ρ bx K):qop T o ty ρ' bx' K:=by
 cases o with
 | load t a =>
  have ha:ρ a=ρ' a:=hρ a oP;simp only [qop] at h |-;rw [<- ha];exact Zl4 (ao t) (fun b off hx=>hl b off _ (by simp only [Zu9,hx])) h
 | lookup t m k ok =>
  simp only [qop] at h |-;rw [<- hρ m oP,<- hρ k oP];exact Zh5 (fun b hx=>hl b 0 0 (by simp only [Zu9,hx])) h
 | build t ps =>
  simp only [qop] at h |-;have fillC:∀fs (l:List (Nat×Operand)),(∀p∈l,ρ p.2=ρ' p.2)->∀cs (K:List PV->Prop),Yp T fs ρ l cs K->Yp T fs ρ' l cs K:=by
    intro fs l
    induction l with
    | nil=>intro _ cs K h;exact h
    | cons p l ih =>
    intro hp cs K h
    obtain ⟨i,x⟩:=p;simp only [Yp] at h |-;rw [<- hp (i,x) sM];split at h
    ·rename_i h1 h2
     split at h
     ·exact h.elim
     ·rename_i h3 h4 h5
      simp only [h1,h2,h3,h4]
      cases qk:(T.get _).kind
      case other=>exact absurd qk h5
      all_goals exact ih (fun q hq=>hp q (by simp [hq])) _ _ h
     exact h.elim
    exact h.elim
  have tq:∀p∈ps.toList,ρ p.2=ρ' p.2:=fun p hp=>hρ p.2 (by simp only [Op.operands];exact TT.2 (by simp only [Sh];exact ⟨p,hp,rfl⟩))
  split at h
  ·exact fillC _ ps.toList tq _ _ h
  ·rename_i n el hk
   split at h
   ·exact h.elim
   rename_i bm
   split at h
   ·rename_i cq
    cases qk:(T.get el).kind
    case other=>exact absurd qk bm
    all_goals (exact fillC _ ps.toList tq _ _ h)
   exact h.elim
  exact h.elim
 | slice t x lo hi mx =>
  cases mx with
  | some _=>exact h
  | none =>
  simp only [qop] at h |-;have h1:ρ x=ρ' x:=hρ x oP;have h2:lo.map ρ=lo.map ρ':=by cases lo with | none=>rfl | some a=>simp [hρ a oP]
  have h3:hi.map ρ=hi.map ρ':=by cases hi with | none=>rfl | some a=>simp [hρ a oP]
  rw [<- h1,<- h2,<- h3];exact h
 | makeFunc fn a c =>
  cases fn with
  | func g =>
   simp only [qop] at h |-;have h1:a.toList.map ρ=a.toList.map ρ':=TX fun x hx=>hρ x (by simp only [Op.operands,Array.mem_append];exact .inl (TT.2 hx))
   have h2:c.toList.map ρ=c.toList.map ρ':=TX fun x hx=>hρ x (by simp only [Op.operands,Array.mem_append];exact .inr (TT.2 hx))
   rw [<- h1,<- h2];exact h
  | _=>exact h
 | call c =>
  obtain ⟨callee,args,argTypes⟩:=c
  cases callee with
  | builtin b =>
   simp only [qop] at h |-;have h1:args.toList.map ρ=args.toList.map ρ':=TX fun x hx=>hρ x (by simp only [Op.operands,Call.operands,Array.empty_append];exact TT.2 hx)
   rw [<- h1];split at h
   ·rename_i t ts v s8 ca
    split at h
    ·exact h
    ·exact h
    ·rename_i hk
     split at h
     ·exact h
     ·rename_i b
      have hc:=hl b 0 0 (by simp only [Zu9,ca]);split at h
      ·rename_i cs bn ck hb
       unfold Yc at hc
       rw [hb] at hc;simp only at hc;split at hc
       ·cases hc
       ·rename_i cs' bn' ck' gh;cases hc;simp only [gh];exact h
       ·cases hc
       ·cases hc
       cases hc
      ·rename_i m hb
       unfold Yc at hc
       rw [hb] at hc;simp only at hc;split at hc
       ·cases hc
       ·cases hc
       ·rename_i gh;cases hc;simp only [gh];exact h
       ·cases hc
       cases hc
      exact h.elim
     exact h.elim
    exact h.elim
   ·exact h
   ·exact h
   exact h.elim
  | _=>exact h
 | move x=>simp only [qop] at h |-;rw [<- hρ x oP];exact h
 | assign x=>simp only [qop] at h |-;rw [<- hρ x oP];exact h
 | pick c a b=>simp only [qop] at h |-;rw [<- hρ c oP,<- hρ a oP,<- hρ b oP];exact h
 | nilCheck x=>simp only [qop] at h |-;rw [<- hρ x oP];exact h
 | binOp op t x y yt=>simp only [qop] at h |-;rw [<- hρ x oP,<- hρ y oP];exact h
 | unOp op t x=>simp only [qop] at h |-;rw [<- hρ x oP];exact h
 | convert s d x=>simp only [qop] at h |-;rw [<- hρ x oP];exact h
 | fieldAddr s x i=>simp only [qop] at h |-;rw [<- hρ x oP];exact h
 | field s x i=>simp only [qop] at h |-;rw [<- hρ x oP];exact h
 | index t x i=>simp only [qop] at h |-;rw [<- hρ x oP,<- hρ i oP];exact h
 | indexAddr t x i=>simp only [qop] at h |-;rw [<- hρ x oP,<- hρ i oP];exact h
 | extract x i=>simp only [qop] at h |-;rw [<- hρ x oP];exact h
 | makeInterface t x=>simp only [qop] at h |-;rw [<- hρ x oP];exact h
 | typeAssert x xt t b=>cases b <;> simp only [qop] at h |- <;> first | exact h.elim | (rw [<- hρ x oP];exact h)
 | _=>exact h
def Zh6 {T:Tab} {o:Op} {x:Operand} (h:ZlT T o=some x):x∈o.operands/\∀t a,o≠.load t a:=by
 unfold ZlT at h
 split at h
 ·(repeat' split at h) <;> first | cases h;done | (cases h;exact ⟨oP,fun t a hh=>by cases hh⟩)
 cases h
def Zap {w:Nat} {ρ ρ':Operand->PV}:∀{ps:List (Nat×Operand)} (_:∀p∈ps,ρ p.2=ρ' p.2) (rows:List (List D)),Wv w ρ ps rows=Wv w ρ' ps rows
 | [],_,_=>rfl
 | (i,x)::ps,h,rows=>by
  simp only [Wv];rw [<- h (i,x) sM]
  cases ZlU (ρ x) with
  | none=>rfl
  | some r =>
  have ih:=Zap (w:=w) (ρ:=ρ) (ρ':=ρ') (ps:=ps) (fun p hp=>h p (Tt _ hp)) (rows.set i r);simp only [ih]
def ZgQ {T:Tab} {o:Op} {ty:TypeId} {ρ ρ':Operand->PV} {bx bx':List Box} {K:PV->Prop} (hρ:∀x,x∈o.operands->ρ x=ρ' x)
  (ao:∀t,(T.get t).kind≠.other->(T.get t).kind.isAgg=false->(T.get t).size=1)
  (hl:∀b off n,Zu9 T o ρ=some (b,off,n)->Yc bx b off n=Yc bx' b off n) (h:ZhY T o ty ρ bx K):ZhY T o ty ρ' bx' K:=by
 unfold ZhY at h |-
 split at h
 ·rename_i x hx
  rw [<- hρ x (Zh6 hx).1];exact h
 rename_i hx
 split at h
 ·rename_i t n ps
  have:∀w rows,Wv w ρ ps.toList rows=Wv w ρ' ps.toList rows:=fun w rows=>Zap (fun p hp=>hρ p.2 (by simp only [Op.operands];exact TT.2 (by simp only [Sh];exact ⟨p,hp,rfl⟩))) rows
  simp only [Zcf,this] at h |-;exact h
 ·rename_i t l c
  rw [<- hρ l oP,<- hρ c oP];exact h
 exact ZrP hρ ao hl h
def ZrQ {T:Tab} {o:Op} {ρ ρ':Operand->PV} {σ:St} {K:PV->St->Prop} (hρ:∀x,x∈o.operands->ρ x=ρ' x) (h:eop T o ρ σ K):eop T o ρ' σ K:=by
 cases o with
 | box e x=>simp only [eop] at h |-;rw [<- hρ x oP];exact h
 | store t a x=>simp only [eop] at h |-;rw [<- hρ a oP,<- hρ x oP];exact h
 | mapUpdate t a x v=>simp only [eop] at h |-;rw [<- hρ a oP,<- hρ x oP,<- hρ v oP];exact h
 | insert t a x v=>simp only [eop] at h |-;rw [<- hρ a oP,<- hρ x oP,<- hρ v oP];exact h
 | makeMap t r=>cases r <;> exact h
 | range t x=>simp only [eop] at h |-;rw [<- hρ x oP];exact h
 | next x b=>cases b <;> simp only [eop] at h |- <;> first | exact h | (rw [<- hρ x oP];exact h)
 | call c =>
  obtain ⟨callee,args,argTypes⟩:=c
  cases callee with
  | builtin b =>
   cases b with
   | append =>
    simp only [eop] at h |-;have h1:args.toList.map ρ=args.toList.map ρ':=TX fun x hx=>hρ x (by simp only [Op.operands,Call.operands,Array.empty_append];exact TT.2 hx)
    rw [<- h1];exact h
   | _=>exact h
  | _=>exact h
 | _=>exact h
end Go.PM
end
