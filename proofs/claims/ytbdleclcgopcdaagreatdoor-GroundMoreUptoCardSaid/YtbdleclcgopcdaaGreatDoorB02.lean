/- A part of the proof: plain logic, contracts and laws over the given program. -/
import Derived.RangeFuncRecord
import Derived.Deep.AppendSrc
import Derived.Deep.Upon
import Derived.Lib.OthersKept
import Derived.Lib.ConvBytes
import Derived.OrdersIn
import Derived.Test.YtbdleclcgopcdaaGreatDoorB01
set_option linter.unusedVariables false
set_option linter.unusedSimpArgs false
set_option linter.all false
set_option maxRecDepth 100000
set_option maxHeartbeats 16000000
section
namespace Go.PM
section
variable {G:GE} {e:Env} {σ:St} {w:World} {T:Tab}
structure Grows (w w1:World):Prop where
 os:w1.os=w.os
 tape:w1.tape=w.tape
 output:w1.output=w.output
 size:w.heap.size<=w1.heap.size
 old:∀b,b<w.heap.size->w1.heap[b]?=w.heap[b]?
def Grows.refl (w:World):Grows w w:=⟨rfl,rfl,rfl,Tu _,fun _ _=>rfl⟩
def Grows.trans {a b c:World} (h:Grows a b) (k:Grows b c):Grows a c :=
 ⟨k.os.trans h.os,k.tape.trans h.tape,k.output.trans h.output,TT h.size k.size,fun i hi=>(k.old i (TA hi h.size)).trans (h.old i hi)⟩
def Grows.alloc (w:World) (o:Obj):Grows w (w.alloc o):=⟨rfl,rfl,rfl,by simp only [World.alloc,Array.size_push];omega,fun i hi=>heap_alloc_old w o i hi⟩
def Grows.drew (w:World):Grows w w.drew:=⟨rfl,rfl,rfl,Tu _,fun _ _=>rfl⟩
def Grows.cell {w w1:World} (h:Grows w w1) {b off:Nat} (hb:b<w.heap.size):w1.cell? ⟨b,off,none⟩=w.cell? ⟨b,off,none⟩:=by simp [World.cell?,h.old b hb]
def Grows.stepped {w1:World} (h:Grows w w1) (e:Env) (σ:St):Stepped e σ w e σ w1 where
 len:=Tu _
 beta:=fun _ _=>rfl
 X:=fun _ _ h=>h
 pres:=fun b off u hc ho=>⟨ho,(h.cell (Vv hc)).trans hc⟩
 blocks:=fun b hb _ _ _=>h.old b hb
 size:=h.size
 os:=h.os
 tape:=h.tape
 output:=h.output
 fresh:=fun i h1 h2=>oM
 ftok:=fun t ht p hp=>.inr (.inl ⟨t,ht,p,hp,rfl⟩)
 fhid:=fun b h=>.inr (.inr h)
 nx:=Tu _
 toks:=fun _ _ ht=>⟨ht,rfl⟩
 own:=fun _ _ _ _ _ hp=>h.old _ hp
def SRel.keepG (hS:SRel G e σ w) {w1:World} (h:Grows w w1) (bb:Nat):HKeep e w e w1 bb:=fun b q hq _=>⟨hq,h.old _ (hS.hid b q hq).2.1⟩
def SRel.grow (hS:SRel G e σ w) {w1:World} (h:Grows w w1):SRel G e σ w1 where
 inj:=hS.inj
 box:=fun i x hx=>(hS.box i x hx).step (h.stepped e σ) (h.old _ (hS.lt (Ti.1 hx).1)) (hS.keepG h _)
 low:=hS.low
 tkn:=hS.tkn
 own:=fun t ht p hp=>by
  obtain ⟨h1,h2,cs,ty,fz,h3⟩:=hS.own t ht p hp;exact ⟨h1,h2,cs,ty,fz,(h.old _ (Tp.1 h3).1).trans h3⟩
 dis:=hS.dis
 xown:=hS.xown
 xlt:=fun b off hx=>TA (hS.xlt b off hx) h.size
 hid:=fun b q hq=>let ⟨h1,h2,h3⟩:=hS.hid b q hq;⟨h1,TA h2 h.size,h3⟩
 glob:=fun b hb=>(h.old b (TA hb hS.big)).trans (hS.glob b hb)
 big:=TT hS.big h.size
def SRel.fresh_okc (hS:SRel G e σ w) (off:Nat):okc e σ w.heap.size off:=by
 refine ⟨fun hX=>?_,fun k hk=>?_,fun t ht p hp s4=>?_,fun q hq=>?_⟩
 ·have:=hS.xlt _ _ hX;omega
 ·have:=hS.lt hk;omega
 ·obtain ⟨_,_,cs,ty,fz,hh⟩:=hS.own t ht p hp;have:=(Tp.1 hh).1;omega
 have:=(hS.hid _ _ hq).2.1;omega
def Env.more (e:Env) (n b:Nat):Env:={ e with β:=fun i=>if i=n then b else e.β i }
def ZF1 (σ:St) (x:Box):(σ.new x).bx.length=σ.bx.length+1:=by simp [St.new]
def W3 (hS:SRel G e σ w) (x:Box) (ob:Obj) (hob:∀e1 σ1 w1,Stepped e σ w e1 σ1 w1->w1.heap[w.heap.size]?=some ob->BRel G e1 σ1 w1 x w.heap.size) :
  Stepped e σ w (e.more σ.bx.length w.heap.size) (σ.new x) (w.alloc ob)/\SRel G (e.more σ.bx.length w.heap.size) (σ.new x) (w.alloc ob) /\
   VRel G (e.more σ.bx.length w.heap.size) (σ.new x) (w.alloc ob) (.ptr σ.bx.length 0) (.pointer (some ⟨w.heap.size,0,none⟩)):=by
 have hg:=Grows.alloc w ob;have hβ:∀i,i<σ.bx.length->(e.more σ.bx.length w.heap.size).β i=e.β i:=fun i hi=>by simp only [Env.more];rw [Tf oM]
 have pu:(e.more σ.bx.length w.heap.size).β σ.bx.length=w.heap.size:=by simp [Env.more]
 have hst:Stepped e σ w (e.more σ.bx.length w.heap.size) (σ.new x) (w.alloc ob):={
  len:=by rw [ZF1];omega
  beta:=hβ
  X:=fun _ _ h=>h
  pres:=fun b off u hc ho=>⟨⟨ho.1,fun i hi=>by
    have hb:=Vv hc;rw [ZF1] at hi
    by_cases h:i=σ.bx.length
    ·rw [h,pu];omega
    rw [hβ i oM];exact ho.2.1 i oM,ho.2.2⟩,(hg.cell (Vv hc)).trans hc⟩
  blocks:=fun b hb _ _ _=>hg.old b hb
  size:=hg.size
  os:=rfl
  tape:=rfl
  output:=rfl
  fresh:=fun i h1 h2=>by
   rw [ZF1] at h2;rw [show i=σ.bx.length by omega,pu];exact Tu _
  ftok:=fun t ht p hp=>.inr (.inl ⟨t,ht,p,hp,rfl⟩)
  fhid:=fun b h=>.inr (.inr h)
  nx:=Tu _
  toks:=fun _ _ ht=>⟨ht,rfl⟩
  own:=fun _ _ _ _ _ hp=>hg.old _ hp }
 refine ⟨hst,?_,?_⟩
 ·exact {
   inj:=fun i j hi hj i5=>by
    rw [ZF1] at hi hj
    by_cases h1:i=σ.bx.length <;> by_cases h2:j=σ.bx.length
    ·omega
    ·rw [h1,pu,hβ j oM] at i5;have:=hS.lt (i:=j) oM;omega
    ·rw [h2,pu,hβ i oM] at i5;have:=hS.lt (i:=i) oM;omega
    rw [hβ i oM,hβ j oM] at i5;exact hS.inj i j oM oM i5
   box:=fun i y hy=>by
    have hi:=(Ti.1 hy).1;rw [ZF1] at hi
    by_cases h1:i=σ.bx.length
    ·subst h1;rw [pu];simp [St.new] at hy;subst hy;exact hob _ _ _ hst (heap_alloc_new w ob)
    have ey:i<σ.bx.length:=by omega
    rw [hβ i ey];simp only [St.new,TJ ey] at hy;exact (hS.box i y hy).step hst (hg.old _ (hS.lt ey)) (hS.keepG hg _)
   low:=fun i hi=>by
    rw [ZF1] at hi
    by_cases h1:i=σ.bx.length
    ·rw [h1,pu];exact hS.big
    rw [hβ i oM];exact hS.low i oM
   tkn:=hS.tkn
   own:=fun t ht p hp=>by
    obtain ⟨h1,h2,cs,ty,fz,h3⟩:=hS.own t ht p hp;have aa:=(Tp.1 h3).1;refine ⟨h1,fun i hi=>?_,cs,ty,fz,(hg.old _ aa).trans h3⟩;rw [ZF1] at hi
    by_cases h4:i=σ.bx.length
    ·rw [h4,pu];omega
    rw [hβ i oM];exact h2 i oM
   dis:=hS.dis
   xown:=hS.xown
   xlt:=fun b off hx=>TA (hS.xlt b off hx) hg.size
   hid:=fun b q hq=>by
    obtain ⟨h1,h2,h3,h4⟩:=hS.hid b q hq;refine ⟨h1,TA h2 hg.size,fun i hi=>?_,h4⟩;rw [ZF1] at hi
    by_cases h5:i=σ.bx.length
    ·rw [h5,pu];omega
    rw [hβ i oM];exact h3 i oM
   glob:=fun b hb=>(hg.old b (TA hb hS.big)).trans (hS.glob b hb)
   big:=TT hS.big hg.size }
 have:=VRel.ptr (G:=G) (e:=e.more σ.bx.length w.heap.size) (σ:=σ.new x) (w:=w.alloc ob) σ.bx.length 0 (by rw [ZF1];omega)
 rwa [pu] at this
def ZcJ (hS:SRel G e σ w) (t:TypeId) (cs:List PV) (vs:Array Value) (hs:vs.size=cs.length) (hr:∀(i:Nat) (x:PV) (u:Value),cs[i]?=some x->vs[i]?=some u->VRel G e σ w x u/\u.oneCell'=true) :
  Stepped e σ w (e.more σ.bx.length w.heap.size) (σ.new (.cells t cs)) (w.alloc (.cells vs t))/\SRel G (e.more σ.bx.length w.heap.size) (σ.new (.cells t cs)) (w.alloc (.cells vs t)) /\
   VRel G (e.more σ.bx.length w.heap.size) (σ.new (.cells t cs)) (w.alloc (.cells vs t)) (.ptr σ.bx.length 0) (.pointer (some ⟨w.heap.size,0,none⟩)) :=
 W3 hS (.cells t cs) (.cells vs t) (fun _ _ _ hst hh=>⟨vs,hh,hs,fun i x u hx hu=>⟨(hr i x u hx hu).1.step hst,(hr i x u hx hu).2⟩⟩)
def ZoW (P:Program) (ρ':Operand->Value) (o:Oper) (w:World) (v:Value) (w1:World):Prop :=
 (execOp ρ' o).run P w=.ok (.value v) w1\/((execOp ρ' o).run P w=.ok .skip w1/\v=Go.undef)
def ZvK {G:GE} {e:Env} {σ:St} {w:World} {T:Tab} {t:TypeId} {x:PV} {v:Value} (h:VRel G e σ w x v):VRel G e σ w (asT T t x) v:=by
 unfold asT
 split
 ·cases h
  split
  ·exact .nils _
  exact .nils _
 exact h
def Y0 (b:Nat):∀(vs:List Value) (o:Nat) (w:World) (cs:Array Value) (ty:TypeId) (fz:Nat×Nat),w.heap[b]?=some (.cells cs ty fz) ->
  ∃cs',(w.setCells b o vs).heap[b]?=some (.cells cs' ty fz)/\cs'.size=cs.size/\∀i,cs'[i]?=if o<=i/\i<o+vs.length/\i<cs.size then vs[i - o]? else cs[i]?
 | [],o,w,cs,ty,fz,h=>⟨cs,h,rfl,fun i=>by rw [Tf];simp;omega⟩
 | v::vs,o,w,cs,ty,fz,h=>by
  have h1:(w.setCell ⟨b,o,none⟩ v).heap[b]?=some (.cells (cs.setIfInBounds o v) ty fz):=by
   simp [World.setCell,SE,h]
  obtain ⟨cs',h2,h3,h4⟩:=Y0 b vs (o+1) _ _ ty fz h1;refine ⟨cs',h2,by rw [h3];simp,fun i=>?_⟩;rw [h4];simp only [Array.size_setIfInBounds,Te,TY]
  by_cases hi:o+1<=i/\i<o+1+vs.length/\i<cs.size
  ·rw [Tk hi,Tk ⟨oM,oM,oM⟩,show i - o=(i - (o+1))+1 by omega,TN]
  rw [Tf hi]
  by_cases h5:o=i
  ·subst h5
   by_cases h6:o<cs.size
   ·rw [Tk rfl,Tk h6,Tk ⟨oM,oM,h6⟩];simp
   rw [Tk rfl,Tf h6,Tf oM];simp [h6]
  rw [Tf h5,Tf oM]
def Xw (b:Nat):∀(vs:List Value) (o:Nat) (w:World),(w.setCells b o vs).heap.size=w.heap.size
 | [],_,_=>rfl
 | v::vs,o,w=>by
  show ((w.setCell ⟨b,o,none⟩ v).setCells b (o+1) vs).heap.size=_;rw [Xw b vs];simp [World.setCell]
def YI (b:Nat):∀(vs:List Value) (o:Nat) (w:World),(w.setCells b o vs).os=w.os/\(w.setCells b o vs).tape=w.tape/\(w.setCells b o vs).output=w.output/\∀k,k≠b->(w.setCells b o vs).heap[k]?=w.heap[k]?
 | [],_,_=>⟨rfl,rfl,rfl,fun _ _=>rfl⟩
 | v::vs,o,w=>by
  obtain ⟨h1,h2,h3,h4⟩:=YI b vs (o+1) (w.setCell ⟨b,o,none⟩ v);exact ⟨h1,h2,h3,fun k hk=>(h4 k hk).trans (RowKit.Below.heap_setCell w ⟨b,o,none⟩ v k hk)⟩
def Ua (hS:SRel G e σ w) {b:Nat} {x x':Box} (hb:σ.bx[b]?=some x) {w1:World} (r1:w1.os=w.os) (r2:w1.tape=w.tape) (r3:w1.output=w.output) (hsz:w1.heap.size=w.heap.size) (r4:∀k,k≠e.β b->w1.heap[k]?=w.heap[k]?)
  (gt:Stepped e σ w e (σ.set b x') w1->BRel G e (σ.set b x') w1 x' (e.β b)):Stepped e σ w e (σ.set b x') w1/\SRel G e (σ.set b x') w1:=by
 have cf:b<σ.bx.length:=(Ti.1 hb).1;have eo:(σ.set b x').bx.length=σ.bx.length:=by simp [St.set]
 have hst:Stepped e σ w e (σ.set b x') w1:={
  len:=by rw [eo];exact Tu _
  beta:=fun _ _=>rfl
  X:=fun _ _ h=>h
  pres:=fun k o u hk ho=>⟨⟨ho.1,fun j hj=>ho.2.1 j (by rw [eo] at hj;exact hj),ho.2.2⟩,by simpa [World.cell?,r4 k (fun h=>ho.2.1 b cf h.symm)] using hk⟩
  blocks:=fun k hk pz _ _=>r4 k (fun h=>pz b cf h.symm)
  size:=by rw [hsz];exact Tu _
  os:=r1
  tape:=r2
  output:=r3
  fresh:=fun i h1 h2=>by rw [eo] at h2;omega
  ftok:=fun t ht p hp=>.inr (.inl ⟨t,ht,p,hp,rfl⟩)
  fhid:=fun b h=>.inr (.inr h)
  nx:=Tu _
  toks:=fun _ _ ht=>⟨ht,rfl⟩
  own:=fun t' hn ht p hp aa=>r4 _ (fun h=>(hS.own t' ht p hp).2.1 b cf h.symm) }
 refine ⟨hst,?_⟩;exact {
  inj:=fun i j hi hj=>hS.inj i j (by rw [eo] at hi;exact hi) (by rw [eo] at hj;exact hj)
  box:=fun k y hy=>by
   by_cases hkb:k=b
   ·subst hkb;have:y=x':=by
     simp only [St.set,SB cf] at hy;exact (Option.some.inj hy).symm
    subst this;exact gt hst
   have za:σ.bx[k]?=some y:=by
    simp only [St.set] at hy
    rwa [SJ (fun h=>hkb h.symm)] at hy
   have hkl:=(Ti.1 za).1;exact (hS.box k y za).step hst (r4 _ (fun h=>hkb (hS.inj k b hkl cf h))) fun k2 q hq _=>⟨hq,r4 _ (fun h=>(hS.hid k2 q hq).2.2.1 b cf h.symm)⟩
  low:=fun i hi=>hS.low i (by rw [eo] at hi;exact hi)
  tkn:=hS.tkn
  own:=fun t' ht p hp=>by
   obtain ⟨q1,q2,cs2,ty2,fz2,q3⟩:=hS.own t' ht p hp;refine ⟨q1,fun i hi=>q2 i (by rw [eo] at hi;exact hi),cs2,ty2,fz2,(r4 _ (fun h=>q2 b cf h.symm)).trans q3⟩
  dis:=hS.dis
  xown:=hS.xown
  xlt:=fun k o hx=>by rw [hsz];exact hS.xlt k o hx
  hid:=fun k q hq=>by
   obtain ⟨h1,h2,h3,h4⟩:=hS.hid k q hq;exact ⟨h1,by rw [hsz];exact h2,fun i hi=>h3 i (by rw [eo] at hi;exact hi),h4⟩
  glob:=fun k hk=>(r4 k (fun h=>by have:=hS.low b cf;omega)).trans (hS.glob k hk)
  big:=by rw [hsz];exact hS.big }
def Jm (hT:TabOK T G.P) (hS:SRel G e σ w) {t:TypeId} {b off:Nat} {x:PV} {v:Value} {l cs:List PV} {ty:TypeId} (hb:σ.bx[b]?=some (.cells ty cs)) (hx:VRel G e σ w x v) (hl:x.cells=some l)
  (hlen:l.length=(T.get t).size) (n5:off+l.length<=cs.length) (hk:(T.get t).kind≠.other) :
  ∃w1,(Instr.storeAt t (.pointer (some ⟨e.β b,off,none⟩)) v).run G.P w=.ok () w1/\Stepped e σ w e (σ.set b (.cells ty (ZT cs off l))) w1/\SRel G e (σ.set b (.cells ty (ZT cs off l))) w1:=by
 obtain ⟨i,d,z,hi,hd,hs,dk,av,hz,cd,_⟩:=(hT.get hk).ex;have cf:b<σ.bx.length:=(Ti.1 hb).1;obtain ⟨vs,mh,pp,zf⟩:=hS.box b _ hb;obtain ⟨cz,bl⟩:=W2 hx hl;have zj:v.cells.toList.length=l.length:=by simpa using cz
 have kh:∀u∈v.cells.toList,u.oneCell'=true:=fun u hu=>by
  exact mq156
 have af:=run_storeCells_cells (P:=G.P) (e.β b) off v.cells.toList 0 w (fun j hj=>by
   have:off+j<vs.size:=oM;simp [World.cell?,mh,this]) (fun j hj=>by simp [World.frozen?,mh]) kh
 simp only [SO] at af;obtain ⟨r1,r2,r3,r4⟩:=YI (e.β b) v.cells.toList off w;obtain ⟨cs',h1,h2,h3⟩:=Y0 (e.β b) v.cells.toList off w vs ty (0,0) mh;refine ⟨_,?_,Ua hS hb r1 r2 r3 (Xw _ _ _ _) r4 fun hst=>?_⟩
 ·have n7:v.cells.size=i.size:=by rw [cz,hlen,hs]
  exact mq72
 refine ⟨cs',h1,by rw [h2,pp,Xc],fun j x u ge hu=>?_⟩;rw [WG] at ge;rw [h3,zj] at hu
 by_cases qv:off<=j/\j<off+l.length/\j<cs.length
 ·rw [Tk qv] at ge;rw [Tk ⟨qv.1,qv.2.1,oM⟩,Tw] at hu;obtain ⟨q1,q2⟩:=bl _ x u ge hu;exact ⟨q1.step hst,q2⟩
 rw [Tf qv] at ge;rw [Tf oM] at hu;obtain ⟨q1,q2⟩:=zf j x u ge hu;exact ⟨q1.step hst,q2⟩
def ZmZ (hS:SRel G e σ w) {b:Nat} {s:List UInt8} {pos:Nat} (hb:σ.bx[b]?=some (.iter s pos)) (ty:TypeId) {K:PV->St->Prop}
  (h:CondP (decide (pos<s.length)) (K (.tuple [.d (.bool true),.d (.int .i64 pos),.d (.int .i32 (decodeL s pos).1)]) (σ.set b (.iter s (pos+(decodeL s pos).2)))) (K (.tuple [.d (.bool false)]) σ)) :
  ∃pv σ1 v w1,K pv σ1/\(Instr.next (.pointer (some ⟨e.β b,0,none⟩)) true ty).run G.P w=.ok v w1/\Stepped e σ w e σ1 w1/\SRel G e σ1 w1/\VRel G e σ1 w1 pv v:=by
 have cf:b<σ.bx.length:=(Ti.1 hb).1;have ki:w.heap[e.β b]?=some (.stringIter ⟨s.toArray⟩ pos):=hS.box b _ hb
 by_cases hp:pos<s.length
 ·have:decide (pos<s.length)=true:=by simp [hp]
  rw [this] at h;refine ⟨_,_,_,_,h,Lib.run_next_any_at w (e.β b) ⟨s.toArray⟩ pos ty ki hp,?_⟩;have kj:∀k,k≠e.β b->(w.iterAt (e.β b) ⟨s.toArray⟩ (pos+(Utf8.decode ⟨s.toArray⟩ pos).2)).heap[k]?=w.heap[k]?:=fun k hk=>Lib.iterAt_other w (e.β b) k _ _ hk
  obtain ⟨g1,g2⟩:=Ua (x':=.iter s (pos+(decodeL s pos).2)) hS hb (w1:=w.iterAt (e.β b) ⟨s.toArray⟩ (pos+(Utf8.decode ⟨s.toArray⟩ pos).2)) rfl rfl rfl (by rw [Lib.iterAt_size]) kj fun _=>Lib.iterAt_heap w (e.β b) _ pos _ ki
  refine ⟨g1,g2,?_⟩;refine .tuple _ _ rfl (fun i x u hx hu=>?_)
  match i with
  | 0=>cases hx;cases hu;exact .mkbool
  | 1=>cases hx;cases hu;exact .mkint
  | 2=>cases hx;cases hu;exact .mkint
  | n+3=>cases hx
 have:decide (pos<s.length)=false:=by simp [hp]
 rw [this] at h;refine ⟨_,_,_,_,h,Lib.run_next_end_at w (e.β b) ⟨s.toArray⟩ pos ty ki hp,.refl _ _ _,hS,.tuple _ _ rfl (fun i x u hx hu=>?_)⟩
 match i with
 | 0=>cases hx;cases hu;exact .mkbool
 | n+1=>cases hx
structure Flat (ok:Nat->Nat->Prop) (w:World) (rows:List (List D)) (sz:Nat) (xs:List Value):Prop where
 len:xs.length=rows.length * sz
 wid:∀r∈rows,r.length=sz
 rel:∀(a b:Nat) (y:D) (u:Value),b<sz->(rows[a]?.bind (·[b]?))=some y->xs[a * sz+b]?=some u->DRel ok w y u
def Flat.mono {ok ok':Nat->Nat->Prop} {w w':World} {rows:List (List D)} {sz:Nat} {xs:List Value} (h:Flat ok w rows sz xs) (hp:∀(y:D) (u:Value),DRel ok w y u->DRel ok' w' y u):Flat ok' w' rows sz xs :=
 ⟨h.len,h.wid,fun a b y u hb hy hu=>hp y u (h.rel a b y u hb hy hu)⟩
def Flat.nil (ok:Nat->Nat->Prop) (w:World) (sz:Nat):Flat ok w [] sz []:=⟨sM,fun r h=>(by cases h),fun a b y u _ hy=>by simp at hy⟩
def Flat.append {ok:Nat->Nat->Prop} {w:World} {r1 r2:List (List D)} {sz:Nat} {x1 x2:List Value} (h1:Flat ok w r1 sz x1) (h2:Flat ok w r2 sz x2):Flat ok w (r1++r2) sz (x1++x2):=by
 refine ⟨by rw [Tb,Tb,h1.len,h2.len,Sq],fun r hr=>?_,fun a b y u hb hy hu=>?_⟩
 ·rcases TD.1 hr with h | h
  ·exact h1.wid r h
  exact h2.wid r h
 by_cases ha:a<r1.length
 ·rw [TJ ha] at hy;have aa:a * sz+b<x1.length:=by
   rw [h1.len]
   calc a * sz+b<a * sz+sz:=by omega
    _=(a+1) * sz:=by rw [Sq,Nat.one_mul]
    _<=r1.length * sz:=T4 _ ha
  rw [TJ aa] at hu;exact h1.rel a b y u hb hy hu
 have s5:r1.length<=a:=by omega
 rw [TU s5] at hy;have dl:x1.length<=a * sz+b:=by
  rw [h1.len];exact TT (T4 _ s5) (Nat.le_add_right _ _)
 rw [TU dl,h1.len] at hu;refine h2.rel (a - r1.length) b y u hb hy ?_;rw [<- hu]
 congr 1
 rw [Nat.sub_mul];have:=T4 sz s5;omega
def ZF6 {ok:Nat->Nat->Prop} {w:World} {rows:List (List D)} {b off cap sz:Nat} (hsz:∀r∈rows,r.length=sz) (ba:0<sz) (h:DRel ok w (.sl rows) (.slice (some ⟨b,off,none⟩) rows.length cap)) :
  ∃xs,Flat ok w rows sz xs/\(∀(k:Nat) (u:Value),xs[k]?=some u->w.cell? ⟨b,off+k,none⟩=some u)/\(∀k,k<xs.length->ok b (off+k))/\∀u∈xs,u.oneCell'=true:=by
 cases h with
 | slz=>exact ⟨[],.nil _ _ _,fun k u h=>by simp at h,fun k h=>by simp at h,fun u h=>by cases h⟩
 | sl rows b off cap sz' u hcap i7 hc ho hu =>
 by_cases hr:rows=[]
 ·subst hr;exact ⟨[],.nil _ _ _,fun k u h=>by simp at h,fun k h=>by simp at h,fun u h=>by cases h⟩
 have wj:sz'=sz:=by
  cases rows with
  | nil=>exact absurd rfl hr
  | cons r l=>rw [<- i7 r sM,hsz r sM]
 subst wj;have hk:∀k,k<rows.length * sz'->k / sz'<rows.length/\k % sz'<sz'/\k / sz' * sz'+k % sz'=k:=fun k hk =>
  ⟨(Nat.div_lt_iff_lt_mul ba).2 hk,Nat.mod_lt _ ba,by rw [Nat.mul_comm];exact Nat.div_add_mod k sz'⟩
 have lk:∀k,k<rows.length * sz'->∃y,(rows[k / sz']?.bind (·[k % sz']?))=some y/\DRel ok w y (u (k / sz') (k % sz')):=fun k h=>by
  obtain ⟨h1,h2,h3⟩:=hk k h;have h4:(rows[k / sz']).length=sz':=i7 _ (TC _);have h5:(rows[k / sz']?.bind (·[k % sz']?))=some ((rows[k / sz'])[k % sz']):=by
   rw [Ta h1];simp only [Option.bind_some];rw [Ta oM]
  exact ⟨_,h5,hu _ _ _ h5⟩
 refine ⟨(List.range (rows.length * sz')).map fun k=>u (k / sz') (k % sz'),⟨sM,i7,fun a b' y v hb hy hv=>?_⟩,fun k v hv=>?_,fun k h=>?_,fun v hv=>?_⟩
 ·rw [Th] at hv;have ha:a<rows.length:=by
   rcases Nat.lt_or_ge a rows.length with h | h
   ·exact h
   rw [Sd h] at hy;cases hy
  have aa:a * sz'+b'<rows.length * sz':=by
   calc a * sz'+b'<a * sz'+sz':=by omega
    _=(a+1) * sz':=by rw [Sq,Nat.one_mul]
    _<=rows.length * sz':=T4 _ ha
  rw [List.getElem?_range aa] at hv;have hd:(a * sz'+b') / sz'=a:=by rw [Nat.mul_comm,Nat.mul_add_div ba,Nat.div_eq_of_lt hb];omega
  have hm:(a * sz'+b') % sz'=b':=by rw [Nat.mul_comm,Nat.mul_add_mod,Nat.mod_eq_of_lt hb]
  simp only [Sc,hd,hm] at hv
  cases hv
  exact hu a b' y hy
 ·rw [Th] at hv
  by_cases aa:k<rows.length * sz'
  ·rw [List.getElem?_range aa] at hv
   cases hv
   obtain ⟨h1,h2,h3⟩:=hk k aa;have:=hc _ _ h1 h2
   rwa [So,h3] at this
  rw [Sd (by simpa using aa)] at hv;cases hv
 ·simp only [Td,List.length_range] at h;obtain ⟨h1,h2,h3⟩:=hk k h;have:=ho _ _ h1 h2
  rwa [So,h3] at this
 obtain ⟨k,gk,rfl⟩:=Sl.1 hv;obtain ⟨y,_,hy⟩:=lk k (List.mem_range.1 gk);exact hy.one
def Flat.to_sl {ok:Nat->Nat->Prop} {w:World} {rows:List (List D)} {sz:Nat} {xs:List Value} (h:Flat ok w rows sz xs) (b off cap:Nat) (hcap:rows.length<=cap)
  (hc:∀(k:Nat) (u:Value),xs[k]?=some u->w.cell? ⟨b,off+k,none⟩=some u) (ho:∀k,k<xs.length->ok b (off+k)):DRel ok w (.sl rows) (.slice (some ⟨b,off,none⟩) rows.length cap):=by
 have aa:∀i j,i<rows.length->j<sz->i * sz+j<xs.length:=fun i j hi hj=>by
  rw [h.len]
  calc i * sz+j<i * sz+sz:=by omega
   _=(i+1) * sz:=by rw [Sq,Nat.one_mul]
   _<=rows.length * sz:=T4 _ hi
 refine .sl rows b off cap sz (fun i j=>xs.getD (i * sz+j) Go.undef) hcap h.wid (fun i j hi hj=>?_) (fun i j hi hj=>?_) (fun i j x hx=>?_)
 ·have h1:=aa i j hi hj;rw [So];exact hc _ _ (by simp [List.getD,Ta h1])
 ·rw [So];exact ho _ (aa i j hi hj)
 have hi:i<rows.length:=by
  rcases Nat.lt_or_ge i rows.length with h | h
  ·exact h
  rw [Sd h] at hx;cases hx
 have hj:j<sz:=by
  rw [Ta hi] at hx;have:=(Ti.1 hx).1
  rwa [h.wid _ (TC _)] at this
 exact h.rel i j x _ hj hx (by simp [List.getD,Ta (aa i j hi hj)])
def ZuW (hT:TabOK T G.P) {tx el:Nat} {px:PV} {vx:Value} {more:List (List D)} {sz:Nat} (hm:WD T tx el px=some more) (hx:VRel G e σ w px vx) (hsz:∀r∈more,r.length=sz) (ba:0<sz)
  (hel:sz=(T.get el).size):∃news,Src G.P sz tx vx more.length news w/\Flat (okc e σ) w more sz news:=by
 unfold WD at hm
 split at hm
 ·rename_i hk
  obtain ⟨i,d,z,hi,hd,hs,dk,av,hz,cd,_⟩:=(hT.get (t:=tx) (by rw [hk];simp)).ex;rw [hk] at av;cases av;split at hm
  ·rename_i bj
   split at hm
   ·rename_i s
    cases hm
    have hv:=hx.dstr;subst hv;have hlen:(s.map fun b:UInt8=>[D.int .u8 b.toNat]).length=(⟨s.toArray⟩:ByteArray).size:=by simp;rfl
    have fc:∀sz',sz'=1->Flat (okc e σ) w (s.map fun b:UInt8=>[D.int .u8 b.toNat]) sz' (byteCells ⟨s.toArray⟩):=by
     rintro _ rfl
     refine ⟨by rw [byteCells_length,hlen,Nat.mul_one],fun r hr=>?_,fun a b y u hb hy hu=>?_⟩
     ·obtain ⟨_,_,rfl⟩:=Sl.1 hr;rfl
     have ei:b=0:=by omega
     subst ei;simp only [Nat.mul_one,SO,byteCells,Th] at hu;rw [Th] at hy
     cases hq:s[a]? with
     | none=>rw [hq] at hy;cases hy
     | some q =>
     rw [hq] at hy;simp at hy hu;rw [hq] at hu;simp at hu;subst hy;subst hu;exact .int _ _
    by_cases sk:s=[]
    ·subst sk;refine ⟨[],⟨.inr hd,fun _=>rfl,?_,?_,sM,fun u h=>by cases h⟩,.nil _ _ _⟩
     ·simp [Builtin.firstCells]
     simp [Builtin.firstCells]
    have h1:sz=1:=by
     cases s with
     | nil=>exact absurd rfl sk
     | cons b l=>exact (hsz [.int .u8 b.toNat] sM).symm
    subst h1;rw [hlen];exact ⟨byteCells ⟨s.toArray⟩,Src.ofString w hd _,fc 1 rfl⟩
   cases hm
  cases hm
 ·rename_i e' hk
  obtain ⟨i,d,z,hi,hd,hs,dk,av,hz,cd,_⟩:=(hT.get (t:=tx) (by rw [hk];simp)).ex;rw [hk] at av;cases av;split at hm
  ·rename_i rows bw
   cases hm
   have hD:=Wh bw hx;generalize hg:D.sl more=dd at hD
   cases hD with
   | slnil=>cases hg;exact ⟨[],Src.ofNil w hd 0,.nil _ _ _⟩
   | slz ad=>cases hg;exact ⟨[],Src.ofSlice w hd ad 0 0 [] sM (fun j u hj=>by cases hj) (fun u h=>by cases h),.nil _ _ _⟩
   | sl rows b off cap sz' u hcap i7 hc ho hu =>
    cases hg
    obtain ⟨xs,h1,h2,h3,h4⟩:=ZF6 hsz ba (DRel.sl more b off cap sz' u hcap i7 hc ho hu);exact ⟨xs,Src.ofSlice w hd ⟨b,off,none⟩ more.length cap xs h1.len (fun j u hj=>by rw [ZZ];exact h2 j u hj) h4,h1⟩
   | _=>cases hg
  cases hm
 cases hm
def Yq (t:Nat):∀(l:List Nat),Zej t l=true↔t∈l
 | []=>by simp [Zej]
 | x::l=>by
  unfold Zej
  split
  ·rename_i h;have:=Tl h;simp [this]
  rename_i h
  rw [Yq t l];have:x≠t:=fun h'=>by subst h';simp at h
  simp [Ne.symm this]
def X1 (t x:Nat):∀(l:List Nat),x∈UB t l↔x∈l/\x≠t
 | []=>by simp [UB]
 | y::l=>by
  unfold UB
  split
  ·rename_i h
   have:=Tl h;subst this;rw [X1 y x l]
   constructor
   ·exact fun h=>⟨Tx _ h.1,h.2⟩
   rintro ⟨h1,h2⟩
   rcases Tt.1 h1 with h | h
   ·exact absurd h h2
   exact ⟨h,h2⟩
  rename_i h
  have ah:y≠t:=fun h'=>by subst h';simp at h
  rw [Tt,Tt,X1 t x l]
  constructor
  ·rintro (rfl | h)
   ·exact ⟨.inl rfl,ah⟩
   exact ⟨.inr h.1,h.2⟩
  rintro ⟨rfl | h1,h2⟩
  ·exact .inl rfl
  exact .inr ⟨h1,h2⟩
def Env.own (e:Env) (t:Nat) (p:Option (Nat×Nat)):Env:={ e with M:=fun i=>if i=t then p else e.M i }
def ZeY (hT:TabOK T G.P) (hS:SRel G e σ w) {t tx el ty:Nat} (l8:(T.get t).kind=.slice el) (cu:(T.get el).kind≠.other) (ba:0<(T.get el).size)
  {rows more:List (List D)} {v vx:Value} {news:List Value} (hD:DRel (okc e σ) w (.sl rows) v)
  (mi:∀r∈rows,r.length=(T.get el).size)
  (hO : (v = .slice none 0 0 /\ rows = []) \/ ∃ b off cap cs ty fz, v = .slice (some ⟨b, off, none⟩) rows.length cap /\ G.nG <= b /\ rows.length <= cap /\ w.heap[b]? = some (.cells cs ty fz) /\ (off + cap * (T.get el).size <= cs.size /\ off = 0 /\ ty = el /\ 0 < cap) /\
     (fz.1<=fz.2/\∀o,off+rows.length * (T.get el).size<=o->fz.1<=o->fz.2<=o)/\(∀i,i<σ.bx.length->e.β i≠b))
  (kl:Src G.P (T.get el).size tx vx more.length news w) (dm:Flat (okc e σ) w more (T.get el).size news)
  (jk:(rows.length+more.length) * (T.get el).bytes<=2 ^ 47) (hlen:rows.length+more.length<=2 ^ 47) :
  ∃v' w1,(Builtin.append_ #[t,tx] ty #[v,vx]).run G.P w=.ok v' w1/\w1.os=w.os/\w1.tape=w.tape/\w1.output=w.output/\w.heap.size<=w1.heap.size /\
   (∀b off u,w.cell? ⟨b,off,none⟩=some u->okc e σ b off->w1.cell? ⟨b,off,none⟩=some u\/∃a o c,v=.slice (some ⟨a,o,none⟩) rows.length c/\b=a/\o+rows.length * (T.get el).size<=off) /\
   (∀b,b<w.heap.size->(∀a o c,v=.slice (some ⟨a,o,none⟩) rows.length c->b≠a)->w1.heap[b]?=w.heap[b]?) /\
   ((v'=.slice none 0 0/\rows++more=[])\/∃b off cap cs ty fz,v'=.slice (some ⟨b,off,none⟩) (rows++more).length cap/\G.nG<=b/\(rows++more).length<=cap/\w1.heap[b]?=some (.cells cs ty fz)/\(off+cap * (T.get el).size<=cs.size/\off=0/\ty=el/\0<cap) /\
    (fz.1<=fz.2/\∀o,off+rows.length * (T.get el).size<=o->fz.1<=o->fz.2<=o) /\
    ((∃c,v=.slice (some ⟨b,off,none⟩) rows.length c)\/w.heap.size<=b) /\
    ∃xs,Flat (okc e σ) w (rows++more) (T.get el).size xs/\∀(k:Nat) (u:Value),xs[k]?=some u->w1.cell? ⟨b,off+k,none⟩=some u):=by
 obtain ⟨ti,td,tz,nh,s6,_,_,av,_,_,_⟩:=(hT.get (t:=t) (by rw [l8];simp)).ex;rw [l8] at av;cases av;obtain ⟨i,d,z,hi,hd,hs,dk,bh,hz,cd,lf,_⟩:=(hT.get cu).ex;have zk:z.cells.size=(T.get el).size:=by
  have:=(Xz (G:=G) (e:=e) (σ:=σ) (w:=w) cd).1;rw [<- lf,<- this];simp
 rw [<- hs] at kl;have hsm:((rows.length+more.length:Nat):Int)<=9223372036854775807:=oM;have i6:(rows.length+more.length) * i.bytes<=140737488355328:=by rw [dk];omega
 have grow:∀(base:Option Addr) (cap:Nat) (olds:List Value),(Builtin.firstCells i.size rows.length (.slice base rows.length cap)).run G.P w.drew=.ok olds.toArray w.drew->Flat (okc e σ) w rows (T.get el).size olds->cap<rows.length+more.length ->
   ∃v' w1,(Builtin.append_ #[t,tx] ty #[.slice base rows.length cap,vx]).run G.P w=.ok v' w1/\Grows w w1 /\
    ∃b off cap cs ty fz,v'=.slice (some ⟨b,off,none⟩) (rows++more).length cap/\G.nG<=b/\(rows++more).length<=cap/\w1.heap[b]?=some (.cells cs ty fz)/\(off+cap * (T.get el).size<=cs.size/\off=0/\ty=el/\0<cap) /\
     (fz.1<=fz.2/\∀o,off+rows.length * (T.get el).size<=o->fz.1<=o->fz.2<=o)/\w.heap.size<=b /\
     ∃xs,Flat (okc e σ) w (rows++more) (T.get el).size xs/\∀(k:Nat) (u:Value),xs[k]?=some u->w1.cell? ⟨b,off+k,none⟩=some u:=by
  intro base cap olds mj fc aa
  have hr:=run_append_grow_src w t tx ty el i z s6 hi hz base rows.length cap olds mj vx more.length news kl aa hsm (growslice_fits aa i6);refine ⟨_,_,hr,(Grows.drew w).trans (Grows.alloc _ _),w.heap.size,0,grownCap w (rows.length+more.length) cap el,_,el,(0,0),by rw [Tb],hS.big,by rw [Tb];exact grownCap_ge w _ _ _,heap_alloc_new w.drew _,⟨?_,rfl,rfl,by have:=grownCap_ge w (rows.length+more.length) cap el;omega⟩,⟨Tu _,fun o _ _=>Sa _⟩,Tu _,olds++news,fc.append dm,fun k u hk=>?_⟩
  ·have dl:=grownCap_ge w (rows.length+more.length) cap el;simp only [Array.size_append,List.size_toArray,Tb,size_zeroCells,zk,fc.len,dm.len,T9,<- Sq];exact T4 _ oM
  have h1:k<(olds++news).length:=(Ti.1 hk).1;simp only [T9,World.cell?];rw [show (w.drew.alloc _).heap[w.heap.size]?=_ from heap_alloc_new w.drew _];simp only [Option.isSome_none,Tv,if_false];rw [Array.getElem?_append_left (by simpa using h1)];simpa using hk
 rcases hO with ⟨rfl,rfl⟩ | ⟨b,off,cap,cs,tyb,fz,rfl,hb,hc,hh,dg,jz,pz⟩
 ·by_cases hm:more.length=0
  ·have hmn:more=[]:=T6 hm;subst hmn;have dq:news=[]:=T6 (by rw [dm.len];simp);subst dq;exact ⟨_,w,run_append_nothing w t tx ty el i s6 hi none 0 0 (Tu _) vx kl,rfl,rfl,rfl,Tu _,fun _ _ _ h _=>.inl h,fun _ _ _=>rfl,.inl ⟨rfl,rfl⟩⟩
  obtain ⟨v',w1,hr,hg,b,off,cap,cs,ty',fz,h1,h2,h3,h4,h5,h6,h7,h8⟩:=grow none 0 [] (run_firstCells_none w.drew i.size 0 0 0) (.nil _ _ _) sO;exact ⟨v',w1,hr,hg.os,hg.tape,hg.output,hg.size,fun b' o' u hu _=>.inl ((hg.cell (Vv hu)).trans hu),fun b' fm _=>hg.old b' fm,.inr ⟨b,off,cap,cs,ty',fz,h1,h2,h3,h4,h5,h6,.inr h7,h8⟩⟩
 obtain ⟨olds,au,ai,bq,f9⟩:=ZF6 mi ba hD
 by_cases km:rows.length+more.length<=cap
 ·have n5:rows.length * (T.get el).size+news.length<=cap * (T.get el).size:=by
   rw [dm.len,<- Sq];exact T4 _ km
  have ax:∀k,k<cs.size->(w.cell? ⟨b,k,none⟩).isSome=true:=fun k hk=>by simp [World.cell?,hh,hk]
  have hr:=run_append_room_src w t tx ty el i s6 hi b off rows.length cap vx more.length news kl km (fun j hj=>ax _ (by have:=dg.1;rw [hs];omega)) (fun j hj=>by
   simp only [World.frozen?,hh];have h1:=jz.2 (off+rows.length * i.size+j) (by rw [hs];omega)
   by_cases h2:fz.1<=off+rows.length * i.size+j
   ·have:=h1 h2;simp;intro _;omega
   simp;omega)
  rw [hs] at hr;obtain ⟨r1,r2,r3,r4⟩:=YI b news (off+rows.length * (T.get el).size) w;obtain ⟨cs',q1,q2,q3⟩:=Y0 b news (off+rows.length * (T.get el).size) w cs tyb fz hh;refine ⟨_,_,hr,r1,r2,r3,by rw [Xw];exact Tu _,fun b' o' u hu ho=>?_,fun b' fm hn=>r4 b' (hn b off cap rfl),.inr ⟨b,off,cap,cs',tyb,fz,by rw [Tb],hb,by rw [Tb];exact km,q1,⟨by rw [q2];exact dg.1,dg.2.1,dg.2.2.1,dg.2.2.2⟩,jz,.inl ⟨cap,rfl⟩,olds++news,au.append dm,fun k u hk=>?_⟩⟩
  ·by_cases j7:b'=b
   ·subst j7
    by_cases hoo:off+rows.length * (T.get el).size<=o'
    ·exact .inr ⟨b',off,cap,rfl,rfl,hoo⟩
    left
    rw [World.cell?_setCells_out b' news _ w ⟨b',o',none⟩ (fun _ _=>.inl (by show o'<_;omega))];exact hu
   left;simpa [World.cell?,r4 b' j7] using hu
  by_cases eh:k<olds.length
  ·rw [TJ eh] at hk;rw [World.cell?_setCells_out b news _ w ⟨b,off+k,none⟩ (fun _ _=>.inl (by show off+k<_;rw [<- au.len];omega))];exact ai k u hk
  rw [TU oM] at hk;have lq:=(Ti.1 hk).1;have:=World.cell?_setCells_in b news (off+rows.length * (T.get el).size) w (fun j hj=>ax _ (by have:=dg.1;omega)) (k - olds.length) lq;exact mq140
 obtain ⟨v',w1,hr,hg,b2,off2,cap2,cs2,ty2,fz2,h1,h2,h3,h4,h5,h6,h7,h8⟩:=grow (some ⟨b,off,none⟩) cap olds (run_firstCells_some w.drew i.size rows.length ⟨b,off,none⟩ rows.length cap olds (by rw [au.len,hs]) (fun j u hj=>by rw [ZZ];exact ai j u hj)) au oM;exact ⟨v',w1,hr,hg.os,hg.tape,hg.output,hg.size,fun b' o' u hu _=>.inl ((hg.cell (Vv hu)).trans hu),fun b' fm _=>hg.old b' fm,.inr ⟨b2,off2,cap2,cs2,ty2,fz2,h1,h2,h3,h4,h5,h6,.inr h7,h8⟩⟩
def UH (hT:TabOK T G.P) (hS:SRel G e σ w) {el:Nat} (cu:(T.get el).kind≠.other) (ba:0<(T.get el).size)
  {rows more:List (List D)} {v v':Value} {w1:World} (hD:DRel (okc e σ) w (.sl rows) v) (tk0:List Nat) (aw:∀x,x∈tk0->x∈σ.tk) (mi:∀r∈rows,r.length=(T.get el).size) (hw:∀r∈more,r.length=(T.get el).size)
  (ff:∀a o c,v=.slice (some ⟨a,o,none⟩) rows.length c->∃tok,tok∈σ.tk/\tok∉tk0/\e.M tok=some (a,o+rows.length * (T.get el).size))
  (qa:w1.os=w.os) (ko:w1.tape=w.tape) (jl:w1.output=w.output) (cn:w.heap.size<=w1.heap.size)
  (ax:∀b off u,w.cell? ⟨b,off,none⟩=some u->okc e σ b off->w1.cell? ⟨b,off,none⟩=some u\/∃a o c,v=.slice (some ⟨a,o,none⟩) rows.length c/\b=a/\o+rows.length * (T.get el).size<=off)
  (fg:∀b,b<w.heap.size->(∀a o c,v=.slice (some ⟨a,o,none⟩) rows.length c->b≠a)->w1.heap[b]?=w.heap[b]?)
  (jm:(v'=.slice none 0 0/\rows++more=[])\/∃b off cap cs ty fz,v'=.slice (some ⟨b,off,none⟩) (rows++more).length cap/\G.nG<=b/\(rows++more).length<=cap/\w1.heap[b]?=some (.cells cs ty fz)/\(off+cap * (T.get el).size<=cs.size/\off=0/\ty=el/\0<cap) /\
    (fz.1<=fz.2/\∀o,off+rows.length * (T.get el).size<=o->fz.1<=o->fz.2<=o) /\
    ((∃c,v=.slice (some ⟨b,off,none⟩) rows.length c)\/w.heap.size<=b) /\
    ∃xs,Flat (okc e σ) w (rows++more) (T.get el).size xs/\∀(k:Nat) (u:Value),xs[k]?=some u->w1.cell? ⟨b,off+k,none⟩=some u) :
  ∃e1,Stepped e σ w e1 { σ with tk:=σ.nx::tk0,nx:=σ.nx+1 } w1/\SRel G e1 { σ with tk:=σ.nx::tk0,nx:=σ.nx+1 } w1 /\
   VRel G e1 { σ with tk:=σ.nx::tk0,nx:=σ.nx+1 } w1 (.sl σ.nx el (rows++more)) v':=by
 obtain ⟨i,d,z,hi,hd,hs,dk,bh,hz,cd,lf,_⟩:=(hT.get cu).ex;have gl:∀b off u,w.cell? ⟨b,off,none⟩=some u->okc e σ b off->w1.cell? ⟨b,off,none⟩=some u:=fun b off u hu ho=>by
  rcases ax b off u hu ho with h | ⟨a,o,c,hv,rfl,aj⟩
  ·exact h
  obtain ⟨tok,fj,_,ir⟩:=ff _ o c hv;have:=ho.2.2.1 tok fj _ ir rfl;simp only at this;omega
 have jd:∀b,b<w.heap.size->(∀t,t∈σ.tk->t∉tk0->∀p,e.M t=some p->p.1≠b)->w1.heap[b]?=w.heap[b]?:=fun b hb hn=>fg b hb fun a o c hv h=>by
  obtain ⟨tok,fj,kp,ir⟩:=ff a o c hv;exact hn tok fj kp _ ir h.symm
 obtain ⟨p,hp,jn,hpn⟩:∃p:Option (Nat×Nat),(p=none\/∃b k,p=some (b,k)/\G.nG<=b/\(∃cs ty fz,w1.heap[b]?=some (.cells cs ty fz))/\((∃a o c,v=.slice (some ⟨a,o,none⟩) rows.length c/\a=b/\o+rows.length * (T.get el).size<=k)\/w.heap.size<=b)) /\
   (∀e1:Env,e1.M σ.nx=p->Owned G e1 w1 σ.nx el (rows++more) v') /\
   (∀b k,p=some (b,k)->True):=by
  rcases jm with ⟨rfl,ez⟩ | ⟨b,off,cap,cs,tyb,fz,rfl,hb,hc,hh,dg,jz,iu,zb⟩
  ·refine ⟨none,.inl rfl,fun e1 he=>.inl ⟨rfl,ez,he⟩,fun _ _ _=>trivial⟩
  refine ⟨some (b,off+(rows++more).length * (T.get el).size),.inr ⟨b,_,rfl,hb,⟨cs,tyb,fz,hh⟩,?_⟩,fun e1 he=>.inr ⟨i.size,by rw [hi];rfl,oM,fun r hr=>?_,b,off,cap,cs,tyb,fz,rfl,hb,hc,hh,by rw [hs];exact dg,⟨jz.1,fun o ho=>jz.2 o (by rw [hs] at ho;rw [Tb,Sq] at ho;omega)⟩,by rw [hs];exact he⟩,fun _ _ _=>trivial⟩
  ·rcases iu with ⟨c,hv⟩ | h
   ·refine .inl ⟨b,off,c,hv,rfl,?_⟩;rw [Tb,Sq];omega
   exact .inr h
  rw [hs];rcases TD.1 hr with h | h
  ·exact mi r h
  exact hw r h
 have lr:∀x,x∈tk0->(e.own σ.nx p).M x=e.M x:=fun x hx=>by
  have:=hS.tkn x (aw x hx);simp only [Env.own];rw [Tf oM]
 have je:(e.own σ.nx p).M σ.nx=p:=by simp [Env.own]
 have ig:∀b off,b<w.heap.size->okc e σ b off->okc (e.own σ.nx p) { σ with tk:=σ.nx::tk0,nx:=σ.nx+1 } b off:=fun b off hb ho=>by
  refine ⟨ho.1,ho.2.1,fun x hx q hq ni=>?_,ho.2.2.2⟩;rcases Tt.1 hx with rfl | hx
  ·rw [je] at hq;rcases hp with h | ⟨b2,k,h,_,_,iu⟩
   ·rw [h] at hq;cases hq
   rw [h] at hq;cases hq;simp only at ni;subst ni;rcases iu with ⟨a,o,c,hv,rfl,aj⟩ | dl
   ·obtain ⟨tok,fj,_,ir⟩:=ff _ o c hv;have:=ho.2.2.1 tok fj _ ir rfl;simp only at this |-;omega
   omega
  rw [lr x hx] at hq;exact ho.2.2.1 x (aw x hx) q hq ni
 have hst:Stepped e σ w (e.own σ.nx p) { σ with tk:=σ.nx::tk0,nx:=σ.nx+1 } w1:={
  len:=Tu _
  beta:=fun _ _=>rfl
  X:=fun _ _ h=>h
  pres:=fun b off u hu ho=>⟨ig b off (Vv hu) ho,gl b off u hu ho⟩
  blocks:=fun b hb _ hn _=>jd b hb fun t ht _ q hq=>hn t ht q hq
  fhid:=fun b h=>.inr (.inr h)
  size:=cn
  os:=qa
  tape:=ko
  output:=jl
  fresh:=fun i h1 h2=>by simp only at h2;omega
  ftok:=fun x hx q hq=>by
   rcases Tt.1 hx with rfl | h
   ·rw [je] at hq;rcases hp with h | ⟨b2,k,h,_,_,iu⟩
    ·rw [h] at hq;cases hq
    rw [h] at hq;cases hq;rcases iu with ⟨a,o,c,hv,rfl,_⟩ | dl
    ·obtain ⟨tok,fj,_,ir⟩:=ff _ o c hv;exact .inr (.inl ⟨tok,fj,_,ir,rfl⟩)
    exact .inl dl
   rw [lr x h] at hq;exact .inr (.inl ⟨x,aw x h,q,hq,rfl⟩)
  nx:=by show σ.nx<=σ.nx+1;omega
  toks:=fun x hx hm=>by
   rcases Tt.1 hm with rfl | h
   ·omega
   exact ⟨aw x h,lr x h⟩
  own:=fun x hx hm q hq aa=>by
   rcases Tt.1 hm with rfl | h
   ·omega
   refine jd _ aa fun t fj kp r hr=>?_
   exact hS.dis t x fj (aw x h) (fun h'=>kp (h' ▸ h)) r q hr hq }
 have ml:∀b k,p=some (b,k)->G.nG<=b/\(∀i,i<σ.bx.length->e.β i≠b)/\(∀x,x∈tk0->∀q,e.M x=some q->q.1≠b)/\(∀off,k<=off->¬e.X b off)/\∃cs ty fz,w1.heap[b]?=some (.cells cs ty fz):=fun b k i9=>by
  rcases hp with h | ⟨b2,k2,h,hb,dg,iu⟩
  ·rw [h] at i9;cases i9
  rw [h] at i9;cases i9;refine ⟨hb,fun j hj h'=>?_,fun x hx q hq h'=>?_,fun off ho hX=>?_,dg⟩
  ·rcases iu with ⟨a,o,c,hv,rfl,aj⟩ | dl
   ·obtain ⟨tok,fj,_,ir⟩:=ff _ o c hv;exact (hS.own tok fj _ ir).2.1 j hj h'
   have:=hS.lt hj;omega
  ·rcases iu with ⟨a,o,c,hv,rfl,aj⟩ | dl
   ·obtain ⟨tok,fj,kp,ir⟩:=ff _ o c hv;exact hS.dis tok x fj (aw x hx) (fun h2=>kp (h2 ▸ hx)) _ q ir hq h'.symm
   obtain ⟨_,_,cs,tyy,fz,hh⟩:=hS.own x (aw x hx) q hq;have:=(Tp.1 hh).1;omega
  rcases iu with ⟨a,o,c,hv,rfl,aj⟩ | dl
  ·obtain ⟨tok,fj,_,ir⟩:=ff _ o c hv;exact hS.xown tok fj _ ir off (by simp only;omega) hX
  have:=hS.xlt _ _ hX;omega
 have qz:∀b k,p=some (b,k)->∀q,e.H b≠some q:=fun b k i9 q hq=>by
  obtain ⟨_,k2,_,k4,_⟩:=hS.hid b q hq;rcases hp with h | ⟨b2,k2,h,hb,dg,iu⟩
  ·rw [h] at i9;cases i9
  rw [h] at i9;cases i9;rcases iu with ⟨a,o,c,hv,rfl,aj⟩ | dl
  ·obtain ⟨tok,fj,_,ir⟩:=ff _ o c hv;exact k4 tok fj _ ir rfl
  omega
 have hbH:∀b q,e.H b=some q->w1.heap[b]?=w.heap[b]?:=fun b q hq=>by
  obtain ⟨_,k2,_,k4,_⟩:=hS.hid b q hq;exact jd b k2 fun t ht _ r hr=>k4 t ht r hr
 refine ⟨e.own σ.nx p,hst,?_,?_⟩
 ·exact {
   hid:=fun b q hq=>by
    obtain ⟨k1,k2,k3,k4,k5⟩:=hS.hid b q hq;refine ⟨k1,TA k2 cn,k3,fun x hx r hr=>?_,k5⟩;rcases Tt.1 hx with rfl | h
    ·rw [je] at hr;exact fun h=>qz r.1 r.2 hr q (by rw [h];exact hq)
    rw [lr x h] at hr;exact k4 x (aw x h) r hr
   inj:=hS.inj
   box:=fun k y hy=>by
    have hk:=(Ti.1 hy).1;exact (hS.box k y hy).step hst (jd _ (hS.lt hk) fun t ht _ q hq h=>(hS.own t ht q hq).2.1 k hk h.symm) fun b q hq _=>⟨hq,hbH b q hq⟩
   low:=hS.low
   tkn:=fun x hx=>by
    rcases Tt.1 hx with rfl | h
    ·show σ.nx<σ.nx+1;omega
    have:=hS.tkn x (aw x h);show x<σ.nx+1;omega
   own:=fun x hx q hq=>by
    rcases Tt.1 hx with rfl | h
    ·rw [je] at hq;obtain ⟨h1,h2,_,_,h3⟩:=ml q.1 q.2 hq;exact ⟨h1,h2,h3⟩
    rw [lr x h] at hq;obtain ⟨h1,h2,cs,tyy,fz,hh⟩:=hS.own x (aw x h) q hq;refine ⟨h1,h2,cs,tyy,fz,(jd _ (Tp.1 hh).1 fun t fj kp r hr=>?_).trans hh⟩;exact hS.dis t x fj (aw x h) (fun h'=>kp (h' ▸ h)) r q hr hq
   dis:=fun x y hx hy vj q r hq hr=>by
    rcases Tt.1 hx with rfl | h1 <;> rcases Tt.1 hy with rfl | h2
    ·exact absurd rfl vj
    ·rw [je] at hq;rw [lr y h2] at hr;exact fun h=>(ml q.1 q.2 hq).2.2.1 y h2 r hr h.symm
    ·rw [je] at hr;rw [lr x h1] at hq;exact fun h=>(ml r.1 r.2 hr).2.2.1 x h1 q hq h
    rw [lr x h1] at hq;rw [lr y h2] at hr;exact hS.dis x y (aw x h1) (aw y h2) vj q r hq hr
   xlt:=fun b off hX=>TA (hS.xlt b off hX) cn
   xown:=fun x hx q hq off ho=>by
    rcases Tt.1 hx with rfl | h
    ·rw [je] at hq;exact (ml q.1 q.2 hq).2.2.2.1 off ho
    rw [lr x h] at hq;exact hS.xown x (aw x h) q hq off ho
   glob:=fun b hb=>(jd b (TA hb hS.big) fun t ht _ q hq h=>by have:=(hS.own t ht q hq).1;omega).trans (hS.glob b hb)
   big:=TT hS.big cn }
 refine .sl _ _ _ _ (by show σ.nx<σ.nx+1;omega) ?_ (fun _=>jn _ je);rcases jm with ⟨rfl,ez⟩ | ⟨b,off,cap,cs,tyb,fz,rfl,hb,hc,hh,dg,jz,iu,xs,wo,aao⟩
 ·rw [ez];exact .slnil
 have fc:Flat (okc (e.own σ.nx p) { σ with tk:=σ.nx::tk0,nx:=σ.nx+1 }) w1 (rows++more) (T.get el).size xs:=wo.mono fun y u h=>h.later hst.toLater
 refine fc.to_sl b off cap hc aao fun k hk=>?_
 have aap:=jn (e.own σ.nx p) je;rcases aap with ⟨h1,_⟩ | ⟨sz,ii,nj,hq3,b',off',cap',cs',ty',fz',h1,_,_,_,_,_,qb⟩
 ·cases h1
 cases h1
 rw [je] at qb;rw [hi] at ii;simp only [Sc,Option.some.injEq] at ii;subst ii;obtain ⟨g1,g2,g3,g4,g5⟩:=ml _ _ qb;rw [wo.len] at hk;refine ⟨fun hX=>?_,g2,fun x hx q hq ni=>?_,fun q hq=>absurd hq (qz _ _ qb q)⟩
 ·rcases iu with ⟨c,hv⟩ | dl
  ·obtain ⟨tok,fj,_,ir⟩:=ff _ off c hv
   by_cases j5:k<rows.length * (T.get el).size
   ·subst hv;obtain ⟨olds,au,ai,bq,f9⟩:=ZF6 mi ba hD;exact (bq k (by rw [au.len];exact j5)).1 hX
   exact hS.xown tok fj _ ir (off+k) (by simp only;omega) hX
  have:=hS.xlt _ _ hX;omega
 rcases Tt.1 hx with rfl | h
 ·rw [je,qb] at hq;cases hq;simp only;rw [hs];omega
 rw [lr x h] at hq;exact absurd ni (g3 x h q hq)
def Jn (hT:TabOK T G.P) (hS:SRel G e σ w) {el:Nat} (cu:(T.get el).kind≠.other) {rows:List (List D)} {v:Value} (tk0:List Nat)
  (hO:(v=.slice none 0 0/\rows=[])\/∃tok,tok∈σ.tk/\tok∉tk0/\Owned G e w tok el rows v) :
  ((v = .slice none 0 0 /\ rows = []) \/ ∃ b off cap cs ty fz, v = .slice (some ⟨b, off, none⟩) rows.length cap /\ G.nG <= b /\ rows.length <= cap /\ w.heap[b]? = some (.cells cs ty fz) /\ (off + cap * (T.get el).size <= cs.size /\ off = 0 /\ ty = el /\ 0 < cap) /\
     (fz.1<=fz.2/\∀o,off+rows.length * (T.get el).size<=o->fz.1<=o->fz.2<=o)/\(∀i,i<σ.bx.length->e.β i≠b))/\(∀r∈rows,r.length=(T.get el).size) /\
     (∀a o c,v=.slice (some ⟨a,o,none⟩) rows.length c->∃tok,tok∈σ.tk/\tok∉tk0/\e.M tok=some (a,o+rows.length * (T.get el).size)):=by
 obtain ⟨i,d,z,hi,hd,hs,dk,bh,hz,cd,lf,_⟩:=(hT.get cu).ex;rcases hO with ⟨rfl,rfl⟩ | ⟨tok,fj,kp,⟨rfl,rfl,_⟩ | ⟨sz,h1,h2,h3,b,off,cap,cs,tyb,fz,rfl,hb,hc,hh,dg,jz,ir⟩⟩
 ·exact ⟨.inl ⟨rfl,rfl⟩,fun r h=>(by cases h),fun a o c h=>by simp at h⟩
 ·exact ⟨.inl ⟨rfl,rfl⟩,fun r h=>(by cases h),fun a o c h=>by simp at h⟩
 rw [hi] at h1;simp only [Sc,Option.some.injEq] at h1;subst h1;rw [hs] at h3 dg jz ir;exact ⟨.inr ⟨b,off,cap,cs,tyb,fz,rfl,hb,hc,hh,dg,jz,(hS.own tok fj _ ir).2.1⟩,h3,fun a o c hv=>by cases hv;exact ⟨tok,fj,kp,ir⟩⟩
def ZeZ (hT:TabOK T G.P) (hS:SRel G e σ w) {t tx el ty:Nat} (l8:(T.get t).kind=.slice el) (cu:(T.get el).kind≠.other) (ba:0<(T.get el).size)
  {rows more:List (List D)} {v vx:Value} {px:PV} (hD:DRel (okc e σ) w (.sl rows) v) (tk0:List Nat) (aw:∀x,x∈tk0->x∈σ.tk)
  (hO:(v=.slice none 0 0/\rows=[])\/∃tok,tok∈σ.tk/\tok∉tk0/\Owned G e w tok el rows v)
  (hm:WD T tx el px=some more) (hx:VRel G e σ w px vx) (hw:∀r∈more,r.length=(T.get el).size)
  (jk:(rows.length+more.length) * (T.get el).bytes<=2 ^ 47) (hlen:rows.length+more.length<=2 ^ 47) :
  ∃v' w1 e1,(Builtin.append_ #[t,tx] ty #[v,vx]).run G.P w=.ok v' w1/\Stepped e σ w e1 { σ with tk:=σ.nx::tk0,nx:=σ.nx+1 } w1/\SRel G e1 { σ with tk:=σ.nx::tk0,nx:=σ.nx+1 } w1 /\
   VRel G e1 { σ with tk:=σ.nx::tk0,nx:=σ.nx+1 } w1 (.sl σ.nx el (rows++more)) v':=by
 obtain ⟨i,d,z,hi,hd,hs,dk,bh,hz,cd,lf,_⟩:=(hT.get cu).ex;obtain ⟨news,kl,dm⟩:=ZuW hT hm hx hw ba rfl;obtain ⟨wp,mi,ff⟩:=Jn hT hS cu tk0 hO;obtain ⟨v',w1,af,qa,ko,jl,cn,ax,fg,jm⟩:=ZeY (ty:=ty) hT hS l8 cu ba hD mi wp kl dm jk hlen;obtain ⟨e1,h1,h2,h3⟩:=UH hT hS cu ba hD tk0 aw mi hw ff qa ko jl cn ax fg jm;exact ⟨v',w1,e1,af,h1,h2,h3⟩
def UI {ok:Nat->Nat->Prop}:∀{l:List PV} {r:List D},ZmS l=some r->r.length=l.length/\∀(i:Nat) (x:PV) (y:D),l[i]?=some x->r[i]?=some y->toD x=some y
 | [],r,h=>by cases h;exact ⟨rfl,fun i x y hx=>by simp at hx⟩
 | v::l,r,h=>by
  simp only [ZmS] at h;split at h
  ·rename_i d hd
   split at h
   ·rename_i r' hr
    cases h
    obtain ⟨h1,h2⟩:=UI (ok:=ok) hr;refine ⟨by simp [h1],fun i x y hx hy=>?_⟩
    cases i with
    | zero=>simp at hx hy;subst hx;subst hy;exact hd
    | succ i=>exact h2 i x y (by simpa using hx) (by simpa using hy)
   cases h
  cases h
def ZhS {ρ:Operand->PV} {ρ':Operand->Value} (hρ:∀x,VRel G e σ w (ρ x) (ρ' x)) {sz:Nat} (ba:0<sz) :
  ∀(ps:List (Nat×Operand)) (rows rows':List (List D)) (vs:Array Value),Flat (okc e σ) w rows sz vs.toList->(∀u∈vs,u.oneCell'=true)->XY sz ρ ps rows=some rows' ->
   ∃vs':Array Value,Instr.fill (fun i=>some (i * sz,sz)) vs (ps.map fun p=>(p.1,ρ' p.2))=some vs'/\Flat (okc e σ) w rows' sz vs'.toList/\rows'.length=rows.length/\(∀u∈vs',u.oneCell'=true)
 | [],rows,rows',vs,hf,h1,h=>by cases h;exact ⟨vs,rfl,hf,rfl,h1⟩
 | (i,x)::ps,rows,rows',vs,hf,h1,h=>by
  simp only [XY] at h;split at h
  ·rename_i r hr
   split at h
   ·rename_i hlen aa
    have e1:=Tl hlen;have e2:=Tc aa;unfold ZjA at hr
    split at hr
    ·rename_i l hl
     obtain ⟨cz,bl⟩:=W2 (hρ x) hl;obtain ⟨dx,cg⟩:=UI (ok:=okc e σ) hr;have be:vs.size=rows.length * sz:=by have:=hf.len;simpa using this
     have hsz:(ρ' x).cells.size=sz:=by rw [cz,<- dx,e1]
     have qv:i * sz+sz<=rows.length * sz:=by
      calc i * sz+sz=(i+1) * sz:=by rw [Sq,Nat.one_mul]
       _<=rows.length * sz:=T4 _ e2
     simp only [TF,Instr.fill];rw [Tf (by rw [hsz,be];simp;omega)];rw [ZoT];have cj:∀k,((((ρ' x).cells.toList.zipIdx 0).foldl (fun cs (p:Value×Nat)=>cs.setIfInBounds (i * sz+p.2) p.1) vs))[k]?=if i * sz<=k/\k<i * sz+sz then (ρ' x).cells[k - i * sz]? else vs[k]?:=fun k=>by
      rw [ZcI];simp only [SO,Sh,hsz,Tw]
      by_cases hk:i * sz<=k/\k<i * sz+sz
      ·rw [Tk hk,Tk ⟨hk.1,hk.2,oM⟩]
      rw [Tf hk,Tf oM]
     have cn:((((ρ' x).cells.toList.zipIdx 0).foldl (fun cs (p:Value×Nat)=>cs.setIfInBounds (i * sz+p.2) p.1) vs)).size=vs.size:=Zbz vs (i * sz) (ρ' x).cells.toList 0 vs;generalize ((((ρ' x).cells.toList.zipIdx 0).foldl (fun cs (p:Value×Nat)=>cs.setIfInBounds (i * sz+p.2) p.1) vs))=vs2 at cj cn |-;have s7:Flat (okc e σ) w (rows.set i r) sz vs2.toList:=by
      refine ⟨by rw [Sh,cn,be,SC],fun r' nc=>?_,fun a b y u hb hy hu=>?_⟩
      ·rcases List.mem_or_eq_of_mem_set nc with h' | rfl
       ·exact hf.wid r' h'
       exact e1
      rw [Tw,cj] at hu
      by_cases hai:a=i
      ·subst hai;rw [Tk ⟨oM,oM⟩,show a * sz+b - a * sz=b by omega] at hu;rw [SB oM] at hy;simp only [Option.bind_some] at hy;have cf:b<l.length:=oM;have:=cg b l[b] y (Ta cf) hy;exact Wh this (bl b l[b] u (Ta cf) hu).1
      rw [SJ (Ne.symm hai)] at hy;have ah:¬(i * sz<=a * sz+b/\a * sz+b<i * sz+sz):=fun hh=>by
       rcases Nat.lt_or_gt_of_ne hai with h' | h'
       ·have:(a+1) * sz<=i * sz:=T4 _ h';rw [Sq,Nat.one_mul] at this;omega
       have:(i+1) * sz<=a * sz:=T4 _ h';rw [Sq,Nat.one_mul] at this;omega
      rw [Tf ah] at hu;exact hf.rel a b y u hb hy (by rw [Tw];exact hu)
     have wq:∀u∈vs2,u.oneCell'=true:=by
      intro u hu
      obtain ⟨k,hk,rfl⟩:=SI hu;have h3:=cj k;rw [Tz hk] at h3
      by_cases bj:i * sz<=k/\k<i * sz+sz
      ·rw [Tk bj] at h3;have cf:k - i * sz<l.length:=oM;exact (bl (k - i * sz) l[k - i * sz] _ (Ta cf) h3.symm).2
      rw [Tf bj] at h3;exact h1 _ (Se h3.symm)
     obtain ⟨vs',q1,q2,q3,q4⟩:=ZhS hρ ba ps (rows.set i r) rows' vs2 s7 wq h;exact ⟨vs',q1,q2,by rw [q3,SC],q4⟩
    cases hr
   cases h
  cases h
def U4 (hT:TabOK T G.P) {ρ:Operand->PV} {ρ':Operand->Value} (hρ:∀x,VRel G e σ w (ρ x) (ρ' x)) {t n el:Nat} {ps:Array (Nat×Operand)} {zero:List D} {rows:List (List D)}
  (l8:(T.get t).kind=.slice el) (cu:(T.get el).kind≠.other) (ep:ZmS (T.get el).zero=some zero) (ba:1<=zero.length) (cx:n * zero.length<=16777216) (bw:ZaG zero ρ n ps.toList=some rows) :
  ∃vs',(Instr.buildSlice t n (ps.map fun p=>(p.1,ρ' p.2))).run G.P w=.ok (.slice (some ⟨w.heap.size,0,none⟩) n n) (w.alloc (.cells vs' el))/\Flat (okc e σ) w rows zero.length vs'.toList/\rows.length=n/\zero.length=(T.get el).size:=by
 obtain ⟨ti,td,tz,nh,s6,_,_,av,_,_,_⟩:=(hT.get (t:=t) (by rw [l8];simp)).ex;rw [l8] at av;cases av;obtain ⟨i,d,z,hi,hd,hs,dk,bh,hz,cd,lf,_⟩:=(hT.get cu).ex;obtain ⟨dx,cg⟩:=UI (ok:=okc e σ) ep;have qc:i.size=zero.length:=by rw [hs,<- lf,dx]
 obtain ⟨su,mn⟩:=Xz (G:=G) (e:=e) (σ:=σ) (w:=w) cd;have zk:z.cells.size=zero.length:=by rw [dx,<- su];simp
 have hsz:0<zero.length:=ba;have h0:Flat (okc e σ) w (List.replicate n zero) zero.length ((Array.range (n * zero.length)).map (fun k=>z.cells[k % z.cells.size]!)).toList:=by
  exact mq26
 have h01:∀u∈(Array.range (n * zero.length)).map (fun k=>z.cells[k % z.cells.size]!),u.oneCell'=true:=fun u hu=>by
  obtain ⟨k,hk,rfl⟩:=Array.mem_map.1 hu;have hm:k % z.cells.size<z.cells.size:=Nat.mod_lt _ oM;rw [getElem!_pos z.cells _ hm];have cf:k % z.cells.size<(T.get el).zero.length:=oM;exact (mn _ _ _ (Ta cf) (by rw [Tw,Tz hm])).2
 obtain ⟨vs',q1,q2,q3,q4⟩:=ZhS hρ hsz ps.toList _ rows _ h0 h01 bw;rw [List.length_replicate] at q3;have af:(Instr.buildSlice t n (ps.map fun p=>(p.1,ρ' p.2))).run G.P w=.ok (.slice (some ⟨w.heap.size,0,none⟩) n n) (w.alloc (.cells vs' el)):=by
  unfold Instr.buildSlice
  simp only [Sem.run_bind,Za s6,Result.andThen,Zr hi,qc];rw [Tf oM];have s8:(ps.map fun p=>(p.1,ρ' p.2)).toList=ps.toList.map fun p=>(p.1,ρ' p.2):=sM
  split
  ·rename_i h0'
   have fd:(Array.range (n * zero.length)).map (fun k=>(#[]:Array Value)[k % (#[]:Array Value).size]!)=(Array.range (n * zero.length)).map (fun k=>z.cells[k % z.cells.size]!):=by
    rw [h0'];simp
   simp only [Sem.run_bind,Sem.run_pure,Result.andThen];rw [fd,s8,q1];exact mq103
  simp only [Sem.run_bind,Sem.run_pure,Result.andThen,zeroValue,Yc hi,hz];rw [s8,q1];exact mq103
 exact ⟨vs',af,q2,q3,by rw [<- qc,hs]⟩
def Zb4 (hT:TabOK T G.P) (hS:SRel G e σ w) {ρ:Operand->PV} {ρ':Operand->Value} (hρ:∀x,VRel G e σ w (ρ x) (ρ' x)) {t n el:Nat} {ps:Array (Nat×Operand)} {zero:List D} {rows:List (List D)}
  (l8:(T.get t).kind=.slice el) (cu:(T.get el).kind≠.other) (ep:ZmS (T.get el).zero=some zero) (ba:1<=zero.length) (cx:n * zero.length<=16777216) (bw:ZaG zero ρ n ps.toList=some rows) :
  ∃v w1,(Instr.buildSlice t n (ps.map fun p=>(p.1,ρ' p.2))).run G.P w=.ok v w1/\Grows w w1/\DRel (okc e σ) w1 (.sl rows) v:=by
 obtain ⟨vs',af,q2,hlen,_⟩:=U4 (ρ':=ρ') hT hρ l8 cu ep ba cx bw;refine ⟨_,_,af,Grows.alloc w _,?_⟩;have hg:=Grows.alloc w (.cells vs' el);have hst:=hg.stepped e σ;have fc:Flat (okc e σ) (w.alloc (.cells vs' el)) rows zero.length vs'.toList:=q2.mono fun y u h=>h.later hst.toLater
 have:=fc.to_sl w.heap.size 0 n oM (fun k u hk=>by
  simp only [World.cell?,T9];rw [heap_alloc_new w (.cells vs' el)];simpa using hk) (fun k hk=>hS.fresh_okc _)
 rwa [hlen] at this
def ZcK (hT:TabOK T G.P) (hS:SRel G e σ w) {t n el:Nat} {zero:List D}
  (l8:(T.get t).kind=.slice el) (cu:(T.get el).kind≠.other) (ep:ZmS (T.get el).zero=some zero) (ba:1<=zero.length) (cx:n * zero.length<=16777216) (j7:n * (T.get el).bytes<=16777216) :
  ∃v w1,(Instr.makeSlice t (.int .i64 n) (.int .i64 n)).run G.P w=.ok v w1/\Grows w w1/\DRel (okc e σ) w1 (.sl (List.replicate n zero)) v:=by
 obtain ⟨ti,td,tz,nh,s6,_,_,av,_,_,_⟩:=(hT.get (t:=t) (by rw [l8];simp)).ex;rw [l8] at av;cases av;obtain ⟨i,d,z,hi,hd,hs,dk,bh,hz,cd,lf,_⟩:=(hT.get cu).ex;obtain ⟨dx,cg⟩:=UI (ok:=okc e σ) ep;have qc:i.size=zero.length:=by rw [hs,<- lf,dx]
 obtain ⟨su,mn⟩:=Xz (G:=G) (e:=e) (σ:=σ) (w:=w) cd;have zk:z.cells.size=zero.length:=by rw [dx,<- su];simp
 have hsz:0<zero.length:=ba;have hn:n<=16777216:=TT (Nat.le_mul_of_pos_right n hsz) cx;obtain ⟨V,hV⟩:∃V,(Array.range (n * zero.length)).map (fun k=>z.cells[k % z.cells.size]!)=V:=⟨_,rfl⟩
 have h0:Flat (okc e σ) w (List.replicate n zero) zero.length V.toList:=by
  rw [<- hV];exact mq26
 have hwr:IntKind.i64.wrap (n:Int)=n:=by
  unfold IntKind.wrap
  exact mq148
 have n8:(decide ((n:Int)<0) || decide ((i.bytes:Int) * (n:Int)>2 ^ 48))=false:=by
  have:(i.bytes:Int) * (n:Int)=((n * (T.get el).bytes:Nat):Int):=by rw [dk];push_cast;exact Int.mul_comm _ _
  rw [this];simp only [Sb,decide_eq_false_iff_not];exact ⟨oM,oM⟩
 have af:(Instr.makeSlice t (.int .i64 n) (.int .i64 n)).run G.P w=.ok (.slice (some ⟨w.heap.size,0,none⟩) n n) (w.alloc (.cells V el)):=by
  unfold Instr.makeSlice
  have ha:Sem.run G.P (asIntOf (.int .i64 (n:Int))) w=.ok (.i64,(n:Int)) w:=rfl;have ny:decide ((n:Int)<0)=false:=decide_eq_false oM;have dv:decide ((n:Int)>(n:Int))=false:=decide_eq_false oM;have gy:decide ((i.bytes:Int) * (n:Int)>2 ^ 48)=false:=by
   rw [Sb] at n8;exact n8.2
  have km:(askRoom (n * i.bytes)).run G.P w=.ok () w:=by
   unfold askRoom
   rw [Tf (by rw [dk];unfold roomBytes;omega)];rfl
  simp only [Sem.run_bind,Za s6,Result.andThen,asInt,Functor.map,Sem.run_pure,Yc hi,ha,hwr,ny,dv,gy,SA,Tv,if_false,Tj,km,Zr hi,qc];split
  ·rename_i h0'
   have fd:(Array.range (n * zero.length)).map (fun k=>(#[]:Array Value)[k % (#[]:Array Value).size]!)=V:=by
    rw [<- hV,h0'];simp
   simp only [Sem.run_bind,Sem.run_pure,Result.andThen];rw [fd];exact mq103
  simp only [Sem.run_bind,Sem.run_pure,Result.andThen,zeroValue,Yc hi,hz];rw [hV];exact mq103
 refine ⟨_,_,af,Grows.alloc w _,?_⟩;have hg:=Grows.alloc w (.cells V el);have hst:=hg.stepped e σ;have fc:Flat (okc e σ) (w.alloc (.cells V el)) (List.replicate n zero) zero.length V.toList:=h0.mono fun y u h=>h.later hst.toLater
 have:=fc.to_sl w.heap.size 0 n (by rw [List.length_replicate];exact Tu _) (fun k u hk=>by
  simp only [World.cell?,T9];rw [heap_alloc_new w (.cells V el)];simpa using hk) (fun k hk=>hS.fresh_okc _)
 rwa [List.length_replicate] at this
def Zm0 (hT:TabOK T G.P) (hS:SRel G e σ w) {K:PV->St->Prop} {ρ:Operand->PV} {ρ':Operand->Value} (hρ:∀x,VRel G e σ w (ρ x) (ρ' x)) (o:Oper) (h:ZzK T o.op ρ σ K) :
  ∃pv σ1 v w1 e1,K pv σ1/\(execOp ρ' o).run G.P w=.ok (.value v) w1/\Stepped e σ w e1 σ1 w1/\SRel G e1 σ1 w1/\VRel G e1 σ1 w1 pv v:=by
 unfold ZzK at h
 split at h
 ·rename_i t n ps ho
  split at h
  ·rename_i el hk
   split at h
   ·exact h.elim
   rename_i bj
   split at h
   ·rename_i zero ep
    split at h
    ·rename_i rows ba cx hn bw
     have hn:=Tc hn;obtain ⟨vs',af,dz,hlen,hzs⟩:=U4 (ρ':=ρ') hT hρ hk (fun h0=>bj h0) ep (Tc ba) (Tc cx) bw;rw [hzs] at dz;have be:vs'.size=n * (T.get el).size:=by have:=dz.len;rw [hlen,Sh] at this;exact this
     obtain ⟨e1,h1,h2,h3⟩:=UH (more:=rows) (v':=.slice (some ⟨w.heap.size,0,none⟩) n n) (w1:=w.alloc (.cells vs' el)) hT hS (fun h0=>bj h0) (by have:=Tc ba;omega) (.slnil) σ.tk (fun _ h=>h) (fun r hr=>by cases hr) (fun r hr=>dz.wid r hr)
      (fun a o c hv=>by simp at hv) rfl rfl rfl (Grows.alloc w _).size (fun b off u hu _=>.inl (by rw [(Grows.alloc w _).cell (Vv hu)];exact hu)) (fun b hb _=>heap_alloc_old w _ b hb)
      (.inr ⟨w.heap.size,0,n,vs',el,(0,0),by simp [hlen],hS.big,by simp [hlen],heap_alloc_new w _,⟨oM,rfl,rfl,oM⟩,⟨Tu _,fun o _ _=>sM⟩,.inr (Tu _),vs'.toList,by simpa using dz,fun k u hk=>by
       simp only [World.cell?,T9];rw [heap_alloc_new w (.cells vs' el)];simpa using hk⟩)
     refine ⟨_,_,_,_,e1,h,?_,h1,h2,h3⟩;exact mq123
    exact h.elim
   exact h.elim
  exact h.elim
 ·rename_i s d x ho
  have hx:=hρ x;split at h
  ·rename_i el hk
   obtain ⟨i,ds,z,hi,hd,hs,dk,av,hz,cd,_⟩:=(hT.get (t:=s) (by rw [hk];simp)).ex;rw [hk] at av;cases av;split at h
   ·rename_i b off n bj f8 n4
    obtain ⟨i2,dd,z2,ab,cg,fb,i6,bh,cd,sr,_⟩:=(hT.get (t:=d) (by rw [bj];simp)).ex;rw [bj] at bh;cases bh;obtain ⟨i3,de,z3,hi3,nv,nw,wl,ke,su,aaj,_⟩:=(hT.get (t:=el) (by rw [f8];simp)).ex;rw [f8] at ke;cases ke;rw [n4] at hx;split at h
    ·rename_i tb cs du
     obtain ⟨l,hln,cp,hK⟩:=h;generalize hv:ρ' x=vx at hx
     cases hx with
     | asl _ _ _ hb =>
     refine ⟨_,_,_,_,e,hK,?_,Stepped.refl e σ w,hS,.mkstr⟩;unfold execOp
     simp only [ho,convert,Sem.run_bind,Za hd,Za cg,Result.andThen,hv];simp only [Za nv,Sem.run_bind,Result.andThen,ZoU (hS.box b _ du) cp hln,Sem.run_pure]
    exact h.elim
   exact h.elim
  exact h.elim
 ·rename_i t ho
  split at h
  ·rename_i kt el hk
   split at h
   ·rename_i el2 bj
    obtain ⟨h1,h2,h3⟩:=W3 hS (.smap el2 [] none) (.map #[] 0) fun e1 σ1 w1 _ hh=>(by
     refine ⟨#[],⟨[],0,hh,rfl,rfl,fun i u hu=>?_⟩,fun i u x hu hx=>?_,fun kv gd=>?_,List.nodup_nil⟩
     ·simp at hu
     ·simp at hu
     cases gd)
    refine ⟨_,_,.map (some w.heap.size),_,_,h,?_,h1,h2,?_⟩
    ·exact mq147
    have:=VRel.mp (G:=G) (e:=e.more σ.bx.length w.heap.size) (σ:=σ.new (.smap el2 [] none)) (w:=w.alloc (.map #[] 0)) σ.bx.length (by rw [ZF1];omega)
    rwa [show (e.more σ.bx.length w.heap.size).β σ.bx.length=w.heap.size by simp [Env.more]] at this
   exact h.elim
  exact h.elim
 exact h.elim
def Zm1 (hT:TabOK T G.P) (hS:SRel G e σ w) {K:PV->Prop} {ρ:Operand->PV} {ρ':Operand->Value} (hρ:∀x,VRel G e σ w (ρ x) (ρ' x)) (o:Oper) (h:Zf1 T o.op o.type ρ σ.bx K) :
  ∃pv v w1,K pv/\Grows w w1/\VRel G e σ w1 pv v/\(execOp ρ' o).run G.P w=.ok (.value v) w1:=by
 unfold Zf1 at h
 split at h
 ·rename_i x hx
  unfold Zjz at hx
  split at hx
  ·rename_i s d x' ho
   split at hx
   ·rename_i dc
    split at hx
    ·rename_i el av
     split at hx
     ·rename_i zl
      cases hx
      obtain ⟨i1,d1,z1,zi,dx,m9,ael,wr,_⟩:=(hT.get (t:=s) (by rw [dc];simp)).ex;obtain ⟨i2,d2,z2,ab,cg,fb,i6,bh,_⟩:=(hT.get (t:=d) (by rw [av];simp)).ex;obtain ⟨i3,d3,z3,hi3,nv,nw,wl,ke,_⟩:=(hT.get (t:=el) (by rw [zl];simp)).ex;rw [dc] at wr;rw [av] at bh;rw [zl] at ke;obtain rfl:d1=.string:=wr;obtain rfl:d2=.slice el:=bh;obtain rfl:d3=.int .u8:=ke;have hx:=hρ x;split at h
      ·rename_i l bu
       rw [bu] at hx;have hg:Grows w (Lib.bytesWorld w el ⟨l.toArray⟩):=⟨rfl,rfl,rfl,by rw [Lib.bytesWorld_size];omega,fun b hb=>Lib.bytesWorld_at_old w el _ b hb⟩
       refine ⟨_,.slice (some ⟨w.heap.size,0,none⟩) l.length (grownCap w l.length 0 el),_,h,hg,?_,?_⟩
       ·refine .d _ _ ?_;have:=DRel.sl (ok:=okc e σ) (w:=Lib.bytesWorld w el ⟨l.toArray⟩) (l.map fun b:UInt8=>[D.int .u8 b.toNat]) w.heap.size 0 (grownCap w l.length 0 el) 1 (fun i _=>.int .u8 (l.getD i 0).toNat) ?_ ?_ ?_ ?_ ?_
        ·simpa using this
        ·simp only [Td];exact grownCap_ge w l.length 0 el
        ·intro r hr;simp only [Sl] at hr;obtain ⟨b,_,rfl⟩:=hr;rfl
        ·intro i j hi hj
         simp only [Td] at hi;have:j=0:=oM;subst this;simp only [T9,Nat.mul_one,SO];have:=Lib.bytesWorld_cell w el ⟨l.toArray⟩ i (show i<l.toArray.size by simpa using hi);simpa using this
        ·intro i j hi hj
         exact hS.fresh_okc _
        intro i j y hy
        rw [Th] at hy
        cases ct:l[i]? with
        | none=>rw [ct] at hy;simp at hy
        | some b =>
        rw [ct] at hy
        cases j with
        | zero=>simp at hy;subst hy;simp only [T2,ct,Sp];exact .int _ _
        | succ j=>simp at hy
       unfold execOp
       simp only [ho,hx.dstr];rw [Sem.run_bind,Lib.run_convert_string_bytes w s d el ⟨l.toArray⟩ dx cg nv];rfl
      exact h.elim
     cases hx
    cases hx
   cases hx
  cases hx
 split at h
 ·rename_i t n ps ho
  split at h
  ·rename_i el hk
   split at h
   ·exact h.elim
   rename_i bj
   split at h
   ·rename_i zero ep
    split at h
    ·rename_i rows ba cx bw
     obtain ⟨v,w1,af,hg,hD⟩:=Zb4 hT hS hρ hk (fun h0=>bj h0) ep (Tc ba) (Tc cx) bw;refine ⟨_,v,w1,h,hg,.d _ _ hD,?_⟩;exact mq123
    exact h.elim
   exact h.elim
  exact h.elim
 ·rename_i t l c ho
  split at h
  ·rename_i el hk
   split at h
   ·exact h.elim
   rename_i bj
   split at h
   ·rename_i zero n m ep hl hc
    obtain ⟨rfl,ba,cx,j7,h⟩:=h;obtain ⟨v,w1,af,hg,hD⟩:=ZcK hT hS hk (fun h0=>bj h0) ep ba cx j7;refine ⟨_,v,w1,h,hg,.d _ _ hD,?_⟩;have e1:ρ' l=.int .i64 (n:Int):=by have:=hρ l;rw [hl] at this;exact this.dint
    have e2:ρ' c=.int .i64 (n:Int):=by have:=hρ c;rw [hc] at this;exact this.dint
    unfold execOp
    simp only [ho,Sem.run_bind,e1,e2];rw [af];rfl
   exact h.elim
  exact h.elim
 obtain ⟨pv,v,h1,h2,h3⟩:=ZoV hT hS hρ o h;exact ⟨pv,v,w,h1,Grows.refl w,h2,h3⟩
def Ze0 {P:Program} {r ck ck':Nat} {es es':Array MapEntry} (h:w.heap[r]?=some (.map es ck)):(setObj r (.map es' ck')).run P w=.ok () (w.putObj r (.map es' ck')):=by
 simp only [setObj,Sem.run,h,World.putObj]
def MRel.step {e':Env} {σ':St} {w':World} (hs:Stepped e σ w e' σ' w'):∀{cs:List PV} {l:List MapEntry},MRel G e σ w cs l->MRel G e' σ' w' cs l
 | [],[],_=>trivial
 | [],_::_,h=>h.elim
 | .d (.str k)::x::cs,u::l,h=>⟨h.1,h.2.1.step hs,MRel.step hs h.2.2⟩
 | .d (.str _)::_::_,[],h=>h.elim
 | [.d (.str _)],_,h=>by cases h
def MRel.push {k:List UInt8} {x:PV} {u:MapEntry} (h1:u.key=.string ⟨k.toArray⟩) (h2:VRel G e σ w x u.val):∀{cs:List PV} {l:List MapEntry},MRel G e σ w cs l->MRel G e σ w (cs++[.d (.str k),x]) (l++[u])
 | [],[],_=>⟨h1,h2,trivial⟩
 | [],_::_,h=>h.elim
 | .d (.str _)::y::cs,v::l,h=>⟨h.1,h.2.1,MRel.push h1 h2 h.2.2⟩
 | .d (.str _)::_::_,[],h=>h.elim
 | [.d (.str _)],_,h=>by cases h
def Zsu {px:PV} {x:MV} {v:Value} (h:ZDc px=some x) (hv:VRel G e σ w px v):VRel G e σ w x.pv v:=by
 unfold ZDc at h
 split at h
 ·rename_i cs
  split at h
  ·rename_i l hl
   cases h
   cases hv with
   | agg _ vs h1 h2 h3 =>
   obtain ⟨g1,g2⟩:=UI (ok:=fun _ _=>True) hl;refine .agg _ vs (by rw [h1,Td,g1]) (fun i y u hy hu=>?_) h3;rw [Th] at hy;obtain ⟨d,hd,rfl⟩:=TE.1 hy;have hi:=(Ti.1 hd).1;have hc:cs[i]?=some cs[i]:=Ta oM;exact .d _ _ (Wh (g2 i _ d hc hd) (h2 i _ u hc hu))
  cases h
 split at h
 ·rename_i y hy
  cases h
  exact .d _ _ (Wh hy hv)
 cases h
def ZaJ {t el kt:TypeId} (hd:G.P.underlying t=some (.map kt el)) (dc:G.P.underlying kt=some .string) {key:List UInt8} {px:PV} {vx:Value} {cs:List PV} {bn:List Nat} {ck b:Nat} (hB:BRel G e σ w (.map cs bn ck) b) (hx:VRel G e σ w px vx) :
  ∃w1,(Instr.mapUpdate t (.map (some b)) (.string ⟨key.toArray⟩) vx).run G.P w=.ok () w1/\(w1.os=w.os/\w1.tape=w.tape/\w1.output=w.output/\w1.heap.size=w.heap.size/\∀k,k≠b->w1.heap[k]?=w.heap[k]?) /\
   ((∃cs',ZmT key px cs=some cs'/\∀σ1,Stepped e σ w e σ1 w1->BRel G e σ1 w1 (.map cs' bn ck) b)\/(ZmT key px cs=none/\∀σ1,Stepped e σ w e σ1 w1->BRel G e σ1 w1 (.map (cs++[.d (.str key),px]) (bn++[ck]) (ck+1)) b)) /\
   ∃(es es':Array MapEntry) (ck':Nat),w.heap[b]?=some (.map es ck)/\w1.heap[b]?=some (.map es' ck')/\∀(i:Nat) (u:MapEntry),es'[i]?=some u->u.key≠.string ⟨key.toArray⟩->es[i]?=some u:=by
 obtain ⟨es,g1,g2,g3⟩:=hB.mrel;have aa:b<w.heap.size:=(Tp.1 g1).1;have h0:(getObj b).run G.P w=.ok (.map es ck) w:=by simp only [getObj,Sem.run,g1]
 have h1:=Jk dc false ⟨key.toArray⟩ w;have other:∀ob:Obj,(w.putObj b ob).os=w.os/\(w.putObj b ob).tape=w.tape/\(w.putObj b ob).output=w.output/\(w.putObj b ob).heap.size=w.heap.size/\∀k,k≠b->(w.putObj b ob).heap[k]?=w.heap[k]?:=fun ob=>⟨rfl,rfl,rfl,World.putObj_size,fun k hk=>World.putObj_heap_other hk⟩
 rcases XB (n:=0) (key:=key) g2 with ⟨x,v,j,q1,q2,q3,_,q5,q6,en,q7,q8⟩ | ⟨q1,q2,q3⟩
 ·obtain ⟨cs',q9,q10⟩:=q6 px vx hx;have h2:=UF (P:=G.P) dc q2 w;simp only [Nat.sub_zero] at q5 q7 q10;have q7':es[j]?=some en:=by rw [<- Tw];exact q7
  have hl:(es.modify j fun e0=>{ e0 with key:=.string ⟨key.toArray⟩,val:=vx }).toList=es.toList.modify j fun e0=>{ e0 with key:=.string ⟨key.toArray⟩,val:=vx }:=sM
  refine ⟨w.putObj b (.map (es.modify j fun e0=>{ e0 with key:=.string ⟨key.toArray⟩,val:=vx }) ck),?_,other _,.inl ⟨cs',q9,fun σ1 hst=>.ofM (World.putObj_heap_same aa) (by rw [hl];exact q10.step hst) (by
    rw [hl,<- g3]
    apply List.ext_getElem?
    intro i
    rw [Th,Th,List.getElem?_modify]
    cases es.toList[i]? with
    | none=>rfl
    | some e0 =>
     simp only [Option.map_eq_map,Sc];split <;> rfl)⟩,es,_,ck,g1,World.putObj_heap_same aa,fun i u hu ah=>by
    rw [SE] at hu;split at hu
    ·obtain ⟨e0,_,rfl⟩:=TE.1 hu;exact absurd rfl ah
    exact hu⟩
  unfold Instr.mapUpdate
  have h3:(Instr.keyThatStays en.key (.string ⟨key.toArray⟩)).run G.P w=.ok (.string ⟨key.toArray⟩) w:=by
   unfold Instr.keyThatStays
   rw [q8,Tk]
   ·rfl
   show ((⟨key.toArray⟩:ByteArray) == ⟨key.toArray⟩)=true;rw [Zlf];simp
  simp only [Sem.run_bind,Za hd,Result.andThen,h0,h1,h2,q7',Sc,Sp,h3,Ze0 g1]
 have h2:=UF (P:=G.P) dc q2 w;refine ⟨w.putObj b (.map (es.push { key:=.string ⟨key.toArray⟩,val:=vx,born:=ck }) (ck+1)),?_,other _,.inr ⟨q3 px,fun σ1 hst=>.ofM (World.putObj_heap_same aa) (by rw [Array.toList_push];exact MRel.step hst (MRel.push rfl hx g2)) (by rw [Array.toList_push,Ss,g3];rfl)⟩,es,_,ck+1,g1,World.putObj_heap_same aa,fun i u hu ah=>by
   rw [Array.getElem?_push] at hu;split at hu
   ·cases hu;exact absurd rfl ah
   exact hu⟩
 unfold Instr.mapUpdate
 simp only [Sem.run_bind,Za hd,Result.andThen,h0,h1,h2,Ze0 g1]
def Ze1 {k:List UInt8} {v v0:PV}:∀{l:List (List UInt8×List (List D))},k∉l.map (·.1)->VR l (some (k,v0))=VR l (some (k,v))
 | [],_=>rfl
 | (x,r)::l,h=>by
  simp only [TF,Tt,not_or] at h;have hx:¬x=k:=fun e=>h.1 e.symm
  simp only [VR,ZhH,decide_eq_false hx];rw [Ze1 (v:=v) (v0:=v0) h.2]
def ZhT {k:List UInt8} {v v0:PV}:∀{m:List (List UInt8×List (List D))},(m.map (·.1)).Nodup->ZmT k v (VR m (some (k,v0)))=some (VR (Z6 k [] m) (some (k,v)))\/(ZmT k v (VR m (some (k,v0)))=none/\VR (Z6 k [] m) (some (k,v))=VR m (some (k,v0))++[.d (.str k),v])
 | [],_=>.inr ⟨rfl,by simp [VR,Z6,ZhH]⟩
 | (x,r)::l,h=>by
  simp only [TF,List.nodup_cons] at h;simp only [VR,ZmT,Z6]
  by_cases hk:k=x
  ·subst hk
   left
   simp only [decide_true,VR,ZhH];rw [Ze1 h.1]
  have hx:¬x=k:=fun e=>hk e.symm
  simp only [decide_eq_false hk];rcases ZhT (k:=k) (v:=v) (v0:=v0) h.2 with g | ⟨g,g2⟩
  ·left;simp only [g,VR,ZhH,decide_eq_false hx]
  right;refine ⟨by simp only [g],by simp only [VR,g2,ZhH,decide_eq_false hx,T5]⟩
def ZcL {α:Type} {k:List UInt8} {v:α}:∀m:List (List UInt8×α),(k∈m.map (·.1)/\(Z6 k v m).map (·.1)=m.map (·.1))\/(k∉m.map (·.1)/\(Z6 k v m).map (·.1)=m.map (·.1)++[k])
 | []=>.inr ⟨sM,rfl⟩
 | (x,u)::l=>by
  simp only [Z6]
  by_cases hk:k=x
  ·subst hk;left;simp
  simp only [decide_eq_false hk];rcases ZcL (k:=k) (v:=v) l with ⟨h1,h2⟩ | ⟨h1,h2⟩
  ·left;exact ⟨Tx _ h1,by simp only [TF,h2]⟩
  right;exact ⟨by simp only [TF,Tt,not_or];exact ⟨hk,h1⟩,by simp only [TF,h2,T5]⟩
def Ze2 {α:Type} {k:List UInt8} {v:α} {m:List (List UInt8×α)} (h:(m.map (·.1)).Nodup):((Z6 k v m).map (·.1)).Nodup:=by
 rcases ZcL (k:=k) (v:=v) m with ⟨_,h2⟩ | ⟨h1,h2⟩
 ·rw [h2];exact h
 rw [h2,List.nodup_append];exact ⟨h,sM,fun a ha b hb=>by simp at hb;subst hb;exact fun e=>h1 (e ▸ ha)⟩
def Zlg {α:Type} {k:List UInt8} {v:α}:∀{m:List (List UInt8×α)} {i:Nat} {x:List UInt8×α},(Z6 k v m)[i]?=some x->x.1≠k->m[i]?=some x
 | [],0,x,h,ah=>by simp [Z6] at h;subst h;exact absurd rfl ah
 | [],i+1,x,h,ah=>by simp [Z6] at h
 | (y,u)::l,i,x,h,ah=>by
  simp only [Z6] at h
  by_cases hk:k=y
  ·subst hk;simp only [decide_true] at h
   cases i with
   | zero=>simp at h;subst h;exact absurd rfl ah
   | succ i=>simpa using h
  simp only [decide_eq_false hk] at h
  cases i with
  | zero=>simpa using h
  | succ i=>simp only [TN] at h |-;exact Zlg h ah
def JV {α:Type} {k:List UInt8} {v:α}:∀m:List (List UInt8×α),lkM k (Z6 k v m)=some v
 | []=>by simp [Z6,lkM]
 | (y,u)::l=>by
  simp only [Z6]
  by_cases hk:k=y
  ·subst hk;simp [lkM]
  simp only [decide_eq_false hk,lkM];exact JV l
def X2 {fo:Option (List UInt8×PV)}:∀{m:List (List UInt8×List (List D))} {i:Nat} {x:List UInt8×List (List D)},m[i]?=some x->(VR m fo)[2 * i]?=some (.d (.str x.1))/\(VR m fo)[2 * i+1]?=some (ZhH x.1 x.2 fo)
 | [],i,x,h=>by simp at h
 | (y,r)::l,0,x,h=>by simp at h;subst h;exact ⟨rfl,rfl⟩
 | (y,r)::l,i+1,x,h=>by
  have:=X2 (fo:=fo) (m:=l) (i:=i) (x:=x) (by simpa using h);rw [show 2 * (i+1)=2 * i+2 by omega,show 2 * i+2+1=2 * i+1+2 by omega];simpa [VR] using this
def StB.more {bn:List Nat} {ck:Nat} (h:StB bn ck):StB (bn++[ck]) (ck+1):=by
 refine ⟨List.nodup_append.2 ⟨h.1,sM,fun a ha b hb=>?_⟩,fun x hx=>?_⟩
 ·have:=h.2 a ha;simp at hb;omega
 rcases TD.1 hx with hx | hx
 ·have:=h.2 x hx;omega
 simp at hx;omega
def ZcM (hT:TabOK T G.P) (hS:SRel G e σ w) {t:TypeId} {pm pk px:PV} {vm vk vx:Value} {K:PV->St->Prop} (hm:VRel G e σ w pm vm) (hk:VRel G e σ w pk vk) (hx:VRel G e σ w px vx) (h:ZcB T t pm pk px σ K) :
  ∃σ1 w1,K .undef σ1/\(Instr.mapUpdate t vm vk vx).run G.P w=.ok () w1/\Stepped e σ w e σ1 w1/\SRel G e σ1 w1:=by
 unfold ZcB at h
 split at h
 ·rename_i kt el ay
  obtain ⟨i,d,z0,hi,hd,_,_,av,_⟩:=(hT.get (t:=t) (by rw [ay];simp)).ex;rw [ay] at av;obtain ⟨rfl,dc⟩:=av;split at h
  ·rename_i key b
   cases hk.dstr
   cases hm with
   | mp _ hb =>
   split at h
   ·rename_i cs bn ck du
    obtain ⟨w1,af,⟨r1,r2,r3,r4,r5⟩,hc,_⟩:=ZaJ hd dc (key:=key) (hS.box _ _ du) hx;rcases hc with ⟨cs',q1,q2⟩ | ⟨q1,q2⟩
    ·rw [q1] at h;exact ⟨_,w1,h,af,Ua hS du r1 r2 r3 r4 r5 fun hst=>q2 _ hst⟩
    rw [q1] at h;exact ⟨_,w1,h,af,Ua hS du r1 r2 r3 r4 r5 fun hst=>q2 _ hst⟩
   ·rename_i l du
    split at h
    ·rename_i x hmv
     obtain ⟨bn,ck,sk,hB⟩:=(hS.box _ _ du).of_dmap;obtain ⟨w1,af,⟨r1,r2,r3,r4,r5⟩,hc,_⟩:=ZaJ hd dc (key:=key) hB (Zsu hmv hx);refine ⟨_,w1,h,af,Ua hS du r1 r2 r3 r4 r5 fun hst=>?_⟩;rcases ZhQ (k:=key) (y:=x) l with g1 | ⟨g1,g2⟩
     ·rcases hc with ⟨cs',q1,q2⟩ | ⟨q1,q2⟩
      ·rw [g1] at q1;cases q1;exact (q2 _ hst).to_dmap sk
      rw [g1] at q1;cases q1
     rcases hc with ⟨cs',q1,q2⟩ | ⟨q1,q2⟩
     ·rw [g1] at q1;cases q1
     have:=q2 _ hst;rw [<- g2] at this;exact this.to_dmap sk.more
    exact h.elim
   ·rename_i el2 l k' v0 du
    obtain ⟨rfl,h⟩:=h;have pq:=hS.box _ _ du;obtain ⟨es0,⟨bn,ck,h1,h2,h3,h4⟩,h5,h6,h7⟩:=pq;have hB:BRel G e σ w (.map (VR l (some (key,v0))) bn ck) (e.β b):=⟨es0,h1,h2,h3,h4⟩
    obtain ⟨w1,af,⟨r1,r2,r3,r4,r5⟩,hc,es,es',ck',q1,q2,q3⟩:=ZaJ hd dc (key:=key) hB hx;rw [h1] at q1
    cases q1
    refine ⟨_,w1,h,af,Ua hS du r1 r2 r3 r4 r5 fun hst=>?_⟩;obtain ⟨bn',ck2,hB'⟩:∃bn' ck2,BRel G e (σ.set b (.smap el2 (Z6 key [] l) (some (key,px)))) w1 (.map (VR (Z6 key [] l) (some (key,px))) bn' ck2) (e.β b):=by
     rcases ZhT (k:=key) (v:=px) (v0:=v0) h7 with g1 | ⟨g1,g2⟩
     ·rcases hc with ⟨cs',p1,p2⟩ | ⟨p1,p2⟩
      ·rw [g1] at p1;cases p1;exact ⟨_,_,p2 _ hst⟩
      rw [g1] at p1;cases p1
     rcases hc with ⟨cs',p1,p2⟩ | ⟨p1,p2⟩
     ·rw [g1] at p1;cases p1
     have:=p2 _ hst;rw [<- g2] at this;exact ⟨_,_,this⟩
    obtain ⟨es2,k1,k2,k3,k4⟩:=hB';rw [q2] at k1
    cases k1
    refine ⟨_,⟨bn',_,q2,k2,k3,k4⟩,fun i u x hu bm ah=>?_,fun kv gd hl=>?_,Ze2 h7⟩
    ·have jf:x.1≠key:=ah _ rfl;obtain ⟨_,kk,y,g2,_,g4,_⟩:=k4 i u hu;rw [(X2 bm).1] at g2
     cases g2
     have wt:=q3 i u hu (by rw [g4];intro e;apply jf;have:=congrArg (fun v=>match v with | Value.string s=>s.data.toList | _=>[]) e;simpa using this);exact (h5 i u x wt (Zlg bm jf) fun kv gd=>by cases gd;exact jf).keep fun b2 q hq _=>⟨hq,r5 _ fun h=>(hS.hid b2 q hq).2.2.1 b hb h.symm⟩
    cases gd
    rw [JV] at hl;cases hl
   exact h.elim
  exact h.elim
 exact h.elim
def ZoX (hT:TabOK T G.P) (hS:SRel G e σ w) {K:PV->St->Prop} {ρ:Operand->PV} {ρ':Operand->Value} (hρ:∀x,VRel G e σ w (ρ x) (ρ' x)) (o:Oper) (h:eop T o.op ρ σ K) :
  ∃pv σ1 v w1 e1,K pv σ1/\ZoW G.P ρ' o w v w1/\Stepped e σ w e1 σ1 w1/\SRel G e1 σ1 w1/\VRel G e1 σ1 w1 pv v:=by
 unfold eop at h
 split at h
 ·rename_i el ho
  split at h
  ·exact h.elim
  rename_i hk
  obtain ⟨i,d,z,hi,hd,hs,dk,av,hz,cd,lf,_⟩:=(hT.get (t:=el) (fun h0=>hk h0)).ex;obtain ⟨su,mn⟩:=Xz (G:=G) (e:=e) (σ:=σ) (w:=w) cd;obtain ⟨h1,h2,h3⟩:=ZcJ hS el (T.get el).zero z.cells (by simpa using su) (fun i x u hx hu=>mn i x u hx (by rw [Tw];exact hu));refine ⟨_,_,_,_,_,h,.inl ?_,h1,h2,h3⟩;unfold execOp
  simp only [ho,Instr.alloc,zeroValue,Sem.run_bind,Yc hi,Result.andThen,hz,Sem.run_pure];rfl
 ·rename_i el x ho
  split at h
  ·rename_i l hl
   obtain ⟨cz,bl⟩:=W2 (hρ x) hl;obtain ⟨h1,h2,h3⟩:=ZcJ hS el l (ρ' x).cells cz bl;exact ⟨_,_,_,_,_,h,.inl (by unfold execOp;simp only [ho];rfl),h1,h2,h3⟩
  exact h.elim
 ·rename_i t a x ho
  have ha:=hρ a;split at h
  ·rename_i b off bu;rw [bu] at ha
   split at h
   ·rename_i ty cs hb
    split at h
    ·rename_i l hl
     split at h
     ·exact h.elim
     ·rename_i h1 h2 hk
      generalize hv:ρ' a=v at ha
      cases ha with
      | ptr b off cf =>
      obtain ⟨w1,af,hst,gm⟩:=Jm hT hS hb (ZvK (hρ x)) hl (Tl h1) (Tc h2) (fun h0=>hk h0);refine ⟨_,_,Go.undef,w1,e,h,.inr ⟨?_,rfl⟩,hst,gm,.undef _⟩;unfold execOp
      simp only [ho,hv,Sem.run_bind,af,Result.andThen,Sem.run_pure]
     exact h.elim
    exact h.elim
   exact h.elim
  exact h.elim
 ·rename_i t x ho
  split at h
  ·rename_i hk
   obtain ⟨i,d,z,hi,hd,hs,dk,av,hz,cd,lf,_⟩:=(hT.get (t:=t) (by rw [hk];simp)).ex;rw [hk] at av;cases av;split at h
   ·rename_i s bu
    have hx:=hρ x;rw [bu] at hx;have hxv:=hx.dstr;obtain ⟨h1,h2,h3⟩:=W3 hS (.iter s 0) (.stringIter ⟨s.toArray⟩ 0) (fun _ _ _ _ hh=>hh);refine ⟨_,_,_,_,_,h,.inl ?_,h1,h2,h3⟩;unfold execOp
    simp only [ho,hxv,Instr.range,Sem.run_bind,Za hd,Result.andThen,Sem.run_pure,run_newObj];rfl
   exact h.elim
  exact h.elim
 ·rename_i t ho
  split at h
  ·rename_i kt el hk
   have mk:∀x:Box,(∀e1 σ1 w1,Stepped e σ w e1 σ1 w1->w1.heap[w.heap.size]?=some (.map #[] 0)->BRel G e1 σ1 w1 x w.heap.size)->K (.mp σ.bx.length) (σ.new x) ->
     ∃pv σ1 v w1 e1,K pv σ1/\ZoW G.P ρ' o w v w1/\Stepped e σ w e1 σ1 w1/\SRel G e1 σ1 w1/\VRel G e1 σ1 w1 pv v:=by
    intro x hx h
    obtain ⟨h1,h2,h3⟩:=W3 hS x (.map #[] 0) hx;refine ⟨_,_,.map (some w.heap.size),_,_,h,.inl ?_,h1,h2,?_⟩
    ·exact mq147
    have:=VRel.mp (G:=G) (e:=e.more σ.bx.length w.heap.size) (σ:=σ.new x) (w:=w.alloc (.map #[] 0)) σ.bx.length (by rw [ZF1];omega)
    rwa [show (e.more σ.bx.length w.heap.size).β σ.bx.length=w.heap.size by simp [Env.more]] at this
   split at h
   ·exact mk (.map [] [] 0) (fun _ _ _ _ hh=>BRel.ofM hh trivial rfl) h
   ·exact mk (.map [] [] 0) (fun _ _ _ _ hh=>BRel.ofM hh trivial rfl) h
   exact mk _ (fun e1 σ1 w1 _ hh=>(show BRel G e1 σ1 w1 (.map (ZaF []) [] 0) w.heap.size from .ofM hh trivial rfl).to_dmap ⟨.nil,fun _ h=>nomatch h⟩) h
  exact h.elim
 ·exact mq81
 ·exact mq81
 ·rename_i x ho
  have hx:=hρ x;split at h
  ·rename_i b bu;rw [bu] at hx
   split at h
   ·rename_i s pos hb
    generalize hv:ρ' x=v at hx
    cases hx with
    | ptr b off cf =>
    obtain ⟨pv,σ1,v,w1,hK,af,hst,gm,hr⟩:=ZmZ hS hb o.type h;refine ⟨pv,σ1,v,w1,e,hK,.inl ?_,hst,gm,hr⟩;unfold execOp
    simp only [ho,hv,Sem.run_bind,af,Result.andThen,Sem.run_pure]
   exact h.elim
  exact h.elim
 ·rename_i args argTypes ho
  split at h
  ·rename_i t tx s x wm be
   have lm:argTypes=#[t,tx]:=by rw [<- Array.toArray_toList (xs:=argTypes),wm]
   obtain ⟨q1,q2,ac⟩:∃q1 q2,args.toList=[q1,q2]:=by
    cases hl:args.toList with
    | nil=>rw [hl] at be;cases be
    | cons a l=>cases l with
     | nil=>rw [hl] at be;cases be
     | cons b l=>cases l with
      | nil=>exact ⟨a,b,rfl⟩
      | cons c l=>rw [hl] at be;simp at be
   have ha:args=#[q1,q2]:=by rw [<- Array.toArray_toList (xs:=args),ac]
   rw [ac] at be;simp only [TF,TQ,List.cons.injEq,and_true] at be;obtain ⟨nr,ge⟩:=be;have n9:=hρ q1;have hrx:=hρ q2;rw [nr] at n9;rw [ge] at hrx;have l9:∀v' w1,(Builtin.append_ #[t,tx] o.type #[ρ' q1,ρ' q2]).run G.P w=.ok v' w1->ZoW G.P ρ' o w v' w1:=fun v' w1 hr=>.inl (by
    unfold execOp
    simp only [ho,resolve,invoke,builtin,Sem.run_bind,Sem.run_pure,Result.andThen,ha,lm];rw [show Array.map ρ' #[q1,q2]=#[ρ' q1,ρ' q2] from sM,hr])
   split at h
   ·rename_i el hk
    split at h
    ·exact h.elim
    rename_i bj
    split at h
    ·rename_i more ba hm
     split at h
     ·rename_i el2
      obtain ⟨hw,hb,hl,hK⟩:=h;generalize hv:ρ' q1=v at n9 l9
      cases n9 with
      | nils =>
      obtain ⟨v',w1,e1,af,hst,gm,hr⟩:=ZeZ (ty:=o.type) hT hS hk (fun h0=>bj h0) (Tc ba) (rows:=[]) (.slnil) σ.tk (fun _ h=>h) (.inl ⟨rfl,rfl⟩) hm hrx hw (by simpa using hb) (by simpa using hl);exact ⟨_,_,v',w1,e1,hK,l9 v' w1 af,hst,gm,hr⟩
     ·rename_i tok e2 rows
      split at h
      ·rename_i co qd
       obtain ⟨hw,hb,hl,hK⟩:=h;have:=Tl qd;subst this;have ra:=(Yq _ _).1 co;generalize hv:ρ' q1=v at n9 l9
       cases n9 with
       | sl tok e2 rows v hn hd ht =>
       obtain ⟨v',w1,e1,af,hst,gm,hr⟩:=ZeZ (ty:=o.type) hT hS hk (fun h0=>bj h0) (Tc ba) hd (UB tok σ.tk) (fun x hx=>((X1 _ _ _).1 hx).1) (.inr ⟨tok,ra,fun h=>((X1 _ _ _).1 h).2 rfl,ht ra⟩) hm hrx hw hb hl;exact ⟨_,_,v',w1,e1,hK,l9 v' w1 af,hst,gm,hr⟩
      exact h.elim
     exact h.elim
    exact h.elim
   exact h.elim
  exact h.elim
 exact h.elim
end
end Go.PM
end

section
namespace Go.PM
def fw (ro:Option Nat):Fence:={ fn:=fun _=>True,depth:=none,alive:=false,round:=ro }
def Wi (P:Program) (g:FuncId):Prop:=∀(args:Array Value) (w:World),(callFunc g args).run P w=.ok (.enter g args) w
def ArgsRel (G:GE) (e:Env) (σ:St) (w:World) (args:List PV) (vs:Array Value):Prop :=
 vs.size=args.length/\∀(i:Nat) (x:PV) (u:Value),args[i]?=some x->vs[i]?=some u->VRel G e σ w x u
def ZoY (G:GE) (e:Env) (σ:St) (w:World):PEnd->Ending->Prop
 | .ret x,en=>∃v,en=.returned v/\VRel G e σ w x v
 | .panic x,en=>∃v,en=.panicked [{ v:=v,recovered:=false }]/\VRel G e σ w x v
def Zz2 (G:GE) (e:Env) (σ:St) (w:World) (K:PEnd->St->Prop) (en:Ending) (w':World):Prop :=
 ∃pe σ' e',K pe σ'/\ZoY G e' σ' w' pe en/\SRel G e' σ' w'/\Stepped e σ w e' σ' w'
def YB (G:GE) (e:Env) (σ:St) (w:World) (K:PEnd->St->Prop) (en:Ending) (w':World):Prop :=
 ∃pe σ' e',K pe σ'/\ZoY G e' σ' w' pe en/\SRel G e' σ' w'/\Later e σ w e' σ' w'
def CallSem (G:GE) (cc:FuncId->List PV->St->(PEnd->St->Prop)->Prop):Prop:=∀g args σ K,cc g args σ K ->
 Wi G.P g/\∀(ro:Option Nat) (n:Nat) (e:Env) (w:World) (vs:Array Value),SRel G e σ w->ArgsRel G e σ w args vs->CallsIn (fw ro) n G.P g vs w (Zz2 G e σ w K)
def RawSem (G:GE) (e0:Env) (σ0:St) (w0:World) (cr:Value->List PV->St->(PEnd->St->Prop)->Prop):Prop:=∀v args σ K,cr v args σ K ->
 ∃l,v=.func (.yield l) #[] #[]/\∀(ro:Option Nat) (n:Nat) (e:Env) (w:World) (vs:Array Value),SRel G e σ w->Later e0 σ0 w0 e σ w->ArgsRel G e σ w args vs ->
  ∃f tmps asg body,(Instr.yield l vs).run G.P w=.ok (.round l f tmps asg body) w/\RoundIn (fw ro) n G.P l f tmps asg body w (YB G e σ w K)
def IterSem (G:GE) (ci:FuncId->List PV->(Value->List PV->St->(PEnd->St->Prop)->Prop)->St->(PEnd->St->Prop)->Prop):Prop:=∀g args raw σ K,ci g args raw σ K ->
 Wi G.P g/\∀(n:Nat) (e:Env) (w:World) (vs:Array Value),SRel G e σ w->ArgsRel G e σ w args vs->RawSem G e σ w raw->CallsIn (fw none) n G.P g vs w (YB G e σ w K)
def IterAt (G:GE) (e0:Env) (σ0:St) (w0:World) (ci:FuncId->List PV->(Value->List PV->St->(PEnd->St->Prop)->Prop)->St->(PEnd->St->Prop)->Prop):Prop:=∀g args raw σ K,ci g args raw σ K ->
 Wi G.P g/\∀(n:Nat) (e:Env) (w:World) (vs:Array Value),SRel G e σ w->Later e0 σ0 w0 e σ w->ArgsRel G e σ w args vs->RawSem G e σ w raw->CallsIn (fw none) n G.P g vs w (YB G e σ w K)
def IterSem.at' {G:GE} {e0:Env} {σ0:St} {w0:World} {ci:FuncId->List PV->(Value->List PV->St->(PEnd->St->Prop)->Prop)->St->(PEnd->St->Prop)->Prop} (h:IterSem G ci):IterAt G e0 σ0 w0 ci:=fun g args raw σ K hc=>⟨(h g args raw σ K hc).1,fun n e w vs hS _ ha hr=>(h g args raw σ K hc).2 n e w vs hS ha hr⟩
def IterAt.later {G:GE} {e0 e:Env} {σ0 σ:St} {w0 w:World} {ci:FuncId->List PV->(Value->List PV->St->(PEnd->St->Prop)->Prop)->St->(PEnd->St->Prop)->Prop} (h:IterAt G e0 σ0 w0 ci) (hL:Later e0 σ0 w0 e σ w):IterAt G e σ w ci:=fun g args raw σ' K hc=>⟨(h g args raw σ' K hc).1,fun n e' w' vs hS ik ha hr=>(h g args raw σ' K hc).2 n e' w' vs hS (hL.trans ik) ha hr⟩
structure CxOK (G:GE) (C:Cx) (ro:Option Nat) (e0:Env) (σ0:St) (w0:World):Prop where
 tab:TabOK C.T G.P
 call:CallSem G C.call
 raw:RawSem G e0 σ0 w0 C.raw
 iter:IterAt G e0 σ0 w0 C.iter
 out:ro=none\/∀g args raw σ K,¬C.iter g args raw σ K
def RawSem.later {G:GE} {e0 e:Env} {σ0 σ:St} {w0 w:World} {cr:Value->List PV->St->(PEnd->St->Prop)->Prop} (h:RawSem G e0 σ0 w0 cr) (hL:Later e0 σ0 w0 e σ w):RawSem G e σ w cr:=fun v args σ' K hc=>by
 obtain ⟨l,h1,h2⟩:=h v args σ' K hc;exact ⟨l,h1,fun ro n e' w' vs hS ik ha=>h2 ro n e' w' vs hS (hL.trans ik) ha⟩
def CxOK.later {G:GE} {C:Cx} {ro:Option Nat} {e0 e:Env} {σ0 σ:St} {w0 w:World} (h:CxOK G C ro e0 σ0 w0) (hL:Later e0 σ0 w0 e σ w):CxOK G C ro e σ w:=⟨h.tab,h.call,h.raw.later hL,h.iter.later hL,h.out⟩
def CxOK.calm {G:GE} {C:Cx} {ro:Option Nat} {e0:Env} {σ0:St} {w0:World} (h:CxOK G C ro e0 σ0 w0):CxOK G C.calm ro e0 σ0 w0:=⟨h.tab,h.call,fun _ _ _ _ h=>h.elim,fun _ _ _ _ _ h=>h.elim,.inr fun _ _ _ _ _ h=>h⟩
def JW (r:Nat):Deferred:={ target:=.collected r,args:=#[] }
def Marks (lo:Nat×List Deferred×Bool) (e:Env) (σ:St) (w:World) (l:List Deferred):Prop:=lo.1<=w.heap.size/\∃rs:List Nat,l=rs.map JW++lo.2.1/\(lo.2.2=true->rs=[])/\rs.Nodup/\∀r,r∈rs->lo.1<=r/\w.heap[r]?=some (.deferred (some [])) /\
 (∀i,i<σ.bx.length->e.β i≠r)/\(∀t,t∈σ.tk->∀p,e.M t=some p->p.1≠r)/\e.H r=none
def Marks.nil {lo:Nat} {fl:Bool} (e:Env) (σ:St) {w:World} (h:lo<=w.heap.size):Marks (lo,[],fl) e σ w []:=⟨h,[],rfl,fun _=>rfl,List.nodup_nil,fun r h=>(by cases h)⟩
def Marks.later {lo:Nat×List Deferred×Bool} {e e':Env} {σ σ':St} {w w':World} {l:List Deferred} (h:Marks lo e σ w l) (hL:Later e σ w e' σ' w'):Marks lo e' σ' w' l:=by
 obtain ⟨h0,rs,h1,dz,h2,h3⟩:=h;refine ⟨TT h0 hL.size,rs,h1,dz,h2,fun r hr=>?_⟩;obtain ⟨g1,g2,g3,g4,g5⟩:=h3 r hr;have aa:=(Tp.1 g2).1;refine ⟨g1,(hL.blocks r aa g3 g4 g5).trans g2,fun i hi=>?_,fun t ht p hp=>?_,?_⟩
 ·by_cases h:i<σ.bx.length
  ·rw [hL.beta i h];exact g3 i h
  have:=hL.fresh i oM hi;omega
 ·rcases hL.ftok t ht p hp with h | ⟨t0,h0,p0,nq,h⟩ | h
  ·omega
  ·rw [<- h];exact g4 t0 h0 p0 nq
  exact fun he=>h (by rw [he];exact g5)
 cases hq:e'.H r with
 | none=>rfl
 | some q =>
 rcases hL.fhid r (by rw [hq];simp) with h | ⟨t0,h0,p0,nq,h⟩ | h
 ·omega
 ·exact absurd h (g4 t0 h0 p0 nq)
 exact absurd g5 h
def UJ {n:Nat}:∀{l:List PV},ZoC n l=true->∀(i:Nat) (x:PV),l[i]?=some x->bnd n x=true
 | [],_,i,x,hx=>by simp at hx
 | y::l,h,i,x,hx=>by
  simp only [ZoC,Tn] at h
  cases i with
  | zero=>simp at hx;subst hx;exact h.1
  | succ i=>exact UJ h.2 i x (by simpa using hx)
def ZoZ {n:Nat}:∀{l:List PV},(∀(i:Nat) (x:PV),l[i]?=some x->bnd n x=true)->ZoC n l=true
 | [],_=>rfl
 | y::l,h=>by
  simp only [ZoC,Tn];exact ⟨h 0 y sM,ZoZ fun i x hx=>h (i+1) x (by simpa using hx)⟩
def Wc:∀{l:List PV} (i:Nat) (y:PV),(Xa l)[i]?=some y->∃x,l[i]?=some x/\y=clean x
 | [],i,y,h=>by simp [Xa] at h
 | x::l,i,y,h=>by
  cases i with
  | zero=>simp [Xa] at h;exact ⟨x,sM,h.symm⟩
  | succ i=>simp only [Xa,TN] at h;obtain ⟨z,h1,h2⟩:=Wc i y h;exact ⟨z,by simpa using h1,h2⟩
def YJ:∀{l:List PV},(Xa l).length=l.length
 | []=>rfl
 | x::l=>by simp [Xa,YJ]
section
variable {G:GE} {e e':Env} {σ σ':St} {w w':World}
def VRel.bnd {x:PV} {v:Value} (h:VRel G e σ w x v):bnd σ.bx.length x=true:=by
 have get:∀{l:List PV} {va:Array Value},va.size=l.length->(∀(i:Nat) (x:PV) (u:Value),l[i]?=some x->va[i]?=some u->PM.bnd σ.bx.length x=true)->ZoC σ.bx.length l=true:=fun {l va} hs h=>ZoZ fun i x hx=>by
  have hi:=(Ti.1 hx).1;exact h i x va[i] hx (Tz oM)
 induction h with
 | ptr b off h=>simp only [PM.bnd,SQ];omega
 | mp b h=>simp only [PM.bnd,SQ];omega
 | asl b off n h=>simp only [PM.bnd,SQ];omega
 | func f a c va vc ha hc _ _ ih1 ih2=>simp only [PM.bnd,Tn];exact ⟨get ha ih1,get hc ih2⟩
 | iface t x v _ ih=>exact ih
 | agg cs vs hs _ _ ih=>exact get hs ih
 | tuple cs vs hs _ ih=>exact get hs ih
 | _=>rfl
def VRel.clean {n:Nat} (hn:n<=σ'.bx.length) (hβ:∀i,i<n->e'.β i=e.β i)
  (hp:∀b off u,w.cell? ⟨b,off,none⟩=some u->okc e σ b off->okc e' σ' b off/\w'.cell? ⟨b,off,none⟩=some u) {x:PV} {v:Value} (h:VRel G e σ w x v) (hb:PM.bnd n x=true):VRel G e' σ' w' (clean x) v:=by
 induction h with
 | d x v h=>exact .d _ _ (h.mono hp)
 | undef v=>exact .undef _
 | ptr b off h =>
  simp only [PM.bnd,SQ] at hb;rw [<- hβ b oM];exact .ptr b off oM
 | asl b off m h =>
  simp only [PM.bnd,SQ] at hb;rw [<- hβ b oM];exact .asl b off m oM
 | mp b h =>
  simp only [PM.bnd,SQ] at hb;rw [<- hβ b oM];exact .mp b oM
 | nilm=>exact .nilm
 | elem r off b o u hc ho hu=>exact .elem r off b o u (fun j hj=>(hp b _ _ (hc j hj) (ho j hj)).2) (fun j hj=>(hp b _ _ (hc j hj) (ho j hj)).1) (fun j x hx=>(hu j x hx).mono hp)
 | sl t el rows v hn hd ht=>exact .d _ _ (hd.mono hp)
 | nils el=>exact .d _ _ .slnil
 | func f a c va vc ha hc _ _ ih1 ih2 =>
  simp only [PM.bnd,Tn] at hb;refine .func f _ _ va vc (by rw [YJ];exact ha) (by rw [YJ];exact hc) (fun i y u hy hu=>?_) (fun i y u hy hu=>?_)
  ·obtain ⟨x,hx,rfl⟩:=Wc i y hy;exact ih1 i x u hx hu (UJ hb.1 i x hx)
  obtain ⟨x,hx,rfl⟩:=Wc i y hy;exact ih2 i x u hx hu (UJ hb.2 i x hx)
 | iface t x v _ ih=>exact .iface t _ v (ih hb)
 | agg cs vs hs _ h1 ih=>exact .agg _ vs (by rw [YJ];exact hs) (fun i y u hy hu=>by obtain ⟨x,hx,rfl⟩:=Wc i y hy;exact ih i x u hx hu (UJ hb i x hx)) h1
 | tuple cs vs hs _ ih=>exact .tuple _ vs (by rw [YJ];exact hs) (fun i y u hy hu=>by obtain ⟨x,hx,rfl⟩:=Wc i y hy;exact ih i x u hx hu (UJ hb i x hx))
 | raw v=>exact .raw _
def U5:∀{l:List PV},(cleanNL l).length=l.length
 | []=>rfl
 | x::l=>by simp [PM.cleanNL,U5]
def ZcN:∀{l:List PV} (i:Nat) (y:PV),(cleanNL l)[i]?=some y->∃x,l[i]?=some x/\y=PM.cleanN x
 | [],i,y,h=>by simp [PM.cleanNL] at h
 | x::l,i,y,h=>by
  cases i with
  | zero=>simp [PM.cleanNL] at h;exact ⟨x,sM,h.symm⟩
  | succ i=>simp only [PM.cleanNL,TN] at h;obtain ⟨z,h1,h2⟩:=ZcN i y h;exact ⟨z,by simpa using h1,h2⟩
def VRel.cleanN {n:Nat} (hn:n<=σ'.bx.length) (hβ:∀i,i<n->e'.β i=e.β i)
  (hp:∀b off u,w.cell? ⟨b,off,none⟩=some u->okc e σ b off->okc e' σ' b off/\w'.cell? ⟨b,off,none⟩=some u) {x:PV} {v:Value} (h:VRel G e σ w x v) (hb:PM.bnd n x=true):VRel G e' σ' w' (cleanN x) v:=by
 induction h with
 | d x v h=>exact .d _ _ (h.mono hp)
 | undef v=>exact .undef _
 | ptr b off h =>
  simp only [PM.bnd,SQ] at hb;rw [<- hβ b oM];exact .ptr b off oM
 | asl b off m h =>
  simp only [PM.bnd,SQ] at hb;rw [<- hβ b oM];exact .asl b off m oM
 | mp b h =>
  simp only [PM.bnd,SQ] at hb;rw [<- hβ b oM];exact .mp b oM
 | nilm=>exact .nilm
 | elem r off b o u hc ho hu=>exact .elem r off b o u (fun j hj=>(hp b _ _ (hc j hj) (ho j hj)).2) (fun j hj=>(hp b _ _ (hc j hj) (ho j hj)).1) (fun j x hx=>(hu j x hx).mono hp)
 | sl t el rows v hn hd ht=>exact .d _ _ (hd.mono hp)
 | nils el=>exact .nils el
 | func f a c va vc ha hc h1 h2 ih1 ih2=>exact VRel.clean hn hβ hp (.func f a c va vc ha hc h1 h2) hb
 | iface t x v h ih=>exact VRel.clean hn hβ hp (.iface t x v h) hb
 | agg cs vs hs _ h1 ih=>exact .agg _ vs (by rw [U5];exact hs) (fun i y u hy hu=>by obtain ⟨x,hx,rfl⟩:=ZcN i y hy;exact ih i x u hx hu (UJ hb i x hx)) h1
 | tuple cs vs hs h ih=>exact VRel.clean hn hβ hp (.tuple cs vs hs h) hb
 | raw v=>exact .raw _
end
def FRel.clean {G:GE} {e e':Env} {σ σ':St} {w w':World} {f:Frame} {tm:Array Value} (hF:FRel G e σ w f tm) (hL:Later e σ w e' σ' w'):FRel G e' σ' w' (VT f) tm :=
 fun i=>VRel.clean hL.len hL.beta hL.pres (hF i) (hF i).bnd
def Zz3 (G:GE) (e:Env) (σ:St) (w:World):PExit->Exit->Prop
 | .normal,x=>x=.normal
 | .exit id,x=>x=.exit id
 | .goto l,x=>x=.goto l
 | .ret,x=>x=.ret
 | .panic p,x=>∃v,x=.panic [{ v:=v,recovered:=false }]/\VRel G e σ w p v
def ZL (G:GE) (e0:Env) (σ0:St) (w0:World) (ds:Nat×List Deferred×Bool) (n:Nat) (Z:Array Value->Prop) (Q:PQ):Exit->Act->World->Prop:=fun x a w =>
 ∃pe f e σ,Q pe f σ/\Zz3 G e σ w pe x/\SRel G e σ w/\FRel G e σ w f a.tmps/\Later e0 σ0 w0 e σ w/\a.tmps.size=n/\Marks ds e σ w a.defers/\Z a.tmps
def KRel (G:GE) (e0:Env) (σ0:St) (w0:World) (ds:Nat×List Deferred×Bool) (n:Nat) (Z:Array Value->Prop) (K:Frame->St->Prop):Act->World->Prop:=fun a w =>
 ∃f e σ,K f σ/\SRel G e σ w/\FRel G e σ w f a.tmps/\Later e0 σ0 w0 e σ w/\a.tmps.size=n/\Marks ds e σ w a.defers/\Z a.tmps
def Wj:∀(n:Nat) (K:Nat->Prop),Yk n K=K n
 | 0,K=>rfl
 | n+1,K=>by simp only [Yk,Wj n]
def Zo0 (v:PV) (K:PV->Prop):ZoA v K=K v:=by cases v <;> simp only [ZoA,Wj]
def ZaK:∀(l:List PV) (K:List PV->Prop),Vt l K=K l
 | [],_=>rfl
 | v::l,K=>by simp only [Vt,Zo0,ZaK l]
def ZhU (v:PV) (K:PV->Prop):Zld v K=K v:=by cases v <;> simp only [Zld,Wj,ZaK]
def Ze3:∀(l:List PV) (K:List PV->Prop),Zf0 l K=K l
 | [],_=>rfl
 | v::l,K=>by simp only [Zf0,ZhU,Ze3 l]
def ZO (v:PV) (K:PV->Prop):UX v K=K v:=by cases v <;> simp only [UX,Wj,ZaK,ZhU,Ze3]
def ZcO:∀(l:List PV) (K:List PV->Prop),ZhI l K=K l
 | [],_=>rfl
 | v::l,K=>by simp only [ZhI,ZO,ZcO l]
def Wk:∀(l:List Nat) (K:List Nat->Prop),ZcC l K=K l
 | [],_=>rfl
 | t::l,K=>by simp only [ZcC,Wj,Wk l]
def XC:∀(l:List Box) (K:List Box->Prop),XU l K=K l
 | [],_=>rfl
 | .cells t cs::l,K=>by simp only [XU,ZcO,XC l]
 | .iter s p::l,K=>by simp only [XU,XC l]
 | .loop st pd r::l,K=>by simp only [XU,XC l]
 | .dmap m::l,K=>by simp only [XU,XC l]
 | .smap el m none::l,K=>by simp only [XU,XC l]
 | .smap el m (some (k,v))::l,K=>by simp only [XU,ZO,XC l]
 | .map cs bn ck::l,K=>by simp only [XU,ZcO,Wk,Wj,XC l]
def ZM (σ:St) (K:St->Prop):Xp σ K=K σ:=by simp only [Xp,XC,Wk,Wj]
def ZU (f:Frame) (d:Option Nat) (v:PV) (K:Frame->Prop):ZhG f d v K=K (Ym f d v):=by
 cases d with
 | none=>rfl
 | some i=>simp only [ZhG,ZO];rfl
def Xd {f:Frame} {s:Nat} {v:PV} (h:f s=v):WY f s v=f:=by
 funext j
 by_cases hj:s=j
 ·subst hj;rw [Yx,h]
 rw [Xb f v hj]
def Yr (a:Act) (d:Option Nat) (v:Value):(a.put d v).tmps.size=a.tmps.size:=by cases d <;> simp [Act.put]
def Zf7 {N:Nat} {Z:Array Value->Prop} {a:Act} {d:Option Nat} {v:Value} (hd:∀i,d=some i->i<N/\∀t v,Z t->Z (t.setIfInBounds i v)) (hZ:Z a.tmps):Z (a.put d v).tmps:=by
 cases d with
 | none=>exact hZ
 | some i=>exact (hd i rfl).2 _ _ hZ
def Y7 (a:Act) (d:Option Nat) (v:Value):(a.put d v).defers=a.defers:=by cases d <;> rfl
section
variable {G:GE} {C:Cx} {e0 e:Env} {σ0 σ:St} {w0 w:World} {a:Act} {f:Frame} {Q:PQ} {K:Frame->St->Prop} {ro:Option Nat} {n:Nat} {ds:Nat×List Deferred×Bool} {N:Nat} {Z:Array Value->Prop}
def KRel.put {e1:Env} {σ1:St} {w1:World} {o:Oper} {pv:PV} {v:Value} (hF:FRel G e σ w f a.tmps) (hL:Later e0 σ0 w0 e σ w) (hN:a.tmps.size=N) (bf:Marks ds e σ w a.defers) (hZ:Z a.tmps) (hd:∀d,o.dst=some d->d<N/\∀t v,Z t->Z (t.setIfInBounds d v))
  (hK:ZhG f o.dst pv fun f=>K f σ1) (hst:Stepped e σ w e1 σ1 w1) (gm:SRel G e1 σ1 w1) (hr:VRel G e1 σ1 w1 pv v):KRel G e0 σ0 w0 ds N Z K (a.put o.dst v) w1:=by
 rw [ZU] at hK;exact ⟨_,e1,σ1,hK,gm,(hF.step hst).put hr (by rw [hN];exact fun d h=>(hd d h).1),hL.trans hst.toLater,by rw [Yr];exact hN,by rw [Y7];exact bf.later hst.toLater,Zf7 hd hZ⟩
def Zf8 {args:Array Operand} (hρ:∀x,VRel G e σ w (ev f x) (a.eval x)):ArgsRel G e σ w (args.toList.map (ev f)) (args.map a.eval):=by
 refine ⟨sM,fun i x u hx hu=>?_⟩;rw [Th] at hx;rw [Array.getElem?_map] at hu
 cases hq:args[i]? with
 | none=>rw [hq] at hu;cases hu
 | some q =>
 exact mq152
def ArgsRel.append {x y:List PV} {vx vy:Array Value} (h1:ArgsRel G e σ w x vx) (h2:ArgsRel G e σ w y vy):ArgsRel G e σ w (x++y) (vx++vy):=by
 refine ⟨by rw [Array.size_append,Tb,h1.1,h2.1],fun i p u hp hu=>?_⟩
 by_cases hi:i<x.length
 ·rw [TJ hi] at hp;rw [Array.getElem?_append_left (by rw [h1.1];exact hi)] at hu;exact h1.2 i p u hp hu
 rw [TU oM] at hp;rw [Array.getElem?_append_right (by rw [h1.1];omega),h1.1] at hu;exact h2.2 _ p u hp hu
def Zlh {G:GE} {C:Cx} {e e':Env} {σ σ':St} {w w':World} {f:Frame} {tm:Array Value} (hF:FRel G e σ w f tm) (hL:Later e σ w e' σ' w'):FRel G e' σ' w' (C.pf f) tm:=by
 unfold Cx.pf
 split
 ·exact hF.clean hL
 exact fun i=>.undef _
def Jo (hC:CxOK G C ro e0 σ0 w0) (hS:SRel G e σ w) (hF:FRel G e σ w f a.tmps) (hL:Later e0 σ0 w0 e σ w) (hN:a.tmps.size=N) (bf:Marks ds e σ w a.defers) (hZ:Z a.tmps) {o:Oper} (hd:∀d,o.dst=some d->d<N/\∀t v,Z t->Z (t.setIfInBounds d v))
  (h:XM C o f σ Q K):o.wpIn (fw ro) n G.P a w (KRel G e0 σ0 w0 ds N Z K) (ZL G e0 σ0 w0 ds N Z Q):=by
 have hρ:∀x,VRel G e σ w (ev f x) (a.eval x):=fun x=>Zby hF x
 refine ⟨fun _ _=>trivial,?_⟩;unfold XM at h
 simp only [ZM,ZO] at h;split at h
 ·rename_i hE
  have iv:∀c,o.op≠.defer c:=fun c hc=>by rw [hc] at h;exact h
  rw [show (fw ro).round=ro from rfl,Oper.semAt_eq _ _ _ iv];obtain ⟨pv,v,w1,hK,hg,hr,af⟩:=Zm1 hC.tab hS hρ o h;rw [af];exact KRel.put hF hL hN bf hZ hd hK (hg.stepped e σ) (hS.grow hg) hr
 rename_i hE
 have iv:∀c,o.op≠.defer c:=fun c hc=>by rw [hc] at hE;cases hE
 rw [show (fw ro).round=ro from rfl,Oper.semAt_eq _ _ _ iv];split at h
 ·rename_i x args at' ho
  have hx:=hρ x;have jm:∀(next:World->Ending->World->Prop),True:=fun _=>trivial
  unfold ZcD at h
  split at h
  ·rename_i g first caps bu
   rw [bu] at hx;generalize hv:a.eval x=v at hx
   cases hx with
   | func g first caps va vc ha hc h1 h2 =>
   have ac:ArgsRel G e σ w (first++args.toList.map (ev f)++caps) (va++args.map a.eval++vc):=(ArgsRel.append (ArgsRel.append ⟨ha,h1⟩ (Zf8 hρ)) ⟨hc,h2⟩)
   split at h
   ·obtain ⟨gu,il⟩:=hC.call _ _ _ _ h;have af:(execOp a.eval o).run G.P w=.ok (.enter g (va++args.map a.eval++vc)) w:=by
     exact mq143
    rw [af,Oper.uponIn_enter];refine ⟨fun h=>by simp [fw] at h,(il ro (n - 1) e w _ hS ac).mono fun en w' hA=>?_⟩;obtain ⟨pe,σ',e',hK,rb,hS',hst⟩:=hA
    cases pe with
    | ret pv =>
     obtain ⟨u,rfl,hr⟩:=rb;exact KRel.put hF hL hN bf hZ hd hK hst hS' hr
    | panic pv =>
    obtain ⟨u,rfl,hr⟩:=rb;exact ⟨.panic pv,_,e',σ',hK,⟨u,rfl,hr⟩,hS',Zlh hF hst.toLater,hL.trans hst.toLater,hN,bf.later hst.toLater,hZ⟩
   obtain ⟨gu,il⟩:=hC.iter _ _ _ _ _ h;have s9:ro=none:=hC.out.elim id fun hh=>(hh _ _ _ _ _ h).elim
   subst s9;have af:(execOp a.eval o).run G.P w=.ok (.enter g (va++args.map a.eval++vc)) w:=by
    exact mq143
   rw [af,Oper.uponIn_enter];refine ⟨fun h=>by simp [fw] at h,(il (n - 1) e w _ hS hL ac (hC.raw.later hL)).mono fun en w' hA=>?_⟩;exact mq47
  ·rename_i v bu
   rw [bu] at hx;generalize hv:a.eval x=v' at hx
   cases hx with
   | raw v =>
   obtain ⟨l,rfl,gw⟩:=hC.raw _ _ _ _ h;obtain ⟨fn,tmps,asg,body,hy,lu⟩:=gw ro (n - 1) e w _ hS hL (Zf8 hρ);have af:(execOp a.eval o).run G.P w=.ok (.round l fn tmps asg body) w:=by
    unfold execOp
    simp only [ho,resolve,hv,Deferred.ofValue,Sem.run_bind,Sem.run_pure,Result.andThen,invoke,Array.empty_append,hy]
   rw [af,Oper.uponIn_round];refine ⟨fun h=>by simp [fw] at h,lu.mono fun en w' hA=>?_⟩;exact mq47
  exact h.elim
 ·rename_i x ho
  have hx:=hρ x;split at h
  ·rename_i t pv bu
   rw [bu] at hx;generalize hv:a.eval x=v at hx
   cases hx with
   | iface _ _ u hu =>
   have af:(execOp a.eval o).run G.P w=.halt (.panic (.iface t u)) w:=by
    unfold execOp
    simp only [ho,hv,Instr.panic];rfl
   rw [af];exact ⟨.panic (.iface t pv),_,e,σ,h,⟨.iface t u,rfl,.iface t pv u hu⟩,hS,Zlh hF (Later.refl _ _ _),hL,hN,bf,hZ⟩
  exact h.elim
 obtain ⟨pv,σ1,v,w1,e1,hK,ta,hst,gm,hr⟩:=ZoX hC.tab hS hρ o h;rcases ta with af | ⟨af,rfl⟩
 ·rw [af];exact KRel.put hF hL hN bf hZ hd hK hst gm hr
 rw [af];exact KRel.put hF hL hN bf hZ hd hK hst gm hr
def Vx (hC:CxOK G C ro e0 σ0 w0) (hS:SRel G e σ w) (hF:FRel G e σ w f a.tmps) (hL:Later e0 σ0 w0 e σ w) (hN:a.tmps.size=N) (bf:Marks ds e σ w a.defers) (hZ:Z a.tmps) {ops:Array Oper} {o:Oper} (hd:∀d,o.dst=some d->d<N/\∀t v,Z t->Z (t.setIfInBounds d v))
  (h:W0 C ops.toList Q o f σ K) :
  if Region.wanted o (yielded ops a.tmps)=true then o.wpIn (fw ro) n G.P a w (KRel G e0 σ0 w0 ds N Z K) (ZL G e0 σ0 w0 ds N Z Q)
  else KRel G e0 σ0 w0 ds N Z K (a.put o.dst Go.undef) w:=by
 unfold W0 at h
 split at h
 ·rename_i hg
  have:Region.wanted o (yielded ops a.tmps)=true:=by simp [Region.wanted,hg]
  rw [Tk this];exact Jo hC hS hF hL hN bf hZ hd h
 rename_i j want hg
 split at h
 ·rename_i s hs
  have rc:(ops[j]?).bind (·.dst)=some s:=by
   unfold We at hs
   rw [Tw] at hs
   cases hoj:ops[j]? with
   | none=>rw [hoj] at hs;cases hs
   | some oj=>rw [hoj] at hs;exact hs
  have wu:=hF s;split at h
  ·rename_i t nd
   rw [nd] at wu;have hv:=wu.dbool;have hy:yielded ops a.tmps j=some t:=by
    unfold yielded
    rw [rc];have:a.tmps[s]?=some (.bool t):=by
     rw [Array.getD_eq_getD_getElem?] at hv
     cases h2:a.tmps[s]? with
     | none=>rw [h2] at hv;cases hv
     | some u=>rw [h2] at hv;simp at hv;rw [hv]
    simp [this]
   have oa:Region.wanted o (yielded ops a.tmps)=(t == want):=by simp [Region.wanted,hg,hy]
   rw [oa]
   cases t <;> cases want <;> simp only [CondP] at h
   ·rw [Xd nd] at h;simp only [beq_self_eq_true,if_true];exact Jo hC hS hF hL hN bf hZ hd h
   ·rw [Xd nd] at h;rw [Tf dM];exact KRel.put hF hL hN bf hZ hd h (.refl _ _ _) hS (.raw _)
   ·rw [Xd nd] at h;rw [Tf dM];exact KRel.put hF hL hN bf hZ hd h (.refl _ _ _) hS (.raw _)
   rw [Xd nd] at h;simp only [beq_self_eq_true,if_true];exact Jo hC hS hF hL hN bf hZ hd h
  ·rename_i vs nd
   rw [nd] at wu;generalize hv:a.tmps.getD s Go.undef=v at wu
   cases wu
   have hy:yielded ops a.tmps j=none:=by
    unfold yielded
    rw [rc];rw [Array.getD_eq_getD_getElem?] at hv
    cases h2:a.tmps[s]? with
    | none=>simp [h2]
    | some u=>rw [h2] at hv;simp at hv;subst hv;simp [h2]
   have oa:Region.wanted o (yielded ops a.tmps)=false:=by simp [Region.wanted,hg,hy]
   rw [oa,Tf sM];exact KRel.put hF hL hN bf hZ hd h (.refl _ _ _) hS (.raw _)
  exact h.elim
 exact h.elim
def ZbA (hC:CxOK G C ro e0 σ0 w0) (hS:SRel G e σ w) (hF:FRel G e σ w f a.tmps) (hL:Later e0 σ0 w0 e σ w) (hN:a.tmps.size=N) (bf:Marks ds e σ w a.defers) (hZ:Z a.tmps) {ops:Array Oper} {o:Oper} (hd:∀d,o.dst=some d->d<N/\∀t v,Z t->Z (t.setIfInBounds d v))
  (h:ZhJ C ops.toList Q o f σ K) :
  if Region.wanted o (yielded ops a.tmps)=true then o.wpIn (fw ro) n G.P a w (KRel G e0 σ0 w0 ds N Z K) (ZL G e0 σ0 w0 ds N Z Q)
  else KRel G e0 σ0 w0 ds N Z K (a.put o.dst Go.undef) w:=by
 unfold ZhJ at h
 split at h
 ·rename_i hb
  have hg:o.guard=none:=by
   unfold ZeT at hb
   split at hb
   ·split at hb
    ·assumption
    cases hb
   cases hb
  have:Region.wanted o (yielded ops a.tmps)=true:=by simp [Region.wanted,hg]
  rw [Tk this];simp only [ZM] at h;have iv:∀c,o.op≠.defer c:=fun c hc=>by rw [hc] at h;exact h
  refine ⟨fun _ _=>trivial,?_⟩;rw [show (fw ro).round=ro from rfl,Oper.semAt_eq _ _ _ iv];obtain ⟨pv,σ1,v,w1,e1,hK,af,hst,gm,hr⟩:=Zm0 hC.tab hS (fun x=>Zby hF x) o h;rw [af];exact KRel.put hF hL hN bf hZ hd hK hst gm hr
 exact Vx hC hS hF hL hN bf hZ hd h
def Ze4 (hC:CxOK G C ro e0 σ0 w0) {ops:Array Oper} (hd:∀o,o∈ops->∀d,o.dst=some d->d<N/\∀t v,Z t->Z (t.setIfInBounds d v)):∀(l:List Oper) (k:Nat),(∀j,l[j]?=ops[k+j]?)->∀{e:Env} {σ:St} {w:World} {a:Act} {f:Frame},
  SRel G e σ w->FRel G e σ w f a.tmps->Later e0 σ0 w0 e σ w->a.tmps.size=N->Marks ds e σ w a.defers->Z a.tmps->Zox C ops.toList Q l f σ ->
  wpOpsIn (fw ro) n G.P ops (ZL G e0 σ0 w0 ds N Z Q) (List.range' k l.length) a w
 | [],k,_,e,σ,w,a,f,hS,hF,hL,hN,bf,hZ,h=>⟨.normal,f,e,σ,h,rfl,hS,hF,hL,hN,bf,hZ⟩
 | o::l,k,hl,e,σ,w,a,f,hS,hF,hL,hN,bf,hZ,h=>by
  have h0:ops[k]?=some o:=by simpa using (hl 0).symm
  have bi:=ZbA (ro:=ro) (n:=n) hC hS hF hL hN bf hZ (ops:=ops) (hd o (Se h0)) h;have next:∀a' w',KRel G e0 σ0 w0 ds N Z (Zox C ops.toList Q l) a' w'->wpOpsIn (fw ro) n G.P ops (ZL G e0 σ0 w0 ds N Z Q) (List.range' (k+1) l.length) a' w':=fun a' w' ⟨f',e',σ',h1,h2,h3,h4,h5,h6,h7⟩ =>
   Ze4 hC hd l (k+1) (fun j=>by have:=hl (j+1);simpa [So,Nat.add_comm 1 j] using this) h2 h3 h4 h5 h6 h7 h1
  rw [Te,List.range'_succ];simp only [wpOpsIn,h0];split at bi
  ·rename_i hw
   rw [Tk hw];exact Oper.wpIn_mono next bi
  rename_i hw
  rw [Tf hw];exact ⟨fun _ _=>trivial,next _ _ bi⟩
end
end Go.PM
end

section
namespace Go.PM
def Zcg {k:IntKind} {n:Int} {K:PV->Prop} (h:Zb2 k n K):∃v,K v/\∀K':PV->Prop,K' v->Zb2 k n K':=by
 rcases h with ⟨h1,h2⟩ | h
 ·exact ⟨_,h2,fun K' h'=>.inl ⟨h1,h'⟩⟩
 exact ⟨_,h,fun K' h'=>.inr h'⟩
def ZvL {op:BinOp} {k:IntKind} {a b:Int} {K:PV->Prop} (h:ZuS op k a b K):∃v,K v/\∀K':PV->Prop,K' v->ZuS op k a b K':=by
 cases op <;> simp only [ZuS] at h <;> first
  | exact h.elim
  | exact Zcg h
  | exact ⟨_,h,fun K' h'=>h'⟩
  | (obtain ⟨v,h1,h2⟩:=Zcg h.2;exact ⟨v,h1,fun K' h'=>⟨h.1,h2 K' h'⟩⟩)
  | exact ⟨_,h.2,fun K' h'=>⟨h.1,h'⟩⟩
def Vy {T:Tab}:∀{fs:List (Nat×Nat)} {i:Nat} {xs ys:List PV} {K:Bool->Prop},YH T i fs xs ys K->∃v,K v/\∀K':Bool->Prop,K' v->YH T i fs xs ys K'
 | [],i,xs,ys,K,h=>by cases xs <;> cases ys <;> first | exact ⟨_,h,fun K' h'=>h'⟩ | exact h.elim
 | (o,t)::fs,i,[],ys,K,h=>h.elim
 | (o,t)::fs,i,x::xs,[],K,h=>h.elim
 | (o,t)::fs,i,x::xs,y::ys,K,h=>by
  simp only [YH] at h;split at h
  ·rename_i h1 h2
   split at h
   ·rename_i h3
    obtain ⟨v,g1,g2⟩:=Vy h;exact ⟨_,g1,fun K' h'=>by simp only [YH,h1,h2,h3];exact g2 (fun r=>K' _) h'⟩
   exact h.elim
  ·exact mq134
  ·exact mq134
  exact h.elim
def Zz4 {T:Tab} {t:TypeId} {x y:Operand} {px py:PV} {K:Bool->Prop} (h:peq T t x y px py K):∃v,K v/\∀K':Bool->Prop,K' v->peq T t x y px py K':=by
 unfold peq at h
 split at h
 case h_7 =>
  rename_i hk
  split at h
  ·rename_i he
   split at h
   ·obtain ⟨v,g1,g2⟩:=Vy h;exact ⟨v,g1,fun K' h'=>by simp only [peq,hk,he];exact g2 K' h'⟩
   exact h.elim
  exact h.elim
 all_goals (repeat' split at h) <;> first
  | exact h.elim
  | exact ⟨_,h,fun K' h'=>by simp only [peq, *];exact h'⟩
  | exact ⟨_,h,fun K' h'=>by simp only [peq, *]⟩
def ZvM {T:Tab} {op:BinOp} {t:TypeId} {x y:Operand} {px py:PV} {K:PV->Prop} (h:Zsi T op t x y px py K):∃v,K v/\∀K':PV->Prop,K' v->Zsi T op t x y px py K':=by
 unfold Zsi at h
 split at h
 ·split at h
  ·obtain ⟨v,h1,h2⟩:=Zcg h.2;exact ⟨_,h1,fun K' h'=>⟨h.1,h2 K' h'⟩⟩
  ·exact ⟨_,h.2,fun K' h'=>⟨h.1,h'⟩⟩
  rename_i h1 h2
  split at h
  ·rename_i hk
   obtain ⟨v,g1,g2⟩:=ZvL h;refine ⟨v,g1,fun K' h'=>?_⟩
   cases op <;> first
    | exact absurd rfl h1
    | exact absurd rfl h2
    | (simp only [Zsi,hk];exact g2 K' h')
  exact h.elim
 ·cases op <;> simp only at h <;> first
   | exact h.elim
   | exact ⟨_,h,fun K' h'=>h'⟩
   | exact ⟨_,h.2,fun K' h'=>⟨h.1,h'⟩⟩
 rename_i h1 h2
 cases op <;> simp only at h <;> first
  | exact h.elim
  | (obtain ⟨v, g1, g2⟩ := Zz4 h
     refine ⟨_,g1,fun K' h'=>?_⟩;unfold Zsi
     split
     ·exact absurd rfl (h1 _ _ _ _ rfl)
     ·exact absurd rfl (h2 _ _ rfl)
     exact g2 _ h')
def ZcP {lo hi:Option PV} {n:Nat} {K:Nat->Nat->Prop} (h:XX lo hi n K):∃a b,K a b/\∀K':Nat->Nat->Prop,K' a b->XX lo hi n K':=by
 unfold XX at h
 split at h
 ·exact ⟨_,_,h,fun K' h'=>h'⟩
 ·split at h
  ·exact ⟨_,_,h.2.2,fun K' h'=>⟨h.1,h.2.1,h'⟩⟩
  exact h.elim
 ·split at h
  ·exact ⟨_,_,h.2.2,fun K' h'=>⟨h.1,h.2.1,h'⟩⟩
  exact h.elim
 split at h
 ·exact ⟨_,_,h.2.2.2,fun K' h'=>⟨h.1,h.2.1,h.2.2.1,h'⟩⟩
 exact h.elim
def Zf9 {T:Tab} {t:TypeId} {x:PV} {bx:List Box} {K:PV->Prop} (h:Jh T t x bx K):∃v,K v/\∀K':PV->Prop,K' v->Jh T t x bx K':=by
 unfold Jh at h
 (repeat' split at h) <;> first
  | exact h.elim
  | exact ⟨_,h,fun K' h'=>by simp only [Jh, *];exact h'⟩
  | exact ⟨_,h,fun K' h'=>by simp_all [Jh]⟩
def Zm2 {T:Tab} {t:TypeId} {m k:PV} {ok:Bool} {bx:List Box} {K:PV->Prop} (h:YA T t m k ok bx K):∃v,K v/\∀K':PV->Prop,K' v->YA T t m k ok bx K':=by
 unfold YA at h
 split at h
 ·rename_i kt el hk
  split at h
  ·exact h.elim
  rename_i ho
  have lift:∀{X:Prop},X->(match (generalizing:=false) (T.get el).kind with | .other=>False | _=>X):=fun {X} x=>by
   cases qe:(T.get el).kind
   case other=>exact absurd qe ho
   all_goals exact x
  split at h
  ·split at h
   ·rename_i hz
    split at h
    ·exact ⟨_,h,fun K' h'=>by simp only [YA,hk,hz];exact h'⟩
    ·split at h
     ·rename_i hb
      split at h
      ·rename_i hf;exact ⟨_,h,fun K' h'=>by simp only [YA,hk,hz,hb,hf];exact h'⟩
      rename_i hf;exact ⟨_,h,fun K' h'=>by simp only [YA,hk,hz,hb,hf];exact h'⟩
     ·rename_i hb
      exact mq104
     ·rename_i hb
      split at h
      ·exact mq104
      split at h
      ·obtain ⟨rfl,h⟩:=h;exact ⟨_,h,fun K' h'=>by simp only [YA,hk,hz,hb];exact ⟨trivial,h'⟩⟩
      exact h.elim
     exact h.elim
    exact h.elim
   exact h.elim
  exact h.elim
 exact h.elim
def Zsv {m m':List (List UInt8×List (List D))} {fo fo':Option (List UInt8×PV)} (h:ZCQ m fo=ZCQ m' fo'):m=m'/\fo=fo':=by
 unfold ZCQ at h
 obtain ⟨h1,h2⟩:=List.cons.inj h;refine ⟨List.map_inj_right (fun x y vj=>?_) |>.1 h2,?_⟩
 ·obtain ⟨x1,x2⟩:=x;obtain ⟨y1,y2⟩:=y;simp at vj;rw [vj.1,vj.2]
 cases fo with
 | none=>cases fo' with
  | none=>rfl
  | some kv=>cases h1
 | some kv=>cases fo' with
  | none=>cases h1
  | some kv' =>
   obtain ⟨k,v⟩:=kv;obtain ⟨k',v'⟩:=kv';simp at h1;rw [h1.1,h1.2]
def Zga {T:Tab} {t:TypeId} {m k:PV} {ok:Bool} {bx bx':List Box} {K:PV->Prop} (hl:∀b,m=.mp b->ZY bx b 0 0=ZY bx' b 0 0) (h:YA T t m k ok bx K):YA T t m k ok bx' K:=by
 cases m with
 | mp b =>
  have hc:=hl b rfl;have:(∀cs bn ck,bx[b]?=some (.map cs bn ck)->∃bn' ck',bx'[b]?=some (.map cs bn' ck')):=fun cs bn ck hb=>by
   unfold ZY at hc
   rw [hb] at hc;simp only at hc;split at hc
   ·cases hc
   ·rename_i cs' bn' ck' fm;cases hc;exact ⟨bn',ck',fm⟩
   ·cases hc
   ·cases hc
   cases hc
  have this2:∀l,bx[b]?=some (.dmap l)->bx'[b]?=some (.dmap l):=fun l hb=>by
   unfold ZY at hc
   rw [hb] at hc;simp only at hc;split at hc
   ·cases hc
   ·cases hc
   ·rename_i fm;cases hc;exact fm
   ·cases hc
   cases hc
  have this3:∀el m fo,bx[b]?=some (.smap el m fo)->∃el',bx'[b]?=some (.smap el' m fo):=fun el m fo hb=>by
   unfold ZY at hc
   rw [hb] at hc;simp only at hc;split at hc
   ·cases hc
   ·cases hc
   ·cases hc
   ·rename_i el' m' fo' fm
    obtain ⟨rfl,rfl⟩:=Zsv (Prod.mk.inj (Prod.mk.inj (Option.some.inj hc)).2).1;exact ⟨el',fm⟩
   cases hc
  unfold YA at h |-
  split at h
  ·rename_i kt el hk
   split at h
   ·exact h.elim
   rename_i ho
   have lift:∀{X:Prop},X->(match (generalizing:=false) (T.get el).kind with | .other=>False | _=>X):=fun {X} x=>by
    cases qe:(T.get el).kind
    case other=>exact absurd qe ho
    all_goals exact x
   split at h
   ·split at h
    ·simp only at h |-;split at h
     ·rename_i cs bn ck hb
      obtain ⟨bn',ck',fm⟩:=this cs bn ck hb;simp only [fm];exact h
     ·rename_i l hb
      simp only [this2 l hb];exact h
     ·rename_i el2 l fo hb
      obtain ⟨el',fm⟩:=this3 el2 l fo hb;simp only [fm];exact h
     exact h.elim
    exact h.elim
   exact h.elim
  exact h.elim
 | _=>exact h
def Zo1 {T:Tab} {t:TypeId} {x:PV} {lo hi:Option PV} {K:PV->Prop} (h:VQ T t x lo hi K):∃v,K v/\∀K':PV->Prop,K' v->VQ T t x lo hi K':=by
 unfold VQ at h
 split at h
 ·rename_i hk
  split at h
  ·obtain ⟨a,b,h1,h2⟩:=ZcP h;exact ⟨_,h1,fun K' h'=>by simp only [VQ,hk];exact h2 (fun a b=>K' _) h'⟩
  exact h.elim
 ·rename_i el hk
  split at h
  ·exact h.elim
  rename_i bj
  split at h
  ·rename_i rows bw
   obtain ⟨hw,h⟩:=h;obtain ⟨a,b,h1,h2⟩:=ZcP h;refine ⟨_,h1,fun K' h'=>?_⟩;unfold VQ
   rw [hk];dsimp only
   cases f8:(T.get el).kind
   case other=>exact absurd f8 bj
   all_goals (dsimp only;rw [bw];exact ⟨hw,h2 (fun a b=>K' _) h'⟩)
  exact h.elim
 ·rename_i n el hk
  split at h
  ·exact h.elim
  rename_i bj
  split at h
  ·refine ⟨_,h,fun K' h'=>?_⟩;unfold VQ
   rw [hk];dsimp only
   cases f8:(T.get el).kind
   case other=>exact absurd f8 bj
   all_goals exact h'
  ·rename_i j6 qw
   obtain ⟨g1,g2,h⟩:=h;refine ⟨_,h,fun K' h'=>?_⟩;unfold VQ
   rw [hk];dsimp only
   cases f8:(T.get el).kind
   case other=>exact absurd f8 bj
   all_goals exact ⟨g1,g2,h'⟩
  exact h.elim
 exact h.elim
def ZjI {T:Tab} {fs:List (Nat×Nat)} {ρ:Operand->PV}:∀{ps:List (Nat×Operand)} {cs:List PV} {K:List PV->Prop},Yb T fs ρ ps cs K->∃v,K v/\∀K':List PV->Prop,K' v->Yb T fs ρ ps cs K'
 | [],cs,K,h=>⟨cs,h,fun K' h'=>h'⟩
 | (i,x)::ps,cs,K,h=>by
  simp only [Yb] at h;split at h
  ·split at h
   ·exact h.elim
   ·obtain ⟨v,h1,h2⟩:=ZjI h;exact ⟨v,h1,fun K' h'=>by have:=h2 K' h';simp only [Yb, *]⟩
   exact h.elim
  exact h.elim
def Zz5 {T:Tab} {o:Op} {ty:TypeId} {ρ:Operand->PV} {bx:List Box} {K:PV->Prop} (h:qop T o ty ρ bx K):∃v,K v/\∀K':PV->Prop,K' v->qop T o ty ρ bx K':=by
 unfold qop at h
 split at h
 case h_5=>obtain ⟨v,h1,h2⟩:=Zf9 h;exact ⟨v,h1,fun K' h'=>h2 K' h'⟩
 case h_6=>obtain ⟨v,h1,h2⟩:=Zm2 h;exact ⟨v,h1,fun K' h'=>h2 K' h'⟩
 case h_8=>obtain ⟨v,h1,h2⟩:=ZvM h;exact ⟨v,h1,fun K' h'=>h2 K' h'⟩
 case h_15=>obtain ⟨v,h1,h2⟩:=Zo1 h;exact ⟨v,h1,fun K' h'=>h2 K' h'⟩
 case h_4 =>
  split at h
  ·rename_i fs hk;obtain ⟨v,h1,h2⟩:=ZjI h;exact ⟨_,h1,fun K' h'=>by simp only [qop,hk];exact h2 (fun cs=>K' (.agg cs)) h'⟩
  ·rename_i n el hk
   split at h
   ·exact h.elim
   rename_i bj
   split at h
   ·rename_i cm
    obtain ⟨v,h1,h2⟩:=ZjI h;refine ⟨_,h1,fun K' h'=>?_⟩;have h3:=h2 (fun cs=>K' (.agg cs)) h';simp only [qop,hk]
    cases qe:(T.get el).kind
    case other=>exact absurd qe bj
    all_goals (simp only [cm];exact h3)
   exact h.elim
  exact h.elim
 case h_3 =>
  split at h
  ·rename_i t bu
   cases t
   ·exact ⟨_,h,fun K' h'=>by simp only [qop,bu];exact h'⟩
   exact ⟨_,h,fun K' h'=>by simp only [qop,bu];exact h'⟩
  exact h.elim
 all_goals (repeat' split at h) <;> first
  | exact h.elim
  | exact ⟨_,h,fun K' h'=>by first | (simp only [qop, *];exact h') | (simp only [qop, *])⟩
  | (obtain ⟨v,h1,h2⟩:=Zcg h;exact ⟨_,h1,fun K' h'=>by first | (simp only [qop, *];exact h2 K' h') | (simp only [qop, *])⟩)
  | (obtain ⟨h1,h2⟩:=h;exact ⟨_,h2,fun K' h'=>by simp only [qop, *];exact ⟨h1,h'⟩⟩)
  | (obtain ⟨h0,h1,h2⟩:=h;exact ⟨_,h2,fun K' h'=>by first | (simp only [qop, *];exact ⟨h0,h1,h'⟩) | (simp only [qop, *];exact ⟨trivial,trivial,h'⟩)⟩)
  | skip
 ·rename_i h1 _ h2 _ h3 _ rows h4
  obtain ⟨l,hl,hK⟩:=h;exact ⟨_,hK,fun K' h'=>by simp only [qop,h1,h2,h3,h4];exact ⟨l,hl,h'⟩⟩
 ·rename_i h1 _ h2 _ s h3
  obtain ⟨h4,h5,hK⟩:=h;exact ⟨_,hK,fun K' h'=>by simp only [qop,h1,h2,h3];exact ⟨h4,h5,h'⟩⟩
 ·rename_i hi _ m el hk _ cs hx _ ha _ l hl
  obtain ⟨h4,h5,hK⟩:=h;exact ⟨_,hK,fun K' h'=>by simp only [qop,hi,hk,hx,ha,hl];exact ⟨h4,h5,h'⟩⟩
 ·rename_i hi _ m el hk _ cs hx _ ha _ ho _ hs _ v hv
  obtain ⟨h4,h5,hK⟩:=h;refine ⟨_,hK,fun K' h'=>?_⟩;simp only [qop,hi,hk,hx,ha]
  cases f8:(T.get el).kind
  case other=>exact absurd f8 ho
  all_goals (simp only [hs,hv];exact ⟨h4,h5,h'⟩)
 ·rename_i hi _ el hk _ ho _ b off m hx
  exact mq112
 ·rename_i hi _ el hk _ ho _ ah _ rows hr
  obtain ⟨r,h4,h5,h6⟩:=h;split at h6
  ·rename_i h7
   refine ⟨_,h6,fun K' h'=>?_⟩;simp only [qop,hi,hk]
   cases f8:(T.get el).kind
   case other=>exact absurd f8 ho
   all_goals
    split
    ·rename_i bm;rw [hr] at bm;cases bm;exact ⟨r,h4,h5,by simp only [h7];exact h'⟩
    rename_i bm;exact (bm _ hr).elim
  exact h6.elim
 rename_i hi _ m el hk _ ho _ b off hx
 exact mq112
def Zm3 {T:Tab} {o:Op} {ty:TypeId} {ρ:Operand->PV} {bx:List Box} {K:PV->Prop} (h1:Zjz T o=none) (h2:∀t n ps,o=.buildSlice t n ps->False) (h3:∀t l c,o=.makeSlice t l c->False):Zf1 T o ty ρ bx K=qop T o ty ρ bx K:=by
 unfold Zf1
 rw [h1]
 cases o <;> first | rfl | exact (h2 _ _ _ rfl).elim | exact (h3 _ _ _ rfl).elim
def Zo2 {T:Tab} {o:Op} {ty:TypeId} {ρ:Operand->PV} {bx:List Box} {K:PV->Prop} (h:Zf1 T o ty ρ bx K):∃v,K v/\∀K':PV->Prop,K' v->Zf1 T o ty ρ bx K':=by
 unfold Zf1 at h
 split at h
 ·rename_i x hx
  split at h
  ·rename_i s bu
   exact ⟨_,h,fun K' h'=>by unfold Zf1;rw [hx];simp only [bu];exact h'⟩
  exact h.elim
 rename_i hx
 split at h
 ·rename_i t n ps
  (repeat' split at h) <;> first
   | exact h.elim
   | (refine ⟨_,h,fun K' h'=>?_⟩;unfold Zf1;rw [hx];simp only [*])
 ·rename_i t l c
  (repeat' split at h) <;> first
   | exact h.elim
   | (obtain ⟨rfl,q2,q3,q4,h⟩:=h;refine ⟨_,h,fun K' h'=>?_⟩;unfold Zf1;rw [hx];simp only [*];exact ⟨by simp_all,by simp_all,by simp_all,by simp_all,by first | exact h' | trivial⟩)
 rename_i jo wh
 obtain ⟨v,h1,h2⟩:=Zz5 h;exact ⟨v,h1,fun K' h'=>by rw [Zm3 hx jo wh];exact h2 K' h'⟩
def ZjJ {bx bx':List Box} {b off n:Nat} (h:ZY bx b off n=ZY bx' b off n) {t:TypeId} {cs:List PV} (hb:bx[b]?=some (.cells t cs)) :
  ∃t' cs',bx'[b]?=some (.cells t' cs')/\(cs.drop off).take n=(cs'.drop off).take n:=by
 unfold ZY at h
 rw [hb] at h;simp only at h;split at h
 ·rename_i t' cs' fm;exact ⟨t',cs',fm,(Prod.mk.inj (Prod.mk.inj (Option.some.inj h)).2).1⟩
 ·cases h
 ·cases h
 ·cases h
 cases h
def ZcQ {α:Type}:∀{n:Nat} {l m:List α},l.take n=m.take n->WZ n l=WZ n m
 | 0,_,_,_=>rfl
 | n+1,[],[],_=>rfl
 | n+1,[],y::m,h=>by simp at h
 | n+1,x::l,[],h=>by simp at h
 | n+1,x::l,y::m,h=>by
  simp only [List.take_succ_cons,List.cons.injEq] at h;obtain ⟨rfl,h⟩:=h;simp only [WZ,ZcQ h]
def ZjK {T:Tab} {t:TypeId} {x:PV} {bx bx':List Box} {K:PV->Prop} (ba:(T.get t).kind≠.other->(T.get t).kind.isAgg=false->(T.get t).size=1) (hl:∀b off,x=.ptr b off->ZY bx b off (T.get t).size=ZY bx' b off (T.get t).size)
  (h:Jh T t x bx K):Jh T t x bx' K:=by
 unfold Jh at h |-
 split at h
 ·rename_i b off
  have hc:=hl b off rfl;split at h
  ·rename_i ty cs hb
   obtain ⟨t',cs',fm,rf⟩:=ZjJ hc hb;simp only [fm];split at h
   ·rename_i hk
    rw [<- ZcQ rf];exact h
   rename_i hk
   have h1:(T.get t).kind≠.other->cs[off]?=cs'[off]?:=fun ho=>by
    have hp:=ba ho hk;have:=congrArg (·[0]?) rf
    simpa [SG,hp] using this
   cases bj:(T.get t).kind <;> rw [bj] at h <;> simp only at h |- <;> first | exact h.elim | (rw [<- h1 (by rw [bj];simp)];exact h)
  exact h.elim
 ·exact h
 exact h.elim
def Zo3 {T:Tab} {o:Op} {ty:TypeId} {ρ ρ':Operand->PV} {bx bx':List Box} {K:PV->Prop} (hρ:∀x,x∈o.operands->ρ x=ρ' x)
  (ba:∀t,(T.get t).kind≠.other->(T.get t).kind.isAgg=false->(T.get t).size=1)
  (hl:∀b off n,Zsj T o ρ=some (b,off,n)->ZY bx b off n=ZY bx' b off n) (h:qop T o ty ρ bx K):qop T o ty ρ' bx' K:=by
 cases o with
 | load t a =>
  have ha:ρ a=ρ' a:=hρ a oP;simp only [qop] at h |-;rw [<- ha];exact ZjK (ba t) (fun b off hx=>hl b off _ (by simp only [Zsj,hx])) h
 | lookup t m k ok =>
  simp only [qop] at h |-;rw [<- hρ m oP,<- hρ k oP];exact Zga (fun b hx=>hl b 0 0 (by simp only [Zsj,hx])) h
 | build t ps =>
  simp only [qop] at h |-;have fillC:∀fs (l:List (Nat×Operand)),(∀p∈l,ρ p.2=ρ' p.2)->∀cs (K:List PV->Prop),Yb T fs ρ l cs K->Yb T fs ρ' l cs K:=by
    intro fs l
    induction l with
    | nil=>intro _ cs K h;exact h
    | cons p l ih =>
    intro hp cs K h
    obtain ⟨i,x⟩:=p;simp only [Yb] at h |-;rw [<- hp (i,x) sM];split at h
    ·rename_i h1 h2
     split at h
     ·exact h.elim
     ·rename_i h3 h4 h5
      simp only [h1,h2,h3,h4]
      cases qe:(T.get _).kind
      case other=>exact absurd qe h5
      all_goals exact ih (fun q hq=>hp q (by simp [hq])) _ _ h
     exact h.elim
    exact h.elim
  have s8:∀p∈ps.toList,ρ p.2=ρ' p.2:=fun p hp=>hρ p.2 (by simp only [Op.operands];exact TL.2 (by simp only [Sl];exact ⟨p,hp,rfl⟩))
  split at h
  ·exact fillC _ ps.toList s8 _ _ h
  ·rename_i n el hk
   split at h
   ·exact h.elim
   rename_i bj
   split at h
   ·rename_i cm
    cases qe:(T.get el).kind
    case other=>exact absurd qe bj
    all_goals (exact fillC _ ps.toList s8 _ _ h)
   exact h.elim
  exact h.elim
 | slice t x lo hi mx =>
  cases mx with
  | some _=>exact h
  | none =>
  simp only [qop] at h |-;have h1:ρ x=ρ' x:=hρ x oP;have h2:lo.map ρ=lo.map ρ':=by cases lo with | none=>rfl | some a=>simp [hρ a oP]
  have h3:hi.map ρ=hi.map ρ':=by cases hi with | none=>rfl | some a=>simp [hρ a oP]
  rw [<- h1,<- h2,<- h3];exact h
 | makeFunc fn a c =>
  cases fn with
  | func g =>
   simp only [qop] at h |-;have h1:a.toList.map ρ=a.toList.map ρ':=Su fun x hx=>hρ x (by simp only [Op.operands,Array.mem_append];exact .inl (TL.2 hx))
   have h2:c.toList.map ρ=c.toList.map ρ':=Su fun x hx=>hρ x (by simp only [Op.operands,Array.mem_append];exact .inr (TL.2 hx))
   rw [<- h1,<- h2];exact h
  | _=>exact h
 | call c =>
  obtain ⟨callee,args,argTypes⟩:=c
  cases callee with
  | builtin b =>
   simp only [qop] at h |-;have h1:args.toList.map ρ=args.toList.map ρ':=Su fun x hx=>hρ x (by simp only [Op.operands,Call.operands,Array.empty_append];exact TL.2 hx)
   rw [<- h1];split at h
   ·rename_i t ts v wm be
    split at h
    ·exact h
    ·exact h
    ·rename_i hk
     split at h
     ·exact h
     ·rename_i b
      have hc:=hl b 0 0 (by simp only [Zsj,be]);split at h
      ·rename_i cs bn ck hb
       unfold ZY at hc
       rw [hb] at hc;simp only at hc;split at hc
       ·cases hc
       ·rename_i cs' bn' ck' fm;cases hc;simp only [fm];exact h
       ·cases hc
       ·cases hc
       cases hc
      ·rename_i m hb
       unfold ZY at hc
       rw [hb] at hc;simp only at hc;split at hc
       ·cases hc
       ·cases hc
       ·rename_i fm;cases hc;simp only [fm];exact h
       ·cases hc
       cases hc
      exact h.elim
     exact h.elim
    exact h.elim
   ·exact h
   ·exact h
   exact h.elim
  | _=>exact h
 | move x=>simp only [qop] at h |-;rw [<- hρ x oP];exact h
 | assign x=>simp only [qop] at h |-;rw [<- hρ x oP];exact h
 | pick c a b=>simp only [qop] at h |-;rw [<- hρ c oP,<- hρ a oP,<- hρ b oP];exact h
 | nilCheck x=>simp only [qop] at h |-;rw [<- hρ x oP];exact h
 | binOp op t x y yt=>simp only [qop] at h |-;rw [<- hρ x oP,<- hρ y oP];exact h
 | unOp op t x=>simp only [qop] at h |-;rw [<- hρ x oP];exact h
 | convert s d x=>simp only [qop] at h |-;rw [<- hρ x oP];exact h
 | fieldAddr s x i=>simp only [qop] at h |-;rw [<- hρ x oP];exact h
 | field s x i=>simp only [qop] at h |-;rw [<- hρ x oP];exact h
 | index t x i=>simp only [qop] at h |-;rw [<- hρ x oP,<- hρ i oP];exact h
 | indexAddr t x i=>simp only [qop] at h |-;rw [<- hρ x oP,<- hρ i oP];exact h
 | extract x i=>simp only [qop] at h |-;rw [<- hρ x oP];exact h
 | makeInterface t x=>simp only [qop] at h |-;rw [<- hρ x oP];exact h
 | typeAssert x xt t b=>cases b <;> simp only [qop] at h |- <;> first | exact h.elim | (rw [<- hρ x oP];exact h)
 | _=>exact h
def Zgb {T:Tab} {o:Op} {x:Operand} (h:Zjz T o=some x):x∈o.operands/\∀t a,o≠.load t a:=by
 unfold Zjz at h
 split at h
 ·(repeat' split at h) <;> first | cases h;done | (cases h;exact ⟨oP,fun t a hh=>by cases hh⟩)
 cases h
def U6 {w:Nat} {ρ ρ':Operand->PV}:∀{ps:List (Nat×Operand)} (_:∀p∈ps,ρ p.2=ρ' p.2) (rows:List (List D)),XY w ρ ps rows=XY w ρ' ps rows
 | [],_,_=>rfl
 | (i,x)::ps,h,rows=>by
  simp only [XY];rw [<- h (i,x) sM]
  cases ZjA (ρ x) with
  | none=>rfl
  | some r =>
  have ih:=U6 (w:=w) (ρ:=ρ) (ρ':=ρ') (ps:=ps) (fun p hp=>h p (Tx _ hp)) (rows.set i r);simp only [ih]
def Ze5 {T:Tab} {o:Op} {ty:TypeId} {ρ ρ':Operand->PV} {bx bx':List Box} {K:PV->Prop} (hρ:∀x,x∈o.operands->ρ x=ρ' x)
  (ba:∀t,(T.get t).kind≠.other->(T.get t).kind.isAgg=false->(T.get t).size=1)
  (hl:∀b off n,Zsj T o ρ=some (b,off,n)->ZY bx b off n=ZY bx' b off n) (h:Zf1 T o ty ρ bx K):Zf1 T o ty ρ' bx' K:=by
 unfold Zf1 at h |-
 split at h
 ·rename_i x hx
  rw [<- hρ x (Zgb hx).1];exact h
 rename_i hx
 split at h
 ·rename_i t n ps
  have:∀w rows,XY w ρ ps.toList rows=XY w ρ' ps.toList rows:=fun w rows=>U6 (fun p hp=>hρ p.2 (by simp only [Op.operands];exact TL.2 (by simp only [Sl];exact ⟨p,hp,rfl⟩))) rows
  simp only [ZaG,this] at h |-;exact h
 ·rename_i t l c
  rw [<- hρ l oP,<- hρ c oP];exact h
 exact Zo3 hρ ba hl h
def Zo4 {T:Tab} {o:Op} {ρ ρ':Operand->PV} {σ:St} {K:PV->St->Prop} (hρ:∀x,x∈o.operands->ρ x=ρ' x) (h:eop T o ρ σ K):eop T o ρ' σ K:=by
 cases o with
 | box e x=>simp only [eop] at h |-;rw [<- hρ x oP];exact h
 | store t a x=>simp only [eop] at h |-;rw [<- hρ a oP,<- hρ x oP];exact h
 | mapUpdate t a x v=>simp only [eop] at h |-;rw [<- hρ a oP,<- hρ x oP,<- hρ v oP];exact h
 | insert t a x v=>simp only [eop] at h |-;rw [<- hρ a oP,<- hρ x oP,<- hρ v oP];exact h
 | makeMap t r=>cases r <;> exact h
 | range t x=>simp only [eop] at h |-;rw [<- hρ x oP];exact h
 | next x b=>cases b <;> simp only [eop] at h |- <;> first | exact h | (rw [<- hρ x oP];exact h)
 | call c =>
  obtain ⟨callee,args,argTypes⟩:=c
  cases callee with
  | builtin b =>
   cases b with
   | append =>
    simp only [eop] at h |-;have h1:args.toList.map ρ=args.toList.map ρ':=Su fun x hx=>hρ x (by simp only [Op.operands,Call.operands,Array.empty_append];exact TL.2 hx)
    rw [<- h1];exact h
   | _=>exact h
  | _=>exact h
 | _=>exact h
end Go.PM
end
