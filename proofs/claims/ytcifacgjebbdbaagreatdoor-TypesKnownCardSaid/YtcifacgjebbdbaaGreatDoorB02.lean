/- A part of the proof: plain logic, contracts and laws over the given program. -/
import Derived.RangeFuncRecord
import Derived.Deep.AppendSrc
import Derived.Deep.Upon
import Derived.Lib.OthersKept
import Derived.Lib.ConvBytes
import Derived.OrdersIn
import Derived.Test.YtcifacgjebbdbaaGreatDoorB01
set_option linter.unusedVariables false
set_option linter.unusedSimpArgs false
set_option linter.all false
set_option maxRecDepth 100000
set_option maxHeartbeats 16000000
section
namespace Go.PM
section
variable {G:GE} {e:Env} {σ:St} {w:World} {T:Tab}
structure Grows (w w1:World):Prop where
 os:w1.os=w.os
 tape:w1.tape=w.tape
 output:w1.output=w.output
 size:w.heap.size<=w1.heap.size
 old:∀b,b<w.heap.size->w1.heap[b]?=w.heap[b]?
def Grows.refl (w:World):Grows w w:=⟨rfl,rfl,rfl,Tz _,fun _ _=>rfl⟩
def Grows.trans {a b c:World} (h:Grows a b) (k:Grows b c):Grows a c :=
 ⟨k.os.trans h.os,k.tape.trans h.tape,k.output.trans h.output,Sa h.size k.size,fun i hi=>(k.old i (TF hi h.size)).trans (h.old i hi)⟩
def Grows.alloc (w:World) (o:Obj):Grows w (w.alloc o):=⟨rfl,rfl,rfl,by simp only [World.alloc,Array.size_push];omega,fun i hi=>heap_alloc_old w o i hi⟩
def Grows.drew (w:World):Grows w w.drew:=⟨rfl,rfl,rfl,Tz _,fun _ _=>rfl⟩
def Grows.cell {w w1:World} (h:Grows w w1) {b off:Nat} (hb:b<w.heap.size):w1.cell? ⟨b,off,none⟩=w.cell? ⟨b,off,none⟩:=by simp [World.cell?,h.old b hb]
def Grows.stepped {w1:World} (h:Grows w w1) (e:Env) (σ:St):Stepped e σ w e σ w1 where
 len:=Tz _
 beta:=fun _ _=>rfl
 X:=fun _ _ h=>h
 pres:=fun b off u hc ho=>⟨ho,(h.cell (VE hc)).trans hc⟩
 blocks:=fun b hb _ _ _=>h.old b hb
 size:=h.size
 os:=h.os
 tape:=h.tape
 output:=h.output
 fresh:=fun i h1 h2=>oM
 ftok:=fun t ht p hp=>.inr (.inl ⟨t,ht,p,hp,rfl⟩)
 fhid:=fun b h=>.inr (.inr h)
 nx:=Tz _
 toks:=fun _ _ ht=>⟨ht,rfl⟩
 own:=fun _ _ _ _ _ hp=>h.old _ hp
def SRel.keepG (hS:SRel G e σ w) {w1:World} (h:Grows w w1) (bb:Nat):HKeep e w e w1 bb:=fun b q hq _=>⟨hq,h.old _ (hS.hid b q hq).2.1⟩
def SRel.grow (hS:SRel G e σ w) {w1:World} (h:Grows w w1):SRel G e σ w1 where
 inj:=hS.inj
 box:=fun i x hx=>(hS.box i x hx).step (h.stepped e σ) (h.old _ (hS.lt (Tk.1 hx).1)) (hS.keepG h _)
 low:=hS.low
 tkn:=hS.tkn
 own:=fun t ht p hp=>by
  obtain ⟨h1,h2,cs,ty,fz,h3⟩:=hS.own t ht p hp;exact ⟨h1,h2,cs,ty,fz,(h.old _ (To.1 h3).1).trans h3⟩
 dis:=hS.dis
 xown:=hS.xown
 xlt:=fun b off hx=>TF (hS.xlt b off hx) h.size
 hid:=fun b q hq=>let ⟨h1,h2,h3⟩:=hS.hid b q hq;⟨h1,TF h2 h.size,h3⟩
 glob:=fun b hb=>(h.old b (TF hb hS.big)).trans (hS.glob b hb)
 big:=Sa hS.big h.size
def SRel.fresh_okc (hS:SRel G e σ w) (off:Nat):okc e σ w.heap.size off:=by
 refine ⟨fun hX=>?_,fun k hk=>?_,fun t ht p hp uf=>?_,fun q hq=>?_⟩
 ·have:=hS.xlt _ _ hX;omega
 ·have:=hS.lt hk;omega
 ·obtain ⟨_,_,cs,ty,fz,hh⟩:=hS.own t ht p hp;have:=(To.1 hh).1;omega
 have:=(hS.hid _ _ hq).2.1;omega
def Env.more (e:Env) (n b:Nat):Env:={ e with β:=fun i=>if i=n then b else e.β i }
def ZED (σ:St) (x:Box):(σ.new x).bx.length=σ.bx.length+1:=by simp [St.new]
def Ug (hS:SRel G e σ w) (x:Box) (ob:Obj) (hob:∀e1 σ1 w1,Stepped e σ w e1 σ1 w1->w1.heap[w.heap.size]?=some ob->BRel G e1 σ1 w1 x w.heap.size) :
  Stepped e σ w (e.more σ.bx.length w.heap.size) (σ.new x) (w.alloc ob)/\SRel G (e.more σ.bx.length w.heap.size) (σ.new x) (w.alloc ob) /\
   VRel G (e.more σ.bx.length w.heap.size) (σ.new x) (w.alloc ob) (.ptr σ.bx.length 0) (.pointer (some ⟨w.heap.size,0,none⟩)):=by
 have hg:=Grows.alloc w ob;have hβ:∀i,i<σ.bx.length->(e.more σ.bx.length w.heap.size).β i=e.β i:=fun i hi=>by simp only [Env.more];rw [Tf oM]
 have qm:(e.more σ.bx.length w.heap.size).β σ.bx.length=w.heap.size:=by simp [Env.more]
 have hst:Stepped e σ w (e.more σ.bx.length w.heap.size) (σ.new x) (w.alloc ob):={
  len:=by rw [ZED];omega
  beta:=hβ
  X:=fun _ _ h=>h
  pres:=fun b off u hc ho=>⟨⟨ho.1,fun i hi=>by
    have hb:=VE hc;rw [ZED] at hi
    by_cases h:i=σ.bx.length
    ·rw [h,qm];omega
    rw [hβ i oM];exact ho.2.1 i oM,ho.2.2⟩,(hg.cell (VE hc)).trans hc⟩
  blocks:=fun b hb _ _ _=>hg.old b hb
  size:=hg.size
  os:=rfl
  tape:=rfl
  output:=rfl
  fresh:=fun i h1 h2=>by
   rw [ZED] at h2;rw [show i=σ.bx.length by omega,qm];exact Tz _
  ftok:=fun t ht p hp=>.inr (.inl ⟨t,ht,p,hp,rfl⟩)
  fhid:=fun b h=>.inr (.inr h)
  nx:=Tz _
  toks:=fun _ _ ht=>⟨ht,rfl⟩
  own:=fun _ _ _ _ _ hp=>hg.old _ hp }
 refine ⟨hst,?_,?_⟩
 ·exact {
   inj:=fun i j hi hj jk=>by
    rw [ZED] at hi hj
    by_cases h1:i=σ.bx.length <;> by_cases h2:j=σ.bx.length
    ·omega
    ·rw [h1,qm,hβ j oM] at jk;have:=hS.lt (i:=j) oM;omega
    ·rw [h2,qm,hβ i oM] at jk;have:=hS.lt (i:=i) oM;omega
    rw [hβ i oM,hβ j oM] at jk;exact hS.inj i j oM oM jk
   box:=fun i y hy=>by
    have hi:=(Tk.1 hy).1;rw [ZED] at hi
    by_cases h1:i=σ.bx.length
    ·subst h1;rw [qm];simp [St.new] at hy;subst hy;exact hob _ _ _ hst (heap_alloc_new w ob)
    have fj:i<σ.bx.length:=by omega
    rw [hβ i fj];simp only [St.new,TU fj] at hy;exact (hS.box i y hy).step hst (hg.old _ (hS.lt fj)) (hS.keepG hg _)
   low:=fun i hi=>by
    rw [ZED] at hi
    by_cases h1:i=σ.bx.length
    ·rw [h1,qm];exact hS.big
    rw [hβ i oM];exact hS.low i oM
   tkn:=hS.tkn
   own:=fun t ht p hp=>by
    obtain ⟨h1,h2,cs,ty,fz,h3⟩:=hS.own t ht p hp;have ab:=(To.1 h3).1;refine ⟨h1,fun i hi=>?_,cs,ty,fz,(hg.old _ ab).trans h3⟩;rw [ZED] at hi
    by_cases h4:i=σ.bx.length
    ·rw [h4,qm];omega
    rw [hβ i oM];exact h2 i oM
   dis:=hS.dis
   xown:=hS.xown
   xlt:=fun b off hx=>TF (hS.xlt b off hx) hg.size
   hid:=fun b q hq=>by
    obtain ⟨h1,h2,h3,h4⟩:=hS.hid b q hq;refine ⟨h1,TF h2 hg.size,fun i hi=>?_,h4⟩;rw [ZED] at hi
    by_cases h5:i=σ.bx.length
    ·rw [h5,qm];omega
    rw [hβ i oM];exact h3 i oM
   glob:=fun b hb=>(hg.old b (TF hb hS.big)).trans (hS.glob b hb)
   big:=Sa hS.big hg.size }
 have:=VRel.ptr (G:=G) (e:=e.more σ.bx.length w.heap.size) (σ:=σ.new x) (w:=w.alloc ob) σ.bx.length 0 (by rw [ZED];omega)
 rwa [qm] at this
def ZcQ (hS:SRel G e σ w) (t:TypeId) (cs:List PV) (vs:Array Value) (hs:vs.size=cs.length) (hr:∀(i:Nat) (x:PV) (u:Value),cs[i]?=some x->vs[i]?=some u->VRel G e σ w x u/\u.oneCell'=true) :
  Stepped e σ w (e.more σ.bx.length w.heap.size) (σ.new (.cells t cs)) (w.alloc (.cells vs t))/\SRel G (e.more σ.bx.length w.heap.size) (σ.new (.cells t cs)) (w.alloc (.cells vs t)) /\
   VRel G (e.more σ.bx.length w.heap.size) (σ.new (.cells t cs)) (w.alloc (.cells vs t)) (.ptr σ.bx.length 0) (.pointer (some ⟨w.heap.size,0,none⟩)) :=
 Ug hS (.cells t cs) (.cells vs t) (fun _ _ _ hst hh=>⟨vs,hh,hs,fun i x u hx hu=>⟨(hr i x u hx hu).1.step hst,(hr i x u hx hu).2⟩⟩)
def ZnR (P:Program) (ρ':Operand->Value) (o:Oper) (w:World) (v:Value) (w1:World):Prop :=
 (execOp ρ' o).run P w=.ok (.value v) w1\/((execOp ρ' o).run P w=.ok .skip w1/\v=Go.undef)
def Zu0 {G:GE} {e:Env} {σ:St} {w:World} {T:Tab} {t:TypeId} {x:PV} {v:Value} (h:VRel G e σ w x v):VRel G e σ w (asT T t x) v:=by
 unfold asT
 split
 ·cases h
  split
  ·exact .nils _
  exact .nils _
 exact h
def YZ (b:Nat):∀(vs:List Value) (o:Nat) (w:World) (cs:Array Value) (ty:TypeId) (fz:Nat×Nat),w.heap[b]?=some (.cells cs ty fz) ->
  ∃cs',(w.setCells b o vs).heap[b]?=some (.cells cs' ty fz)/\cs'.size=cs.size/\∀i,cs'[i]?=if o<=i/\i<o+vs.length/\i<cs.size then vs[i - o]? else cs[i]?
 | [],o,w,cs,ty,fz,h=>⟨cs,h,rfl,fun i=>by rw [Tf];simp;omega⟩
 | v::vs,o,w,cs,ty,fz,h=>by
  have h1:(w.setCell ⟨b,o,none⟩ v).heap[b]?=some (.cells (cs.setIfInBounds o v) ty fz):=by
   simp [World.setCell,SF,h]
  obtain ⟨cs',h2,h3,h4⟩:=YZ b vs (o+1) _ _ ty fz h1;refine ⟨cs',h2,by rw [h3];simp,fun i=>?_⟩;rw [h4];simp only [Array.size_setIfInBounds,Td,T3]
  by_cases hi:o+1<=i/\i<o+1+vs.length/\i<cs.size
  ·rw [Th hi,Th ⟨oM,oM,oM⟩,show i - o=(i - (o+1))+1 by omega,TV]
  rw [Tf hi]
  by_cases h5:o=i
  ·subst h5
   by_cases h6:o<cs.size
   ·rw [Th rfl,Th h6,Th ⟨oM,oM,h6⟩];simp
   rw [Th rfl,Tf h6,Tf oM];simp [h6]
  rw [Tf h5,Tf oM]
def XD (b:Nat):∀(vs:List Value) (o:Nat) (w:World),(w.setCells b o vs).heap.size=w.heap.size
 | [],_,_=>rfl
 | v::vs,o,w=>by
  show ((w.setCell ⟨b,o,none⟩ v).setCells b (o+1) vs).heap.size=_;rw [XD b vs];simp [World.setCell]
def YL (b:Nat):∀(vs:List Value) (o:Nat) (w:World),(w.setCells b o vs).os=w.os/\(w.setCells b o vs).tape=w.tape/\(w.setCells b o vs).output=w.output/\∀k,k≠b->(w.setCells b o vs).heap[k]?=w.heap[k]?
 | [],_,_=>⟨rfl,rfl,rfl,fun _ _=>rfl⟩
 | v::vs,o,w=>by
  obtain ⟨h1,h2,h3,h4⟩:=YL b vs (o+1) (w.setCell ⟨b,o,none⟩ v);exact ⟨h1,h2,h3,fun k hk=>(h4 k hk).trans (RowKit.Below.heap_setCell w ⟨b,o,none⟩ v k hk)⟩
def Uh (hS:SRel G e σ w) {b:Nat} {x x':Box} (hb:σ.bx[b]?=some x) {w1:World} (r1:w1.os=w.os) (r2:w1.tape=w.tape) (r3:w1.output=w.output) (hsz:w1.heap.size=w.heap.size) (r4:∀k,k≠e.β b->w1.heap[k]?=w.heap[k]?)
  (il:Stepped e σ w e (σ.set b x') w1->BRel G e (σ.set b x') w1 x' (e.β b)):Stepped e σ w e (σ.set b x') w1/\SRel G e (σ.set b x') w1:=by
 have cp:b<σ.bx.length:=(Tk.1 hb).1;have ei:(σ.set b x').bx.length=σ.bx.length:=by simp [St.set]
 have hst:Stepped e σ w e (σ.set b x') w1:={
  len:=by rw [ei];exact Tz _
  beta:=fun _ _=>rfl
  X:=fun _ _ h=>h
  pres:=fun k o u hk ho=>⟨⟨ho.1,fun j hj=>ho.2.1 j (by rw [ei] at hj;exact hj),ho.2.2⟩,by simpa [World.cell?,r4 k (fun h=>ho.2.1 b cp h.symm)] using hk⟩
  blocks:=fun k hk qn _ _=>r4 k (fun h=>qn b cp h.symm)
  size:=by rw [hsz];exact Tz _
  os:=r1
  tape:=r2
  output:=r3
  fresh:=fun i h1 h2=>by rw [ei] at h2;omega
  ftok:=fun t ht p hp=>.inr (.inl ⟨t,ht,p,hp,rfl⟩)
  fhid:=fun b h=>.inr (.inr h)
  nx:=Tz _
  toks:=fun _ _ ht=>⟨ht,rfl⟩
  own:=fun t' hn ht p hp ab=>r4 _ (fun h=>(hS.own t' ht p hp).2.1 b cp h.symm) }
 refine ⟨hst,?_⟩;exact {
  inj:=fun i j hi hj=>hS.inj i j (by rw [ei] at hi;exact hi) (by rw [ei] at hj;exact hj)
  box:=fun k y hy=>by
   by_cases hkb:k=b
   ·subst hkb;have:y=x':=by
     simp only [St.set,List.getElem?_set_self cp] at hy;exact (Option.some.inj hy).symm
    subst this;exact il hst
   have hy':σ.bx[k]?=some y:=by
    simp only [St.set] at hy
    rwa [List.getElem?_set_ne (fun h=>hkb h.symm)] at hy
   have hkl:=(Tk.1 hy').1;exact (hS.box k y hy').step hst (r4 _ (fun h=>hkb (hS.inj k b hkl cp h))) fun k2 q hq _=>⟨hq,r4 _ (fun h=>(hS.hid k2 q hq).2.2.1 b cp h.symm)⟩
  low:=fun i hi=>hS.low i (by rw [ei] at hi;exact hi)
  tkn:=hS.tkn
  own:=fun t' ht p hp=>by
   obtain ⟨q1,q2,cs2,ty2,fz2,q3⟩:=hS.own t' ht p hp;refine ⟨q1,fun i hi=>q2 i (by rw [ei] at hi;exact hi),cs2,ty2,fz2,(r4 _ (fun h=>q2 b cp h.symm)).trans q3⟩
  dis:=hS.dis
  xown:=hS.xown
  xlt:=fun k o hx=>by rw [hsz];exact hS.xlt k o hx
  hid:=fun k q hq=>by
   obtain ⟨h1,h2,h3,h4⟩:=hS.hid k q hq;exact ⟨h1,by rw [hsz];exact h2,fun i hi=>h3 i (by rw [ei] at hi;exact hi),h4⟩
  glob:=fun k hk=>(r4 k (fun h=>by have:=hS.low b cp;omega)).trans (hS.glob k hk)
  big:=by rw [hsz];exact hS.big }
def Jz (hT:TabOK T G.P) (hS:SRel G e σ w) {t:TypeId} {b off:Nat} {x:PV} {v:Value} {l cs:List PV} {ty:TypeId} (hb:σ.bx[b]?=some (.cells ty cs)) (hx:VRel G e σ w x v) (hl:x.cells=some l)
  (aa:l.length=(T.get t).size) (ot:off+l.length<=cs.length) (hk:(T.get t).kind≠.other) :
  ∃w1,(Instr.storeAt t (.pointer (some ⟨e.β b,off,none⟩)) v).run G.P w=.ok () w1/\Stepped e σ w e (σ.set b (.cells ty (Z6 cs off l))) w1/\SRel G e (σ.set b (.cells ty (Z6 cs off l))) w1:=by
 obtain ⟨i,d,z,hi,hd,hs,dy,aw,hz,dc,_⟩:=(hT.get hk).ex;have cp:b<σ.bx.length:=(Tk.1 hb).1;obtain ⟨vs,kz,oi,ye⟩:=hS.box b _ hb;obtain ⟨dh,bj⟩:=Vg hx hl;have hvc:v.cells.toList.length=l.length:=by simpa using dh
 have lg:∀u∈v.cells.toList,u.oneCell'=true:=fun u hu=>by
  exact mq160
 have aj:=run_storeCells_cells (P:=G.P) (e.β b) off v.cells.toList 0 w (fun j hj=>by
   have:off+j<vs.size:=oM;simp [World.cell?,kz,this]) (fun j hj=>by simp [World.frozen?,kz]) lg
 simp only [Sl] at aj;obtain ⟨r1,r2,r3,r4⟩:=YL (e.β b) v.cells.toList off w;obtain ⟨cs',h1,h2,h3⟩:=YZ (e.β b) v.cells.toList off w vs ty (0,0) kz;refine ⟨_,?_,Uh hS hb r1 r2 r3 (XD _ _ _ _) r4 fun hst=>?_⟩
 ·have j9:v.cells.size=i.size:=by rw [dh,aa,hs]
  exact mq67
 refine ⟨cs',h1,by rw [h2,oi,Xf],fun j x u f5 hu=>?_⟩;rw [WU] at f5;rw [h3,hvc] at hu
 by_cases po:off<=j/\j<off+l.length/\j<cs.length
 ·rw [Th po] at f5;rw [Th ⟨po.1,po.2.1,oM⟩,Tx] at hu;obtain ⟨q1,q2⟩:=bj _ x u f5 hu;exact ⟨q1.step hst,q2⟩
 rw [Tf po] at f5;rw [Tf oM] at hu;obtain ⟨q1,q2⟩:=ye j x u f5 hu;exact ⟨q1.step hst,q2⟩
def Zmd (hS:SRel G e σ w) {b:Nat} {s:List UInt8} {pos:Nat} (hb:σ.bx[b]?=some (.iter s pos)) (ty:TypeId) {K:PV->St->Prop}
  (h:CondP (decide (pos<s.length)) (K (.tuple [.d (.bool true),.d (.int .i64 pos),.d (.int .i32 (decodeL s pos).1)]) (σ.set b (.iter s (pos+(decodeL s pos).2)))) (K (.tuple [.d (.bool false)]) σ)) :
  ∃pv σ1 v w1,K pv σ1/\(Instr.next (.pointer (some ⟨e.β b,0,none⟩)) true ty).run G.P w=.ok v w1/\Stepped e σ w e σ1 w1/\SRel G e σ1 w1/\VRel G e σ1 w1 pv v:=by
 have cp:b<σ.bx.length:=(Tk.1 hb).1;have nk:w.heap[e.β b]?=some (.stringIter ⟨s.toArray⟩ pos):=hS.box b _ hb
 by_cases hp:pos<s.length
 ·have:decide (pos<s.length)=true:=by simp [hp]
  rw [this] at h;refine ⟨_,_,_,_,h,Lib.run_next_any_at w (e.β b) ⟨s.toArray⟩ pos ty nk hp,?_⟩;have lh:∀k,k≠e.β b->(w.iterAt (e.β b) ⟨s.toArray⟩ (pos+(Utf8.decode ⟨s.toArray⟩ pos).2)).heap[k]?=w.heap[k]?:=fun k hk=>Lib.iterAt_other w (e.β b) k _ _ hk
  obtain ⟨g1,g2⟩:=Uh (x':=.iter s (pos+(decodeL s pos).2)) hS hb (w1:=w.iterAt (e.β b) ⟨s.toArray⟩ (pos+(Utf8.decode ⟨s.toArray⟩ pos).2)) rfl rfl rfl (by rw [Lib.iterAt_size]) lh fun _=>Lib.iterAt_heap w (e.β b) _ pos _ nk
  refine ⟨g1,g2,?_⟩;refine .tuple _ _ rfl (fun i x u hx hu=>?_)
  match i with
  | 0=>cases hx;cases hu;exact .mkbool
  | 1=>cases hx;cases hu;exact .mkint
  | 2=>cases hx;cases hu;exact .mkint
  | n+3=>cases hx
 have:decide (pos<s.length)=false:=by simp [hp]
 rw [this] at h;refine ⟨_,_,_,_,h,Lib.run_next_end_at w (e.β b) ⟨s.toArray⟩ pos ty nk hp,.refl _ _ _,hS,.tuple _ _ rfl (fun i x u hx hu=>?_)⟩
 match i with
 | 0=>cases hx;cases hu;exact .mkbool
 | n+1=>cases hx
structure Flat (ok:Nat->Nat->Prop) (w:World) (rows:List (List D)) (sz:Nat) (xs:List Value):Prop where
 len:xs.length=rows.length * sz
 wid:∀r∈rows,r.length=sz
 rel:∀(a b:Nat) (y:D) (u:Value),b<sz->(rows[a]?.bind (·[b]?))=some y->xs[a * sz+b]?=some u->DRel ok w y u
def Flat.mono {ok ok':Nat->Nat->Prop} {w w':World} {rows:List (List D)} {sz:Nat} {xs:List Value} (h:Flat ok w rows sz xs) (hp:∀(y:D) (u:Value),DRel ok w y u->DRel ok' w' y u):Flat ok' w' rows sz xs :=
 ⟨h.len,h.wid,fun a b y u hb hy hu=>hp y u (h.rel a b y u hb hy hu)⟩
def Flat.nil (ok:Nat->Nat->Prop) (w:World) (sz:Nat):Flat ok w [] sz []:=⟨sM,fun r h=>(by cases h),fun a b y u _ hy=>by simp at hy⟩
def Flat.append {ok:Nat->Nat->Prop} {w:World} {r1 r2:List (List D)} {sz:Nat} {x1 x2:List Value} (h1:Flat ok w r1 sz x1) (h2:Flat ok w r2 sz x2):Flat ok w (r1++r2) sz (x1++x2):=by
 refine ⟨by rw [Ta,Ta,h1.len,h2.len,Sp],fun r hr=>?_,fun a b y u hb hy hu=>?_⟩
 ·rcases TJ.1 hr with h | h
  ·exact h1.wid r h
  exact h2.wid r h
 by_cases ha:a<r1.length
 ·rw [TU ha] at hy;have ab:a * sz+b<x1.length:=by
   rw [h1.len]
   calc a * sz+b<a * sz+sz:=by omega
    _=(a+1) * sz:=by rw [Sp,Nat.one_mul]
    _<=r1.length * sz:=T4 _ ha
  rw [TU ab] at hu;exact h1.rel a b y u hb hy hu
 have ug:r1.length<=a:=by omega
 rw [T5 ug] at hy;have jn:x1.length<=a * sz+b:=by
  rw [h1.len];exact Sa (T4 _ ug) (Nat.le_add_right _ _)
 rw [T5 jn,h1.len] at hu;refine h2.rel (a - r1.length) b y u hb hy ?_;rw [<- hu]
 congr 1
 rw [Nat.sub_mul];have:=T4 sz ug;omega
def ZEI {ok:Nat->Nat->Prop} {w:World} {rows:List (List D)} {b off cap sz:Nat} (hsz:∀r∈rows,r.length=sz) (ba:0<sz) (h:DRel ok w (.sl rows) (.slice (some ⟨b,off,none⟩) rows.length cap)) :
  ∃xs,Flat ok w rows sz xs/\(∀(k:Nat) (u:Value),xs[k]?=some u->w.cell? ⟨b,off+k,none⟩=some u)/\(∀k,k<xs.length->ok b (off+k))/\∀u∈xs,u.oneCell'=true:=by
 cases h with
 | slz=>exact ⟨[],.nil _ _ _,fun k u h=>by simp at h,fun k h=>by simp at h,fun u h=>by cases h⟩
 | sl rows b off cap sz' u hcap jm hc ho hu =>
 by_cases hr:rows=[]
 ·subst hr;exact ⟨[],.nil _ _ _,fun k u h=>by simp at h,fun k h=>by simp at h,fun u h=>by cases h⟩
 have yc:sz'=sz:=by
  cases rows with
  | nil=>exact absurd rfl hr
  | cons r l=>rw [<- jm r sM,hsz r sM]
 subst yc;have hk:∀k,k<rows.length * sz'->k / sz'<rows.length/\k % sz'<sz'/\k / sz' * sz'+k % sz'=k:=fun k hk =>
  ⟨(Nat.div_lt_iff_lt_mul ba).2 hk,Nat.mod_lt _ ba,by rw [Nat.mul_comm];exact Nat.div_add_mod k sz'⟩
 have j6:∀k,k<rows.length * sz'->∃y,(rows[k / sz']?.bind (·[k % sz']?))=some y/\DRel ok w y (u (k / sz') (k % sz')):=fun k h=>by
  obtain ⟨h1,h2,h3⟩:=hk k h;have h4:(rows[k / sz']).length=sz':=jm _ (TE _);have h5:(rows[k / sz']?.bind (·[k % sz']?))=some ((rows[k / sz'])[k % sz']):=by
   rw [Tb h1];simp only [Option.bind_some];rw [Tb oM]
  exact ⟨_,h5,hu _ _ _ h5⟩
 refine ⟨(List.range (rows.length * sz')).map fun k=>u (k / sz') (k % sz'),⟨sM,jm,fun a b' y v hb hy hv=>?_⟩,fun k v hv=>?_,fun k h=>?_,fun v hv=>?_⟩
 ·rw [Tj] at hv;have ha:a<rows.length:=by
   rcases Nat.lt_or_ge a rows.length with h | h
   ·exact h
   rw [T7 h] at hy;cases hy
  have ab:a * sz'+b'<rows.length * sz':=by
   calc a * sz'+b'<a * sz'+sz':=by omega
    _=(a+1) * sz':=by rw [Sp,Nat.one_mul]
    _<=rows.length * sz':=T4 _ ha
  rw [List.getElem?_range ab] at hv;have hd:(a * sz'+b') / sz'=a:=by rw [Nat.mul_comm,Nat.mul_add_div ba,Nat.div_eq_of_lt hb];omega
  have hm:(a * sz'+b') % sz'=b':=by rw [Nat.mul_comm,Nat.mul_add_mod,Nat.mod_eq_of_lt hb]
  simp only [Sc,hd,hm] at hv
  cases hv
  exact hu a b' y hy
 ·rw [Tj] at hv
  by_cases ab:k<rows.length * sz'
  ·rw [List.getElem?_range ab] at hv
   cases hv
   obtain ⟨h1,h2,h3⟩:=hk k ab;have:=hc _ _ h1 h2
   rwa [Sk,h3] at this
  rw [T7 (by simpa using ab)] at hv;cases hv
 ·simp only [Te,List.length_range] at h;obtain ⟨h1,h2,h3⟩:=hk k h;have:=ho _ _ h1 h2
  rwa [Sk,h3] at this
 obtain ⟨k,my,rfl⟩:=Ss.1 hv;obtain ⟨y,_,hy⟩:=j6 k (List.mem_range.1 my);exact hy.one
def Flat.to_sl {ok:Nat->Nat->Prop} {w:World} {rows:List (List D)} {sz:Nat} {xs:List Value} (h:Flat ok w rows sz xs) (b off cap:Nat) (hcap:rows.length<=cap)
  (hc:∀(k:Nat) (u:Value),xs[k]?=some u->w.cell? ⟨b,off+k,none⟩=some u) (ho:∀k,k<xs.length->ok b (off+k)):DRel ok w (.sl rows) (.slice (some ⟨b,off,none⟩) rows.length cap):=by
 have ab:∀i j,i<rows.length->j<sz->i * sz+j<xs.length:=fun i j hi hj=>by
  rw [h.len]
  calc i * sz+j<i * sz+sz:=by omega
   _=(i+1) * sz:=by rw [Sp,Nat.one_mul]
   _<=rows.length * sz:=T4 _ hi
 refine .sl rows b off cap sz (fun i j=>xs.getD (i * sz+j) Go.undef) hcap h.wid (fun i j hi hj=>?_) (fun i j hi hj=>?_) (fun i j x hx=>?_)
 ·have h1:=ab i j hi hj;rw [Sk];exact hc _ _ (by simp [List.getD,Tb h1])
 ·rw [Sk];exact ho _ (ab i j hi hj)
 have hi:i<rows.length:=by
  rcases Nat.lt_or_ge i rows.length with h | h
  ·exact h
  rw [T7 h] at hx;cases hx
 have hj:j<sz:=by
  rw [Tb hi] at hx;have:=(Tk.1 hx).1
  rwa [h.wid _ (TE _)] at this
 exact h.rel i j x _ hj hx (by simp [List.getD,Tb (ab i j hi hj)])
def Zuk (hT:TabOK T G.P) {tx el:Nat} {px:PV} {vx:Value} {more:List (List D)} {sz:Nat} (hm:VD T tx el px=some more) (hx:VRel G e σ w px vx) (hsz:∀r∈more,r.length=sz) (ba:0<sz)
  (hel:sz=(T.get el).size):∃news,Src G.P sz tx vx more.length news w/\Flat (okc e σ) w more sz news:=by
 unfold VD at hm
 split at hm
 ·rename_i hk
  obtain ⟨i,d,z,hi,hd,hs,dy,aw,hz,dc,_⟩:=(hT.get (t:=tx) (by rw [hk];simp)).ex;rw [hk] at aw;cases aw;split at hm
  ·rename_i be
   split at hm
   ·rename_i s
    cases hm
    have hv:=hx.dstr;subst hv;have aa:(s.map fun b:UInt8=>[D.int .u8 b.toNat]).length=(⟨s.toArray⟩:ByteArray).size:=by simp;rfl
    have fp:∀sz',sz'=1->Flat (okc e σ) w (s.map fun b:UInt8=>[D.int .u8 b.toNat]) sz' (byteCells ⟨s.toArray⟩):=by
     rintro _ rfl
     refine ⟨by rw [byteCells_length,aa,Nat.mul_one],fun r hr=>?_,fun a b y u hb hy hu=>?_⟩
     ·obtain ⟨_,_,rfl⟩:=Ss.1 hr;rfl
     have d0:b=0:=by omega
     subst d0;simp only [Nat.mul_one,Sl,byteCells,Tj] at hu;rw [Tj] at hy
     cases hq:s[a]? with
     | none=>rw [hq] at hy;cases hy
     | some q =>
     rw [hq] at hy;simp at hy hu;rw [hq] at hu;simp at hu;subst hy;subst hu;exact .int _ _
    by_cases tj:s=[]
    ·subst tj;refine ⟨[],⟨.inr hd,fun _=>rfl,?_,?_,sM,fun u h=>by cases h⟩,.nil _ _ _⟩
     ·simp [Builtin.firstCells]
     simp [Builtin.firstCells]
    have h1:sz=1:=by
     cases s with
     | nil=>exact absurd rfl tj
     | cons b l=>exact (hsz [.int .u8 b.toNat] sM).symm
    subst h1;rw [aa];exact ⟨byteCells ⟨s.toArray⟩,Src.ofString w hd _,fp 1 rfl⟩
   cases hm
  cases hm
 ·rename_i e' hk
  obtain ⟨i,d,z,hi,hd,hs,dy,aw,hz,dc,_⟩:=(hT.get (t:=tx) (by rw [hk];simp)).ex;rw [hk] at aw;cases aw;split at hm
  ·rename_i rows bq
   cases hm
   have hD:=Wq bq hx;generalize hg:D.sl more=dd at hD
   cases hD with
   | slnil=>cases hg;exact ⟨[],Src.ofNil w hd 0,.nil _ _ _⟩
   | slz ad=>cases hg;exact ⟨[],Src.ofSlice w hd ad 0 0 [] sM (fun j u hj=>by cases hj) (fun u h=>by cases h),.nil _ _ _⟩
   | sl rows b off cap sz' u hcap jm hc ho hu =>
    cases hg
    obtain ⟨xs,h1,h2,h3,h4⟩:=ZEI hsz ba (DRel.sl more b off cap sz' u hcap jm hc ho hu);exact ⟨xs,Src.ofSlice w hd ⟨b,off,none⟩ more.length cap xs h1.len (fun j u hj=>by rw [Yd];exact h2 j u hj) h4,h1⟩
   | _=>cases hg
  cases hm
 cases hm
def Ys (t:Nat):∀(l:List Nat),Zhn t l=true↔t∈l
 | []=>by simp [Zhn]
 | x::l=>by
  unfold Zhn
  split
  ·rename_i h;have:=Tp h;simp [this]
  rename_i h
  rw [Ys t l];have:x≠t:=fun h'=>by subst h';simp at h
  simp [Ne.symm this]
def X8 (t x:Nat):∀(l:List Nat),x∈Jd t l↔x∈l/\x≠t
 | []=>by simp [Jd]
 | y::l=>by
  unfold Jd
  split
  ·rename_i h
   have:=Tp h;subst this;rw [X8 y x l]
   constructor
   ·exact fun h=>⟨TA _ h.1,h.2⟩
   rintro ⟨h1,h2⟩
   rcases Tv.1 h1 with h | h
   ·exact absurd h h2
   exact ⟨h,h2⟩
  rename_i h
  have ai:y≠t:=fun h'=>by subst h';simp at h
  rw [Tv,Tv,X8 t x l]
  constructor
  ·rintro (rfl | h)
   ·exact ⟨.inl rfl,ai⟩
   exact ⟨.inr h.1,h.2⟩
  rintro ⟨rfl | h1,h2⟩
  ·exact .inl rfl
  exact .inr ⟨h1,h2⟩
def Env.own (e:Env) (t:Nat) (p:Option (Nat×Nat)):Env:={ e with M:=fun i=>if i=t then p else e.M i }
def Ze1 (hT:TabOK T G.P) (hS:SRel G e σ w) {t tx el ty:Nat} (mz:(T.get t).kind=.slice el) (dq:(T.get el).kind≠.other) (ba:0<(T.get el).size)
  {rows more:List (List D)} {v vx:Value} {news:List Value} (hD:DRel (okc e σ) w (.sl rows) v)
  (np:∀r∈rows,r.length=(T.get el).size)
  (hO : (v = .slice none 0 0 /\ rows = []) \/ ∃ b off cap cs ty fz, v = .slice (some ⟨b, off, none⟩) rows.length cap /\ G.nG <= b /\ rows.length <= cap /\ w.heap[b]? = some (.cells cs ty fz) /\ (off + cap * (T.get el).size <= cs.size /\ off = 0 /\ ty = el /\ 0 < cap) /\
     (fz.1<=fz.2/\∀o,off+rows.length * (T.get el).size<=o->fz.1<=o->fz.2<=o)/\(∀i,i<σ.bx.length->e.β i≠b))
  (li:Src G.P (T.get el).size tx vx more.length news w) (d7:Flat (okc e σ) w more (T.get el).size news)
  (ka:(rows.length+more.length) * (T.get el).bytes<=2 ^ 47) (aa:rows.length+more.length<=2 ^ 47) :
  ∃v' w1,(Builtin.append_ #[t,tx] ty #[v,vx]).run G.P w=.ok v' w1/\w1.os=w.os/\w1.tape=w.tape/\w1.output=w.output/\w.heap.size<=w1.heap.size /\
   (∀b off u,w.cell? ⟨b,off,none⟩=some u->okc e σ b off->w1.cell? ⟨b,off,none⟩=some u\/∃a o c,v=.slice (some ⟨a,o,none⟩) rows.length c/\b=a/\o+rows.length * (T.get el).size<=off) /\
   (∀b,b<w.heap.size->(∀a o c,v=.slice (some ⟨a,o,none⟩) rows.length c->b≠a)->w1.heap[b]?=w.heap[b]?) /\
   ((v'=.slice none 0 0/\rows++more=[])\/∃b off cap cs ty fz,v'=.slice (some ⟨b,off,none⟩) (rows++more).length cap/\G.nG<=b/\(rows++more).length<=cap/\w1.heap[b]?=some (.cells cs ty fz)/\(off+cap * (T.get el).size<=cs.size/\off=0/\ty=el/\0<cap) /\
    (fz.1<=fz.2/\∀o,off+rows.length * (T.get el).size<=o->fz.1<=o->fz.2<=o) /\
    ((∃c,v=.slice (some ⟨b,off,none⟩) rows.length c)\/w.heap.size<=b) /\
    ∃xs,Flat (okc e σ) w (rows++more) (T.get el).size xs/\∀(k:Nat) (u:Value),xs[k]?=some u->w1.cell? ⟨b,off+k,none⟩=some u):=by
 obtain ⟨ti,td,tz,oc,qo,_,_,aw,_,_,_⟩:=(hT.get (t:=t) (by rw [mz];simp)).ex;rw [mz] at aw;cases aw;obtain ⟨i,d,z,hi,hd,hs,dy,bh,hz,dc,l4,_⟩:=(hT.get dq).ex;have hzc:z.cells.size=(T.get el).size:=by
  have:=(XG (G:=G) (e:=e) (σ:=σ) (w:=w) dc).1;rw [<- l4,<- this];simp
 rw [<- hs] at li;have hsm:((rows.length+more.length:Nat):Int)<=9223372036854775807:=oM;have jl:(rows.length+more.length) * i.bytes<=140737488355328:=by rw [dy];omega
 have grow:∀(base:Option Addr) (cap:Nat) (olds:List Value),(Builtin.firstCells i.size rows.length (.slice base rows.length cap)).run G.P w.drew=.ok olds.toArray w.drew->Flat (okc e σ) w rows (T.get el).size olds->cap<rows.length+more.length ->
   ∃v' w1,(Builtin.append_ #[t,tx] ty #[.slice base rows.length cap,vx]).run G.P w=.ok v' w1/\Grows w w1 /\
    ∃b off cap cs ty fz,v'=.slice (some ⟨b,off,none⟩) (rows++more).length cap/\G.nG<=b/\(rows++more).length<=cap/\w1.heap[b]?=some (.cells cs ty fz)/\(off+cap * (T.get el).size<=cs.size/\off=0/\ty=el/\0<cap) /\
     (fz.1<=fz.2/\∀o,off+rows.length * (T.get el).size<=o->fz.1<=o->fz.2<=o)/\w.heap.size<=b /\
     ∃xs,Flat (okc e σ) w (rows++more) (T.get el).size xs/\∀(k:Nat) (u:Value),xs[k]?=some u->w1.cell? ⟨b,off+k,none⟩=some u:=by
  intro base cap olds nq fp ab
  have hr:=run_append_grow_src w t tx ty el i z qo hi hz base rows.length cap olds nq vx more.length news li ab hsm (growslice_fits ab jl);refine ⟨_,_,hr,(Grows.drew w).trans (Grows.alloc _ _),w.heap.size,0,grownCap w (rows.length+more.length) cap el,_,el,(0,0),by rw [Ta],hS.big,by rw [Ta];exact grownCap_ge w _ _ _,heap_alloc_new w.drew _,⟨?_,rfl,rfl,by have:=grownCap_ge w (rows.length+more.length) cap el;omega⟩,⟨Tz _,fun o _ _=>Se _⟩,Tz _,olds++news,fp.append d7,fun k u hk=>?_⟩
  ·have jn:=grownCap_ge w (rows.length+more.length) cap el;simp only [Array.size_append,List.size_toArray,Ta,size_zeroCells,hzc,fp.len,d7.len,T9,<- Sp];exact T4 _ oM
  have h1:k<(olds++news).length:=(Tk.1 hk).1;simp only [T9,World.cell?];rw [show (w.drew.alloc _).heap[w.heap.size]?=_ from heap_alloc_new w.drew _];simp only [Option.isSome_none,Tt,if_false];rw [Array.getElem?_append_left (by simpa using h1)];simpa using hk
 rcases hO with ⟨rfl,rfl⟩ | ⟨b,off,cap,cs,tyb,fz,rfl,hb,hc,hh,dk,kx,qn⟩
 ·by_cases hm:more.length=0
  ·have hmn:more=[]:=TY hm;subst hmn;have ek:news=[]:=TY (by rw [d7.len];simp);subst ek;exact ⟨_,w,run_append_nothing w t tx ty el i qo hi none 0 0 (Tz _) vx li,rfl,rfl,rfl,Tz _,fun _ _ _ h _=>.inl h,fun _ _ _=>rfl,.inl ⟨rfl,rfl⟩⟩
  obtain ⟨v',w1,hr,hg,b,off,cap,cs,ty',fz,h1,h2,h3,h4,h5,h6,h7,h8⟩:=grow none 0 [] (run_firstCells_none w.drew i.size 0 0 0) (.nil _ _ _) sO;exact ⟨v',w1,hr,hg.os,hg.tape,hg.output,hg.size,fun b' o' u hu _=>.inl ((hg.cell (VE hu)).trans hu),fun b' gc _=>hg.old b' gc,.inr ⟨b,off,cap,cs,ty',fz,h1,h2,h3,h4,h5,h6,.inr h7,h8⟩⟩
 obtain ⟨olds,ak,ah,am,cf⟩:=ZEI np ba hD
 by_cases lj:rows.length+more.length<=cap
 ·have ot:rows.length * (T.get el).size+news.length<=cap * (T.get el).size:=by
   rw [d7.len,<- Sp];exact T4 _ lj
  have ay:∀k,k<cs.size->(w.cell? ⟨b,k,none⟩).isSome=true:=fun k hk=>by simp [World.cell?,hh,hk]
  have hr:=run_append_room_src w t tx ty el i qo hi b off rows.length cap vx more.length news li lj (fun j hj=>ay _ (by have:=dk.1;rw [hs];omega)) (fun j hj=>by
   simp only [World.frozen?,hh];have h1:=kx.2 (off+rows.length * i.size+j) (by rw [hs];omega)
   by_cases h2:fz.1<=off+rows.length * i.size+j
   ·have:=h1 h2;simp;intro _;omega
   simp;omega)
  rw [hs] at hr;obtain ⟨r1,r2,r3,r4⟩:=YL b news (off+rows.length * (T.get el).size) w;obtain ⟨cs',q1,q2,q3⟩:=YZ b news (off+rows.length * (T.get el).size) w cs tyb fz hh;refine ⟨_,_,hr,r1,r2,r3,by rw [XD];exact Tz _,fun b' o' u hu ho=>?_,fun b' gc hn=>r4 b' (hn b off cap rfl),.inr ⟨b,off,cap,cs',tyb,fz,by rw [Ta],hb,by rw [Ta];exact lj,q1,⟨by rw [q2];exact dk.1,dk.2.1,dk.2.2.1,dk.2.2.2⟩,kx,.inl ⟨cap,rfl⟩,olds++news,ak.append d7,fun k u hk=>?_⟩⟩
  ·by_cases l8:b'=b
   ·subst l8
    by_cases hoo:off+rows.length * (T.get el).size<=o'
    ·exact .inr ⟨b',off,cap,rfl,rfl,hoo⟩
    left
    rw [World.cell?_setCells_out b' news _ w ⟨b',o',none⟩ (fun _ _=>.inl (by show o'<_;omega))];exact hu
   left;simpa [World.cell?,r4 b' l8] using hu
  by_cases fm:k<olds.length
  ·rw [TU fm] at hk;rw [World.cell?_setCells_out b news _ w ⟨b,off+k,none⟩ (fun _ _=>.inl (by show off+k<_;rw [<- ak.len];omega))];exact ah k u hk
  rw [T5 oM] at hk;have mc:=(Tk.1 hk).1;have:=World.cell?_setCells_in b news (off+rows.length * (T.get el).size) w (fun j hj=>ay _ (by have:=dk.1;omega)) (k - olds.length) mc;exact mq143
 obtain ⟨v',w1,hr,hg,b2,off2,cap2,cs2,ty2,fz2,h1,h2,h3,h4,h5,h6,h7,h8⟩:=grow (some ⟨b,off,none⟩) cap olds (run_firstCells_some w.drew i.size rows.length ⟨b,off,none⟩ rows.length cap olds (by rw [ak.len,hs]) (fun j u hj=>by rw [Yd];exact ah j u hj)) ak oM;exact ⟨v',w1,hr,hg.os,hg.tape,hg.output,hg.size,fun b' o' u hu _=>.inl ((hg.cell (VE hu)).trans hu),fun b' gc _=>hg.old b' gc,.inr ⟨b2,off2,cap2,cs2,ty2,fz2,h1,h2,h3,h4,h5,h6,.inr h7,h8⟩⟩
def UM (hT:TabOK T G.P) (hS:SRel G e σ w) {el:Nat} (dq:(T.get el).kind≠.other) (ba:0<(T.get el).size)
  {rows more:List (List D)} {v v':Value} {w1:World} (hD:DRel (okc e σ) w (.sl rows) v) (tk0:List Nat) (ax:∀x,x∈tk0->x∈σ.tk) (np:∀r∈rows,r.length=(T.get el).size) (hw:∀r∈more,r.length=(T.get el).size)
  (f6:∀a o c,v=.slice (some ⟨a,o,none⟩) rows.length c->∃tok,tok∈σ.tk/\tok∉tk0/\e.M tok=some (a,o+rows.length * (T.get el).size))
  (qp:w1.os=w.os) (lk:w1.tape=w.tape) (kb:w1.output=w.output) (cx:w.heap.size<=w1.heap.size)
  (ay:∀b off u,w.cell? ⟨b,off,none⟩=some u->okc e σ b off->w1.cell? ⟨b,off,none⟩=some u\/∃a o c,v=.slice (some ⟨a,o,none⟩) rows.length c/\b=a/\o+rows.length * (T.get el).size<=off)
  (f7:∀b,b<w.heap.size->(∀a o c,v=.slice (some ⟨a,o,none⟩) rows.length c->b≠a)->w1.heap[b]?=w.heap[b]?)
  (kc:(v'=.slice none 0 0/\rows++more=[])\/∃b off cap cs ty fz,v'=.slice (some ⟨b,off,none⟩) (rows++more).length cap/\G.nG<=b/\(rows++more).length<=cap/\w1.heap[b]?=some (.cells cs ty fz)/\(off+cap * (T.get el).size<=cs.size/\off=0/\ty=el/\0<cap) /\
    (fz.1<=fz.2/\∀o,off+rows.length * (T.get el).size<=o->fz.1<=o->fz.2<=o) /\
    ((∃c,v=.slice (some ⟨b,off,none⟩) rows.length c)\/w.heap.size<=b) /\
    ∃xs,Flat (okc e σ) w (rows++more) (T.get el).size xs/\∀(k:Nat) (u:Value),xs[k]?=some u->w1.cell? ⟨b,off+k,none⟩=some u) :
  ∃e1,Stepped e σ w e1 { σ with tk:=σ.nx::tk0,nx:=σ.nx+1 } w1/\SRel G e1 { σ with tk:=σ.nx::tk0,nx:=σ.nx+1 } w1 /\
   VRel G e1 { σ with tk:=σ.nx::tk0,nx:=σ.nx+1 } w1 (.sl σ.nx el (rows++more)) v':=by
 obtain ⟨i,d,z,hi,hd,hs,dy,bh,hz,dc,l4,_⟩:=(hT.get dq).ex;have jt:∀b off u,w.cell? ⟨b,off,none⟩=some u->okc e σ b off->w1.cell? ⟨b,off,none⟩=some u:=fun b off u hu ho=>by
  rcases ay b off u hu ho with h | ⟨a,o,c,hv,rfl,ar⟩
  ·exact h
  obtain ⟨tok,fx,_,jj⟩:=f6 _ o c hv;have:=ho.2.2.1 tok fx _ jj rfl;simp only at this;omega
 have ju:∀b,b<w.heap.size->(∀t,t∈σ.tk->t∉tk0->∀p,e.M t=some p->p.1≠b)->w1.heap[b]?=w.heap[b]?:=fun b hb hn=>f7 b hb fun a o c hv h=>by
  obtain ⟨tok,fx,la,jj⟩:=f6 a o c hv;exact hn tok fx la _ jj h.symm
 obtain ⟨p,hp,ke,hpn⟩:∃p:Option (Nat×Nat),(p=none\/∃b k,p=some (b,k)/\G.nG<=b/\(∃cs ty fz,w1.heap[b]?=some (.cells cs ty fz))/\((∃a o c,v=.slice (some ⟨a,o,none⟩) rows.length c/\a=b/\o+rows.length * (T.get el).size<=k)\/w.heap.size<=b)) /\
   (∀e1:Env,e1.M σ.nx=p->Owned G e1 w1 σ.nx el (rows++more) v') /\
   (∀b k,p=some (b,k)->True):=by
  rcases kc with ⟨rfl,d8⟩ | ⟨b,off,cap,cs,tyb,fz,rfl,hb,hc,hh,dk,kx,ic,hxs⟩
  ·refine ⟨none,.inl rfl,fun e1 he=>.inl ⟨rfl,d8,he⟩,fun _ _ _=>trivial⟩
  refine ⟨some (b,off+(rows++more).length * (T.get el).size),.inr ⟨b,_,rfl,hb,⟨cs,tyb,fz,hh⟩,?_⟩,fun e1 he=>.inr ⟨i.size,by rw [hi];rfl,oM,fun r hr=>?_,b,off,cap,cs,tyb,fz,rfl,hb,hc,hh,by rw [hs];exact dk,⟨kx.1,fun o ho=>kx.2 o (by rw [hs] at ho;rw [Ta,Sp] at ho;omega)⟩,by rw [hs];exact he⟩,fun _ _ _=>trivial⟩
  ·rcases ic with ⟨c,hv⟩ | h
   ·refine .inl ⟨b,off,c,hv,rfl,?_⟩;rw [Ta,Sp];omega
   exact .inr h
  rw [hs];rcases TJ.1 hr with h | h
  ·exact np r h
  exact hw r h
 have me:∀x,x∈tk0->(e.own σ.nx p).M x=e.M x:=fun x hx=>by
  have:=hS.tkn x (ax x hx);simp only [Env.own];rw [Tf oM]
 have jv:(e.own σ.nx p).M σ.nx=p:=by simp [Env.own]
 have i5:∀b off,b<w.heap.size->okc e σ b off->okc (e.own σ.nx p) { σ with tk:=σ.nx::tk0,nx:=σ.nx+1 } b off:=fun b off hb ho=>by
  refine ⟨ho.1,ho.2.1,fun x hx q hq od=>?_,ho.2.2.2⟩;rcases Tv.1 hx with rfl | hx
  ·rw [jv] at hq;rcases hp with h | ⟨b2,k,h,_,_,ic⟩
   ·rw [h] at hq;cases hq
   rw [h] at hq;cases hq;simp only at od;subst od;rcases ic with ⟨a,o,c,hv,rfl,ar⟩ | jn
   ·obtain ⟨tok,fx,_,jj⟩:=f6 _ o c hv;have:=ho.2.2.1 tok fx _ jj rfl;simp only at this |-;omega
   omega
  rw [me x hx] at hq;exact ho.2.2.1 x (ax x hx) q hq od
 have hst:Stepped e σ w (e.own σ.nx p) { σ with tk:=σ.nx::tk0,nx:=σ.nx+1 } w1:={
  len:=Tz _
  beta:=fun _ _=>rfl
  X:=fun _ _ h=>h
  pres:=fun b off u hu ho=>⟨i5 b off (VE hu) ho,jt b off u hu ho⟩
  blocks:=fun b hb _ hn _=>ju b hb fun t ht _ q hq=>hn t ht q hq
  fhid:=fun b h=>.inr (.inr h)
  size:=cx
  os:=qp
  tape:=lk
  output:=kb
  fresh:=fun i h1 h2=>by simp only at h2;omega
  ftok:=fun x hx q hq=>by
   rcases Tv.1 hx with rfl | h
   ·rw [jv] at hq;rcases hp with h | ⟨b2,k,h,_,_,ic⟩
    ·rw [h] at hq;cases hq
    rw [h] at hq;cases hq;rcases ic with ⟨a,o,c,hv,rfl,_⟩ | jn
    ·obtain ⟨tok,fx,_,jj⟩:=f6 _ o c hv;exact .inr (.inl ⟨tok,fx,_,jj,rfl⟩)
    exact .inl jn
   rw [me x h] at hq;exact .inr (.inl ⟨x,ax x h,q,hq,rfl⟩)
  nx:=by show σ.nx<=σ.nx+1;omega
  toks:=fun x hx hm=>by
   rcases Tv.1 hm with rfl | h
   ·omega
   exact ⟨ax x h,me x h⟩
  own:=fun x hx hm q hq ab=>by
   rcases Tv.1 hm with rfl | h
   ·omega
   refine ju _ ab fun t fx la r hr=>?_
   exact hS.dis t x fx (ax x h) (fun h'=>la (h' ▸ h)) r q hr hq }
 have ll:∀b k,p=some (b,k)->G.nG<=b/\(∀i,i<σ.bx.length->e.β i≠b)/\(∀x,x∈tk0->∀q,e.M x=some q->q.1≠b)/\(∀off,k<=off->¬e.X b off)/\∃cs ty fz,w1.heap[b]?=some (.cells cs ty fz):=fun b k i6=>by
  rcases hp with h | ⟨b2,k2,h,hb,dk,ic⟩
  ·rw [h] at i6;cases i6
  rw [h] at i6;cases i6;refine ⟨hb,fun j hj h'=>?_,fun x hx q hq h'=>?_,fun off ho hX=>?_,dk⟩
  ·rcases ic with ⟨a,o,c,hv,rfl,ar⟩ | jn
   ·obtain ⟨tok,fx,_,jj⟩:=f6 _ o c hv;exact (hS.own tok fx _ jj).2.1 j hj h'
   have:=hS.lt hj;omega
  ·rcases ic with ⟨a,o,c,hv,rfl,ar⟩ | jn
   ·obtain ⟨tok,fx,la,jj⟩:=f6 _ o c hv;exact hS.dis tok x fx (ax x hx) (fun h2=>la (h2 ▸ hx)) _ q jj hq h'.symm
   obtain ⟨_,_,cs,tyy,fz,hh⟩:=hS.own x (ax x hx) q hq;have:=(To.1 hh).1;omega
  rcases ic with ⟨a,o,c,hv,rfl,ar⟩ | jn
  ·obtain ⟨tok,fx,_,jj⟩:=f6 _ o c hv;exact hS.xown tok fx _ jj off (by simp only;omega) hX
  have:=hS.xlt _ _ hX;omega
 have rv:∀b k,p=some (b,k)->∀q,e.H b≠some q:=fun b k i6 q hq=>by
  obtain ⟨_,k2,_,k4,_⟩:=hS.hid b q hq;rcases hp with h | ⟨b2,k2,h,hb,dk,ic⟩
  ·rw [h] at i6;cases i6
  rw [h] at i6;cases i6;rcases ic with ⟨a,o,c,hv,rfl,ar⟩ | jn
  ·obtain ⟨tok,fx,_,jj⟩:=f6 _ o c hv;exact k4 tok fx _ jj rfl
  omega
 have hbH:∀b q,e.H b=some q->w1.heap[b]?=w.heap[b]?:=fun b q hq=>by
  obtain ⟨_,k2,_,k4,_⟩:=hS.hid b q hq;exact ju b k2 fun t ht _ r hr=>k4 t ht r hr
 refine ⟨e.own σ.nx p,hst,?_,?_⟩
 ·exact {
   hid:=fun b q hq=>by
    obtain ⟨k1,k2,k3,k4,k5⟩:=hS.hid b q hq;refine ⟨k1,TF k2 cx,k3,fun x hx r hr=>?_,k5⟩;rcases Tv.1 hx with rfl | h
    ·rw [jv] at hr;exact fun h=>rv r.1 r.2 hr q (by rw [h];exact hq)
    rw [me x h] at hr;exact k4 x (ax x h) r hr
   inj:=hS.inj
   box:=fun k y hy=>by
    have hk:=(Tk.1 hy).1;exact (hS.box k y hy).step hst (ju _ (hS.lt hk) fun t ht _ q hq h=>(hS.own t ht q hq).2.1 k hk h.symm) fun b q hq _=>⟨hq,hbH b q hq⟩
   low:=hS.low
   tkn:=fun x hx=>by
    rcases Tv.1 hx with rfl | h
    ·show σ.nx<σ.nx+1;omega
    have:=hS.tkn x (ax x h);show x<σ.nx+1;omega
   own:=fun x hx q hq=>by
    rcases Tv.1 hx with rfl | h
    ·rw [jv] at hq;obtain ⟨h1,h2,_,_,h3⟩:=ll q.1 q.2 hq;exact ⟨h1,h2,h3⟩
    rw [me x h] at hq;obtain ⟨h1,h2,cs,tyy,fz,hh⟩:=hS.own x (ax x h) q hq;refine ⟨h1,h2,cs,tyy,fz,(ju _ (To.1 hh).1 fun t fx la r hr=>?_).trans hh⟩;exact hS.dis t x fx (ax x h) (fun h'=>la (h' ▸ h)) r q hr hq
   dis:=fun x y hx hy wv q r hq hr=>by
    rcases Tv.1 hx with rfl | h1 <;> rcases Tv.1 hy with rfl | h2
    ·exact absurd rfl wv
    ·rw [jv] at hq;rw [me y h2] at hr;exact fun h=>(ll q.1 q.2 hq).2.2.1 y h2 r hr h.symm
    ·rw [jv] at hr;rw [me x h1] at hq;exact fun h=>(ll r.1 r.2 hr).2.2.1 x h1 q hq h
    rw [me x h1] at hq;rw [me y h2] at hr;exact hS.dis x y (ax x h1) (ax y h2) wv q r hq hr
   xlt:=fun b off hX=>TF (hS.xlt b off hX) cx
   xown:=fun x hx q hq off ho=>by
    rcases Tv.1 hx with rfl | h
    ·rw [jv] at hq;exact (ll q.1 q.2 hq).2.2.2.1 off ho
    rw [me x h] at hq;exact hS.xown x (ax x h) q hq off ho
   glob:=fun b hb=>(ju b (TF hb hS.big) fun t ht _ q hq h=>by have:=(hS.own t ht q hq).1;omega).trans (hS.glob b hb)
   big:=Sa hS.big cx }
 refine .sl _ _ _ _ (by show σ.nx<σ.nx+1;omega) ?_ (fun _=>ke _ jv);rcases kc with ⟨rfl,d8⟩ | ⟨b,off,cap,cs,tyb,fz,rfl,hb,hc,hh,dk,kx,ic,xs,yo,abz⟩
 ·rw [d8];exact .slnil
 have fp:Flat (okc (e.own σ.nx p) { σ with tk:=σ.nx::tk0,nx:=σ.nx+1 }) w1 (rows++more) (T.get el).size xs:=yo.mono fun y u h=>h.later hst.toLater
 refine fp.to_sl b off cap hc abz fun k hk=>?_
 have ab0:=ke (e.own σ.nx p) jv;rcases ab0 with ⟨h1,_⟩ | ⟨sz,ig,mf,hq3,b',off',cap',cs',ty',fz',h1,_,_,_,_,_,yq⟩
 ·cases h1
 cases h1
 rw [jv] at yq;rw [hi] at ig;simp only [Sc,Option.some.injEq] at ig;subst ig;obtain ⟨g1,g2,g3,g4,g5⟩:=ll _ _ yq;rw [yo.len] at hk;refine ⟨fun hX=>?_,g2,fun x hx q hq od=>?_,fun q hq=>absurd hq (rv _ _ yq q)⟩
 ·rcases ic with ⟨c,hv⟩ | jn
  ·obtain ⟨tok,fx,_,jj⟩:=f6 _ off c hv
   by_cases ia:k<rows.length * (T.get el).size
   ·subst hv;obtain ⟨olds,ak,ah,am,cf⟩:=ZEI np ba hD;exact (am k (by rw [ak.len];exact ia)).1 hX
   exact hS.xown tok fx _ jj (off+k) (by simp only;omega) hX
  have:=hS.xlt _ _ hX;omega
 rcases Tv.1 hx with rfl | h
 ·rw [jv,yq] at hq;cases hq;simp only;rw [hs];omega
 rw [me x h] at hq;exact absurd od (g3 x h q hq)
def JA (hT:TabOK T G.P) (hS:SRel G e σ w) {el:Nat} (dq:(T.get el).kind≠.other) {rows:List (List D)} {v:Value} (tk0:List Nat)
  (hO:(v=.slice none 0 0/\rows=[])\/∃tok,tok∈σ.tk/\tok∉tk0/\Owned G e w tok el rows v) :
  ((v = .slice none 0 0 /\ rows = []) \/ ∃ b off cap cs ty fz, v = .slice (some ⟨b, off, none⟩) rows.length cap /\ G.nG <= b /\ rows.length <= cap /\ w.heap[b]? = some (.cells cs ty fz) /\ (off + cap * (T.get el).size <= cs.size /\ off = 0 /\ ty = el /\ 0 < cap) /\
     (fz.1<=fz.2/\∀o,off+rows.length * (T.get el).size<=o->fz.1<=o->fz.2<=o)/\(∀i,i<σ.bx.length->e.β i≠b))/\(∀r∈rows,r.length=(T.get el).size) /\
     (∀a o c,v=.slice (some ⟨a,o,none⟩) rows.length c->∃tok,tok∈σ.tk/\tok∉tk0/\e.M tok=some (a,o+rows.length * (T.get el).size)):=by
 obtain ⟨i,d,z,hi,hd,hs,dy,bh,hz,dc,l4,_⟩:=(hT.get dq).ex;rcases hO with ⟨rfl,rfl⟩ | ⟨tok,fx,la,⟨rfl,rfl,_⟩ | ⟨sz,h1,h2,h3,b,off,cap,cs,tyb,fz,rfl,hb,hc,hh,dk,kx,jj⟩⟩
 ·exact ⟨.inl ⟨rfl,rfl⟩,fun r h=>(by cases h),fun a o c h=>by simp at h⟩
 ·exact ⟨.inl ⟨rfl,rfl⟩,fun r h=>(by cases h),fun a o c h=>by simp at h⟩
 rw [hi] at h1;simp only [Sc,Option.some.injEq] at h1;subst h1;rw [hs] at h3 dk kx jj;exact ⟨.inr ⟨b,off,cap,cs,tyb,fz,rfl,hb,hc,hh,dk,kx,(hS.own tok fx _ jj).2.1⟩,h3,fun a o c hv=>by cases hv;exact ⟨tok,fx,la,jj⟩⟩
def Ze2 (hT:TabOK T G.P) (hS:SRel G e σ w) {t tx el ty:Nat} (mz:(T.get t).kind=.slice el) (dq:(T.get el).kind≠.other) (ba:0<(T.get el).size)
  {rows more:List (List D)} {v vx:Value} {px:PV} (hD:DRel (okc e σ) w (.sl rows) v) (tk0:List Nat) (ax:∀x,x∈tk0->x∈σ.tk)
  (hO:(v=.slice none 0 0/\rows=[])\/∃tok,tok∈σ.tk/\tok∉tk0/\Owned G e w tok el rows v)
  (hm:VD T tx el px=some more) (hx:VRel G e σ w px vx) (hw:∀r∈more,r.length=(T.get el).size)
  (ka:(rows.length+more.length) * (T.get el).bytes<=2 ^ 47) (aa:rows.length+more.length<=2 ^ 47) :
  ∃v' w1 e1,(Builtin.append_ #[t,tx] ty #[v,vx]).run G.P w=.ok v' w1/\Stepped e σ w e1 { σ with tk:=σ.nx::tk0,nx:=σ.nx+1 } w1/\SRel G e1 { σ with tk:=σ.nx::tk0,nx:=σ.nx+1 } w1 /\
   VRel G e1 { σ with tk:=σ.nx::tk0,nx:=σ.nx+1 } w1 (.sl σ.nx el (rows++more)) v':=by
 obtain ⟨i,d,z,hi,hd,hs,dy,bh,hz,dc,l4,_⟩:=(hT.get dq).ex;obtain ⟨news,li,d7⟩:=Zuk hT hm hx hw ba rfl;obtain ⟨yu,np,f6⟩:=JA hT hS dq tk0 hO;obtain ⟨v',w1,aj,qp,lk,kb,cx,ay,f7,kc⟩:=Ze1 (ty:=ty) hT hS mz dq ba hD np yu li d7 ka aa;obtain ⟨e1,h1,h2,h3⟩:=UM hT hS dq ba hD tk0 ax np hw f6 qp lk kb cx ay f7 kc;exact ⟨v',w1,e1,aj,h1,h2,h3⟩
def UN {ok:Nat->Nat->Prop}:∀{l:List PV} {r:List D},ZnA l=some r->r.length=l.length/\∀(i:Nat) (x:PV) (y:D),l[i]?=some x->r[i]?=some y->toD x=some y
 | [],r,h=>by cases h;exact ⟨rfl,fun i x y hx=>by simp at hx⟩
 | v::l,r,h=>by
  simp only [ZnA] at h;split at h
  ·rename_i d hd
   split at h
   ·rename_i r' hr
    cases h
    obtain ⟨h1,h2⟩:=UN (ok:=ok) hr;refine ⟨by simp [h1],fun i x y hx hy=>?_⟩
    cases i with
    | zero=>simp at hx hy;subst hx;subst hy;exact hd
    | succ i=>exact h2 i x y (by simpa using hx) (by simpa using hy)
   cases h
  cases h
def ZhC {ρ:Operand->PV} {ρ':Operand->Value} (hρ:∀x,VRel G e σ w (ρ x) (ρ' x)) {sz:Nat} (ba:0<sz) :
  ∀(ps:List (Nat×Operand)) (rows rows':List (List D)) (vs:Array Value),Flat (okc e σ) w rows sz vs.toList->(∀u∈vs,u.oneCell'=true)->X7 sz ρ ps rows=some rows' ->
   ∃vs':Array Value,Instr.fill (fun i=>some (i * sz,sz)) vs (ps.map fun p=>(p.1,ρ' p.2))=some vs'/\Flat (okc e σ) w rows' sz vs'.toList/\rows'.length=rows.length/\(∀u∈vs',u.oneCell'=true)
 | [],rows,rows',vs,hf,h1,h=>by cases h;exact ⟨vs,rfl,hf,rfl,h1⟩
 | (i,x)::ps,rows,rows',vs,hf,h1,h=>by
  simp only [X7] at h;split at h
  ·rename_i r hr
   split at h
   ·rename_i aa ab
    have e1:=Tp aa;have e2:=Tc ab;unfold Zi0 at hr
    split at hr
    ·rename_i l hl
     obtain ⟨dh,bj⟩:=Vg (hρ x) hl;obtain ⟨eh,co⟩:=UN (ok:=okc e σ) hr;have bv:vs.size=rows.length * sz:=by have:=hf.len;simpa using this
     have hsz:(ρ' x).cells.size=sz:=by rw [dh,<- eh,e1]
     have po:i * sz+sz<=rows.length * sz:=by
      calc i * sz+sz=(i+1) * sz:=by rw [Sp,Nat.one_mul]
       _<=rows.length * sz:=T4 _ e2
     simp only [TD,Instr.fill];rw [Tf (by rw [hsz,bv];simp;omega)];rw [ZnO];have bw:∀k,((((ρ' x).cells.toList.zipIdx 0).foldl (fun cs (p:Value×Nat)=>cs.setIfInBounds (i * sz+p.2) p.1) vs))[k]?=if i * sz<=k/\k<i * sz+sz then (ρ' x).cells[k - i * sz]? else vs[k]?:=fun k=>by
      rw [ZcP];simp only [Sl,Sz,hsz,Tx]
      by_cases hk:i * sz<=k/\k<i * sz+sz
      ·rw [Th hk,Th ⟨hk.1,hk.2,oM⟩]
      rw [Tf hk,Tf oM]
     have cx:((((ρ' x).cells.toList.zipIdx 0).foldl (fun cs (p:Value×Nat)=>cs.setIfInBounds (i * sz+p.2) p.1) vs)).size=vs.size:=ZbM vs (i * sz) (ρ' x).cells.toList 0 vs;generalize ((((ρ' x).cells.toList.zipIdx 0).foldl (fun cs (p:Value×Nat)=>cs.setIfInBounds (i * sz+p.2) p.1) vs))=vs2 at bw cx |-;have uh:Flat (okc e σ) w (rows.set i r) sz vs2.toList:=by
      refine ⟨by rw [Sz,cx,bv,SE],fun r' n9=>?_,fun a b y u hb hy hu=>?_⟩
      ·rcases List.mem_or_eq_of_mem_set n9 with h' | rfl
       ·exact hf.wid r' h'
       exact e1
      rw [Tx,bw] at hu
      by_cases hai:a=i
      ·subst hai;rw [Th ⟨oM,oM⟩,show a * sz+b - a * sz=b by omega] at hu;rw [List.getElem?_set_self oM] at hy;simp only [Option.bind_some] at hy;have cp:b<l.length:=oM;have:=co b l[b] y (Tb cp) hy;exact Wq this (bj b l[b] u (Tb cp) hu).1
      rw [List.getElem?_set_ne (Ne.symm hai)] at hy;have ai:¬(i * sz<=a * sz+b/\a * sz+b<i * sz+sz):=fun hh=>by
       rcases Nat.lt_or_gt_of_ne hai with h' | h'
       ·have:(a+1) * sz<=i * sz:=T4 _ h';rw [Sp,Nat.one_mul] at this;omega
       have:(i+1) * sz<=a * sz:=T4 _ h';rw [Sp,Nat.one_mul] at this;omega
      rw [Tf ai] at hu;exact hf.rel a b y u hb hy (by rw [Tx];exact hu)
     have yv:∀u∈vs2,u.oneCell'=true:=by
      intro u hu
      obtain ⟨k,hk,rfl⟩:=SJ hu;have h3:=bw k;rw [TB hk] at h3
      by_cases be:i * sz<=k/\k<i * sz+sz
      ·rw [Th be] at h3;have cp:k - i * sz<l.length:=oM;exact (bj (k - i * sz) l[k - i * sz] _ (Tb cp) h3.symm).2
      rw [Tf be] at h3;exact h1 _ (Sd h3.symm)
     obtain ⟨vs',q1,q2,q3,q4⟩:=ZhC hρ ba ps (rows.set i r) rows' vs2 uh yv h;exact ⟨vs',q1,q2,by rw [q3,SE],q4⟩
    cases hr
   cases h
  cases h
def Jj (hT:TabOK T G.P) {ρ:Operand->PV} {ρ':Operand->Value} (hρ:∀x,VRel G e σ w (ρ x) (ρ' x)) {t n el:Nat} {ps:Array (Nat×Operand)} {zero:List D} {rows:List (List D)}
  (mz:(T.get t).kind=.slice el) (dq:(T.get el).kind≠.other) (fd:ZnA (T.get el).zero=some zero) (ba:1<=zero.length) (dr:n * zero.length<=16777216) (bq:ZcL zero ρ n ps.toList=some rows) :
  ∃vs',(Instr.buildSlice t n (ps.map fun p=>(p.1,ρ' p.2))).run G.P w=.ok (.slice (some ⟨w.heap.size,0,none⟩) n n) (w.alloc (.cells vs' el))/\Flat (okc e σ) w rows zero.length vs'.toList/\rows.length=n/\zero.length=(T.get el).size:=by
 obtain ⟨ti,td,tz,oc,qo,_,_,aw,_,_,_⟩:=(hT.get (t:=t) (by rw [mz];simp)).ex;rw [mz] at aw;cases aw;obtain ⟨i,d,z,hi,hd,hs,dy,bh,hz,dc,l4,_⟩:=(hT.get dq).ex;obtain ⟨eh,co⟩:=UN (ok:=okc e σ) fd;have qq:i.size=zero.length:=by rw [hs,<- l4,eh]
 obtain ⟨t8,nr⟩:=XG (G:=G) (e:=e) (σ:=σ) (w:=w) dc;have hzc:z.cells.size=zero.length:=by rw [eh,<- t8];simp
 have hsz:0<zero.length:=ba;have h0:Flat (okc e σ) w (List.replicate n zero) zero.length ((Array.range (n * zero.length)).map (fun k=>z.cells[k % z.cells.size]!)).toList:=by
  exact mq24
 have h01:∀u∈(Array.range (n * zero.length)).map (fun k=>z.cells[k % z.cells.size]!),u.oneCell'=true:=fun u hu=>by
  obtain ⟨k,hk,rfl⟩:=Array.mem_map.1 hu;have hm:k % z.cells.size<z.cells.size:=Nat.mod_lt _ oM;rw [getElem!_pos z.cells _ hm];have cp:k % z.cells.size<(T.get el).zero.length:=oM;exact (nr _ _ _ (Tb cp) (by rw [Tx,TB hm])).2
 obtain ⟨vs',q1,q2,q3,q4⟩:=ZhC hρ hsz ps.toList _ rows _ h0 h01 bq;rw [List.length_replicate] at q3;have aj:(Instr.buildSlice t n (ps.map fun p=>(p.1,ρ' p.2))).run G.P w=.ok (.slice (some ⟨w.heap.size,0,none⟩) n n) (w.alloc (.cells vs' el)):=by
  unfold Instr.buildSlice
  simp only [Sem.run_bind,Za qo,Result.andThen,Zw hi,qq];rw [Tf oM];have ui:(ps.map fun p=>(p.1,ρ' p.2)).toList=ps.toList.map fun p=>(p.1,ρ' p.2):=sM
  split
  ·rename_i h0'
   have fq:(Array.range (n * zero.length)).map (fun k=>(#[]:Array Value)[k % (#[]:Array Value).size]!)=(Array.range (n * zero.length)).map (fun k=>z.cells[k % z.cells.size]!):=by
    rw [h0'];simp
   simp only [Sem.run_bind,Sem.run_pure,Result.andThen];rw [fq,ui,q1];exact mq98
  simp only [Sem.run_bind,Sem.run_pure,Result.andThen,zeroValue,Yc hi,hz];rw [ui,q1];exact mq98
 exact ⟨vs',aj,q2,q3,by rw [<- qq,hs]⟩
def Zcc (hT:TabOK T G.P) (hS:SRel G e σ w) {ρ:Operand->PV} {ρ':Operand->Value} (hρ:∀x,VRel G e σ w (ρ x) (ρ' x)) {t n el:Nat} {ps:Array (Nat×Operand)} {zero:List D} {rows:List (List D)}
  (mz:(T.get t).kind=.slice el) (dq:(T.get el).kind≠.other) (fd:ZnA (T.get el).zero=some zero) (ba:1<=zero.length) (dr:n * zero.length<=16777216) (bq:ZcL zero ρ n ps.toList=some rows) :
  ∃v w1,(Instr.buildSlice t n (ps.map fun p=>(p.1,ρ' p.2))).run G.P w=.ok v w1/\Grows w w1/\DRel (okc e σ) w1 (.sl rows) v:=by
 obtain ⟨vs',aj,q2,aa,_⟩:=Jj (ρ':=ρ') hT hρ mz dq fd ba dr bq;refine ⟨_,_,aj,Grows.alloc w _,?_⟩;have hg:=Grows.alloc w (.cells vs' el);have hst:=hg.stepped e σ;have fp:Flat (okc e σ) (w.alloc (.cells vs' el)) rows zero.length vs'.toList:=q2.mono fun y u h=>h.later hst.toLater
 have:=fp.to_sl w.heap.size 0 n oM (fun k u hk=>by
  simp only [World.cell?,T9];rw [heap_alloc_new w (.cells vs' el)];simpa using hk) (fun k hk=>hS.fresh_okc _)
 rwa [aa] at this
def ZcR (hT:TabOK T G.P) (hS:SRel G e σ w) {t n el:Nat} {zero:List D}
  (mz:(T.get t).kind=.slice el) (dq:(T.get el).kind≠.other) (fd:ZnA (T.get el).zero=some zero) (ba:1<=zero.length) (dr:n * zero.length<=16777216) (l8:n * (T.get el).bytes<=16777216) :
  ∃v w1,(Instr.makeSlice t (.int .i64 n) (.int .i64 n)).run G.P w=.ok v w1/\Grows w w1/\DRel (okc e σ) w1 (.sl (List.replicate n zero)) v:=by
 obtain ⟨ti,td,tz,oc,qo,_,_,aw,_,_,_⟩:=(hT.get (t:=t) (by rw [mz];simp)).ex;rw [mz] at aw;cases aw;obtain ⟨i,d,z,hi,hd,hs,dy,bh,hz,dc,l4,_⟩:=(hT.get dq).ex;obtain ⟨eh,co⟩:=UN (ok:=okc e σ) fd;have qq:i.size=zero.length:=by rw [hs,<- l4,eh]
 obtain ⟨t8,nr⟩:=XG (G:=G) (e:=e) (σ:=σ) (w:=w) dc;have hzc:z.cells.size=zero.length:=by rw [eh,<- t8];simp
 have hsz:0<zero.length:=ba;have hn:n<=16777216:=Sa (Nat.le_mul_of_pos_right n hsz) dr;obtain ⟨V,hV⟩:∃V,(Array.range (n * zero.length)).map (fun k=>z.cells[k % z.cells.size]!)=V:=⟨_,rfl⟩
 have h0:Flat (okc e σ) w (List.replicate n zero) zero.length V.toList:=by
  rw [<- hV];exact mq24
 have hwr:IntKind.i64.wrap (n:Int)=n:=by
  unfold IntKind.wrap
  exact mq152
 have ou:(decide ((n:Int)<0) || decide ((i.bytes:Int) * (n:Int)>2 ^ 48))=false:=by
  have:(i.bytes:Int) * (n:Int)=((n * (T.get el).bytes:Nat):Int):=by rw [dy];push_cast;exact Int.mul_comm _ _
  rw [this];simp only [Sg,decide_eq_false_iff_not];exact ⟨oM,oM⟩
 have aj:(Instr.makeSlice t (.int .i64 n) (.int .i64 n)).run G.P w=.ok (.slice (some ⟨w.heap.size,0,none⟩) n n) (w.alloc (.cells V el)):=by
  unfold Instr.makeSlice
  have ha:Sem.run G.P (asIntOf (.int .i64 (n:Int))) w=.ok (.i64,(n:Int)) w:=rfl;have pr:decide ((n:Int)<0)=false:=decide_eq_false oM;have cg:decide ((n:Int)>(n:Int))=false:=decide_eq_false oM;have dl:decide ((i.bytes:Int) * (n:Int)>2 ^ 48)=false:=by
   rw [Sg] at ou;exact ou.2
  have lj:(askRoom (n * i.bytes)).run G.P w=.ok () w:=by
   unfold askRoom
   rw [Tf (by rw [dy];unfold roomBytes;omega)];rfl
  simp only [Sem.run_bind,Za qo,Result.andThen,asInt,Functor.map,Sem.run_pure,Yc hi,ha,hwr,pr,cg,dl,So,Tt,if_false,Ti,lj,Zw hi,qq];split
  ·rename_i h0'
   have fq:(Array.range (n * zero.length)).map (fun k=>(#[]:Array Value)[k % (#[]:Array Value).size]!)=V:=by
    rw [<- hV,h0'];simp
   simp only [Sem.run_bind,Sem.run_pure,Result.andThen];rw [fq];exact mq98
  simp only [Sem.run_bind,Sem.run_pure,Result.andThen,zeroValue,Yc hi,hz];rw [hV];exact mq98
 refine ⟨_,_,aj,Grows.alloc w _,?_⟩;have hg:=Grows.alloc w (.cells V el);have hst:=hg.stepped e σ;have fp:Flat (okc e σ) (w.alloc (.cells V el)) (List.replicate n zero) zero.length V.toList:=h0.mono fun y u h=>h.later hst.toLater
 have:=fp.to_sl w.heap.size 0 n (by rw [List.length_replicate];exact Tz _) (fun k u hk=>by
  simp only [World.cell?,T9];rw [heap_alloc_new w (.cells V el)];simpa using hk) (fun k hk=>hS.fresh_okc _)
 rwa [List.length_replicate] at this
def Zme (hT:TabOK T G.P) (hS:SRel G e σ w) {K:PV->St->Prop} {ρ:Operand->PV} {ρ':Operand->Value} (hρ:∀x,VRel G e σ w (ρ x) (ρ' x)) (o:Oper) (h:Zy0 T o.op ρ σ K) :
  ∃pv σ1 v w1 e1,K pv σ1/\(execOp ρ' o).run G.P w=.ok (.value v) w1/\Stepped e σ w e1 σ1 w1/\SRel G e1 σ1 w1/\VRel G e1 σ1 w1 pv v:=by
 unfold Zy0 at h
 split at h
 ·rename_i t n ps ho
  split at h
  ·rename_i el hk
   split at h
   ·exact h.elim
   rename_i be
   split at h
   ·rename_i zero fd
    split at h
    ·rename_i rows ba dr hn bq
     have hn:=Tc hn;obtain ⟨vs',aj,et,aa,hzs⟩:=Jj (ρ':=ρ') hT hρ hk (fun h0=>be h0) fd (Tc ba) (Tc dr) bq;rw [hzs] at et;have bv:vs'.size=n * (T.get el).size:=by have:=et.len;rw [aa,Sz] at this;exact this
     obtain ⟨e1,h1,h2,h3⟩:=UM (more:=rows) (v':=.slice (some ⟨w.heap.size,0,none⟩) n n) (w1:=w.alloc (.cells vs' el)) hT hS (fun h0=>be h0) (by have:=Tc ba;omega) (.slnil) σ.tk (fun _ h=>h) (fun r hr=>by cases hr) (fun r hr=>et.wid r hr)
      (fun a o c hv=>by simp at hv) rfl rfl rfl (Grows.alloc w _).size (fun b off u hu _=>.inl (by rw [(Grows.alloc w _).cell (VE hu)];exact hu)) (fun b hb _=>heap_alloc_old w _ b hb)
      (.inr ⟨w.heap.size,0,n,vs',el,(0,0),by simp [aa],hS.big,by simp [aa],heap_alloc_new w _,⟨oM,rfl,rfl,oM⟩,⟨Tz _,fun o _ _=>sM⟩,.inr (Tz _),vs'.toList,by simpa using et,fun k u hk=>by
       simp only [World.cell?,T9];rw [heap_alloc_new w (.cells vs' el)];simpa using hk⟩)
     refine ⟨_,_,_,_,e1,h,?_,h1,h2,h3⟩;exact mq120
    exact h.elim
   exact h.elim
  exact h.elim
 ·rename_i s d x ho
  have hx:=hρ x;split at h
  ·rename_i el hk
   obtain ⟨i,ds,z,hi,hd,hs,dy,aw,hz,dc,_⟩:=(hT.get (t:=s) (by rw [hk];simp)).ex;rw [hk] at aw;cases aw;split at h
   ·rename_i b off n be fc oq
    obtain ⟨i2,dd,z2,ac,co,gd,jl,bh,dc,tv,_⟩:=(hT.get (t:=d) (by rw [be];simp)).ex;rw [be] at bh;cases bh;obtain ⟨i3,de,z3,hi3,t7,hs3,yg,ld,t8,abw,_⟩:=(hT.get (t:=el) (by rw [fc];simp)).ex;rw [fc] at ld;cases ld;rw [oq] at hx;split at h
    ·rename_i tb cs ef
     obtain ⟨l,hln,cu,hK⟩:=h;generalize hv:ρ' x=vx at hx
     cases hx with
     | asl _ _ _ hb =>
     refine ⟨_,_,_,_,e,hK,?_,Stepped.refl e σ w,hS,.mkstr⟩;unfold execOp
     simp only [ho,convert,Sem.run_bind,Za hd,Za co,Result.andThen,hv];simp only [Za t7,Sem.run_bind,Result.andThen,ZnP (hS.box b _ ef) cu hln,Sem.run_pure]
    exact h.elim
   exact h.elim
  exact h.elim
 ·rename_i t ho
  split at h
  ·rename_i kt el hk
   split at h
   ·rename_i el2 be
    obtain ⟨h1,h2,h3⟩:=Ug hS (.smap el2 [] none) (.map #[] 0) fun e1 σ1 w1 _ hh=>(by
     refine ⟨#[],⟨[],0,hh,rfl,rfl,fun i u hu=>?_⟩,fun i u x hu hx=>?_,fun kv gu=>?_,List.nodup_nil⟩
     ·simp at hu
     ·simp at hu
     cases gu)
    refine ⟨_,_,.map (some w.heap.size),_,_,h,?_,h1,h2,?_⟩
    ·exact mq151
    have:=VRel.mp (G:=G) (e:=e.more σ.bx.length w.heap.size) (σ:=σ.new (.smap el2 [] none)) (w:=w.alloc (.map #[] 0)) σ.bx.length (by rw [ZED];omega)
    rwa [show (e.more σ.bx.length w.heap.size).β σ.bx.length=w.heap.size by simp [Env.more]] at this
   exact h.elim
  exact h.elim
 exact h.elim
def Zmf (hT:TabOK T G.P) (hS:SRel G e σ w) {K:PV->Prop} {ρ:Operand->PV} {ρ':Operand->Value} (hρ:∀x,VRel G e σ w (ρ x) (ρ' x)) (o:Oper) (h:Zhr T o.op o.type ρ σ.bx K) :
  ∃pv v w1,K pv/\Grows w w1/\VRel G e σ w1 pv v/\(execOp ρ' o).run G.P w=.ok (.value v) w1:=by
 unfold Zhr at h
 split at h
 ·rename_i x hx
  unfold Zl3 at hx
  split at hx
  ·rename_i s d x' ho
   split at hx
   ·rename_i du
    split at hx
    ·rename_i el aw
     split at hx
     ·rename_i hke
      cases hx
      obtain ⟨i1,d1,z1,yk,eh,ni,agc,yw,_⟩:=(hT.get (t:=s) (by rw [du];simp)).ex;obtain ⟨i2,d2,z2,ac,co,gd,jl,bh,_⟩:=(hT.get (t:=d) (by rw [aw];simp)).ex;obtain ⟨i3,d3,z3,hi3,t7,hs3,yg,ld,_⟩:=(hT.get (t:=el) (by rw [hke];simp)).ex;rw [du] at yw;rw [aw] at bh;rw [hke] at ld;obtain rfl:d1=.string:=yw;obtain rfl:d2=.slice el:=bh;obtain rfl:d3=.int .u8:=ld;have hx:=hρ x;split at h
      ·rename_i l bm
       rw [bm] at hx;have hg:Grows w (Lib.bytesWorld w el ⟨l.toArray⟩):=⟨rfl,rfl,rfl,by rw [Lib.bytesWorld_size];omega,fun b hb=>Lib.bytesWorld_at_old w el _ b hb⟩
       refine ⟨_,.slice (some ⟨w.heap.size,0,none⟩) l.length (grownCap w l.length 0 el),_,h,hg,?_,?_⟩
       ·refine .d _ _ ?_;have:=DRel.sl (ok:=okc e σ) (w:=Lib.bytesWorld w el ⟨l.toArray⟩) (l.map fun b:UInt8=>[D.int .u8 b.toNat]) w.heap.size 0 (grownCap w l.length 0 el) 1 (fun i _=>.int .u8 (l.getD i 0).toNat) ?_ ?_ ?_ ?_ ?_
        ·simpa using this
        ·simp only [Te];exact grownCap_ge w l.length 0 el
        ·intro r hr;simp only [Ss] at hr;obtain ⟨b,_,rfl⟩:=hr;rfl
        ·intro i j hi hj
         simp only [Te] at hi;have:j=0:=oM;subst this;simp only [T9,Nat.mul_one,Sl];have:=Lib.bytesWorld_cell w el ⟨l.toArray⟩ i (show i<l.toArray.size by simpa using hi);simpa using this
        ·intro i j hi hj
         exact hS.fresh_okc _
        intro i j y hy
        rw [Tj] at hy
        cases dt:l[i]? with
        | none=>rw [dt] at hy;simp at hy
        | some b =>
        rw [dt] at hy
        cases j with
        | zero=>simp at hy;subst hy;simp only [TS,dt,Sw];exact .int _ _
        | succ j=>simp at hy
       unfold execOp
       simp only [ho,hx.dstr];rw [Sem.run_bind,Lib.run_convert_string_bytes w s d el ⟨l.toArray⟩ eh co t7];rfl
      exact h.elim
     cases hx
    cases hx
   cases hx
  cases hx
 split at h
 ·rename_i t n ps ho
  split at h
  ·rename_i el hk
   split at h
   ·exact h.elim
   rename_i be
   split at h
   ·rename_i zero fd
    split at h
    ·rename_i rows ba dr bq
     obtain ⟨v,w1,aj,hg,hD⟩:=Zcc hT hS hρ hk (fun h0=>be h0) fd (Tc ba) (Tc dr) bq;refine ⟨_,v,w1,h,hg,.d _ _ hD,?_⟩;exact mq120
    exact h.elim
   exact h.elim
  exact h.elim
 ·rename_i t l c ho
  split at h
  ·rename_i el hk
   split at h
   ·exact h.elim
   rename_i be
   split at h
   ·rename_i zero n m fd hl hc
    obtain ⟨rfl,ba,dr,l8,h⟩:=h;obtain ⟨v,w1,aj,hg,hD⟩:=ZcR hT hS hk (fun h0=>be h0) fd ba dr l8;refine ⟨_,v,w1,h,hg,.d _ _ hD,?_⟩;have e1:ρ' l=.int .i64 (n:Int):=by have:=hρ l;rw [hl] at this;exact this.dint
    have e2:ρ' c=.int .i64 (n:Int):=by have:=hρ c;rw [hc] at this;exact this.dint
    unfold execOp
    simp only [ho,Sem.run_bind,e1,e2];rw [aj];rfl
   exact h.elim
  exact h.elim
 obtain ⟨pv,v,h1,h2,h3⟩:=ZnQ hT hS hρ o h;exact ⟨pv,v,w,h1,Grows.refl w,h2,h3⟩
def Ze3 {P:Program} {r ck ck':Nat} {es es':Array MapEntry} (h:w.heap[r]?=some (.map es ck)):(setObj r (.map es' ck')).run P w=.ok () (w.putObj r (.map es' ck')):=by
 simp only [setObj,Sem.run,h,World.putObj]
def MRel.step {e':Env} {σ':St} {w':World} (hs:Stepped e σ w e' σ' w'):∀{cs:List PV} {l:List MapEntry},MRel G e σ w cs l->MRel G e' σ' w' cs l
 | [],[],_=>trivial
 | [],_::_,h=>h.elim
 | .d (.str k)::x::cs,u::l,h=>⟨h.1,h.2.1.step hs,MRel.step hs h.2.2⟩
 | .d (.str _)::_::_,[],h=>h.elim
 | [.d (.str _)],_,h=>by cases h
def MRel.push {k:List UInt8} {x:PV} {u:MapEntry} (h1:u.key=.string ⟨k.toArray⟩) (h2:VRel G e σ w x u.val):∀{cs:List PV} {l:List MapEntry},MRel G e σ w cs l->MRel G e σ w (cs++[.d (.str k),x]) (l++[u])
 | [],[],_=>⟨h1,h2,trivial⟩
 | [],_::_,h=>h.elim
 | .d (.str _)::y::cs,v::l,h=>⟨h.1,h.2.1,MRel.push h1 h2 h.2.2⟩
 | .d (.str _)::_::_,[],h=>h.elim
 | [.d (.str _)],_,h=>by cases h
def Zry {px:PV} {x:MV} {v:Value} (h:ZBR px=some x) (hv:VRel G e σ w px v):VRel G e σ w x.pv v:=by
 unfold ZBR at h
 split at h
 ·rename_i cs
  split at h
  ·rename_i l hl
   cases h
   cases hv with
   | agg _ vs h1 h2 h3 =>
   obtain ⟨g1,g2⟩:=UN (ok:=fun _ _=>True) hl;refine .agg _ vs (by rw [h1,Te,g1]) (fun i y u hy hu=>?_) h3;rw [Tj] at hy;obtain ⟨d,hd,rfl⟩:=TG.1 hy;have hi:=(Tk.1 hd).1;have hc:cs[i]?=some cs[i]:=Tb oM;exact .d _ _ (Wq (g2 i _ d hc hd) (h2 i _ u hc hu))
  cases h
 split at h
 ·rename_i y hy
  cases h
  exact .d _ _ (Wq hy hv)
 cases h
def ZaZ {t el kt:TypeId} (hd:G.P.underlying t=some (.map kt el)) (du:G.P.underlying kt=some .string) {key:List UInt8} {px:PV} {vx:Value} {cs:List PV} {bn:List Nat} {ck b:Nat} (hB:BRel G e σ w (.map cs bn ck) b) (hx:VRel G e σ w px vx) :
  ∃w1,(Instr.mapUpdate t (.map (some b)) (.string ⟨key.toArray⟩) vx).run G.P w=.ok () w1/\(w1.os=w.os/\w1.tape=w.tape/\w1.output=w.output/\w1.heap.size=w.heap.size/\∀k,k≠b->w1.heap[k]?=w.heap[k]?) /\
   ((∃cs',Zl4 key px cs=some cs'/\∀σ1,Stepped e σ w e σ1 w1->BRel G e σ1 w1 (.map cs' bn ck) b)\/(Zl4 key px cs=none/\∀σ1,Stepped e σ w e σ1 w1->BRel G e σ1 w1 (.map (cs++[.d (.str key),px]) (bn++[ck]) (ck+1)) b)) /\
   ∃(es es':Array MapEntry) (ck':Nat),w.heap[b]?=some (.map es ck)/\w1.heap[b]?=some (.map es' ck')/\∀(i:Nat) (u:MapEntry),es'[i]?=some u->u.key≠.string ⟨key.toArray⟩->es[i]?=some u:=by
 obtain ⟨es,g1,g2,g3⟩:=hB.mrel;have ab:b<w.heap.size:=(To.1 g1).1;have h0:(getObj b).run G.P w=.ok (.map es ck) w:=by simp only [getObj,Sem.run,g1]
 have h1:=Jx du false ⟨key.toArray⟩ w;have other:∀ob:Obj,(w.putObj b ob).os=w.os/\(w.putObj b ob).tape=w.tape/\(w.putObj b ob).output=w.output/\(w.putObj b ob).heap.size=w.heap.size/\∀k,k≠b->(w.putObj b ob).heap[k]?=w.heap[k]?:=fun ob=>⟨rfl,rfl,rfl,World.putObj_size,fun k hk=>World.putObj_heap_other hk⟩
 rcases XI (n:=0) (key:=key) g2 with ⟨x,v,j,q1,q2,q3,_,q5,q6,en,q7,q8⟩ | ⟨q1,q2,q3⟩
 ·obtain ⟨cs',q9,q10⟩:=q6 px vx hx;have h2:=UK (P:=G.P) du q2 w;simp only [Nat.sub_zero] at q5 q7 q10;have q7':es[j]?=some en:=by rw [<- Tx];exact q7
  have hl:(es.modify j fun e0=>{ e0 with key:=.string ⟨key.toArray⟩,val:=vx }).toList=es.toList.modify j fun e0=>{ e0 with key:=.string ⟨key.toArray⟩,val:=vx }:=sM
  refine ⟨w.putObj b (.map (es.modify j fun e0=>{ e0 with key:=.string ⟨key.toArray⟩,val:=vx }) ck),?_,other _,.inl ⟨cs',q9,fun σ1 hst=>.ofM (World.putObj_heap_same ab) (by rw [hl];exact q10.step hst) (by
    rw [hl,<- g3]
    apply List.ext_getElem?
    intro i
    rw [Tj,Tj,List.getElem?_modify]
    cases es.toList[i]? with
    | none=>rfl
    | some e0 =>
     simp only [Option.map_eq_map,Sc];split <;> rfl)⟩,es,_,ck,g1,World.putObj_heap_same ab,fun i u hu ai=>by
    rw [SF] at hu;split at hu
    ·obtain ⟨e0,_,rfl⟩:=TG.1 hu;exact absurd rfl ai
    exact hu⟩
  unfold Instr.mapUpdate
  have h3:(Instr.keyThatStays en.key (.string ⟨key.toArray⟩)).run G.P w=.ok (.string ⟨key.toArray⟩) w:=by
   unfold Instr.keyThatStays
   rw [q8,Th]
   ·rfl
   show ((⟨key.toArray⟩:ByteArray) == ⟨key.toArray⟩)=true;rw [ZkD];simp
  simp only [Sem.run_bind,Za hd,Result.andThen,h0,h1,h2,q7',Sc,Sw,h3,Ze3 g1]
 have h2:=UK (P:=G.P) du q2 w;refine ⟨w.putObj b (.map (es.push { key:=.string ⟨key.toArray⟩,val:=vx,born:=ck }) (ck+1)),?_,other _,.inr ⟨q3 px,fun σ1 hst=>.ofM (World.putObj_heap_same ab) (by rw [Array.toList_push];exact MRel.step hst (MRel.push rfl hx g2)) (by rw [Array.toList_push,TP,g3];rfl)⟩,es,_,ck+1,g1,World.putObj_heap_same ab,fun i u hu ai=>by
   rw [Array.getElem?_push] at hu;split at hu
   ·cases hu;exact absurd rfl ai
   exact hu⟩
 unfold Instr.mapUpdate
 simp only [Sem.run_bind,Za hd,Result.andThen,h0,h1,h2,Ze3 g1]
def Ze4 {k:List UInt8} {v v0:PV}:∀{l:List (List UInt8×List (List D))},k∉l.map (·.1)->VZ l (some (k,v0))=VZ l (some (k,v))
 | [],_=>rfl
 | (x,r)::l,h=>by
  simp only [TD,Tv,not_or] at h;have hx:¬x=k:=fun e=>h.1 e.symm
  simp only [VZ,Zhq,decide_eq_false hx];rw [Ze4 (v:=v) (v0:=v0) h.2]
def ZhD {k:List UInt8} {v v0:PV}:∀{m:List (List UInt8×List (List D))},(m.map (·.1)).Nodup->Zl4 k v (VZ m (some (k,v0)))=some (VZ (YB k [] m) (some (k,v)))\/(Zl4 k v (VZ m (some (k,v0)))=none/\VZ (YB k [] m) (some (k,v))=VZ m (some (k,v0))++[.d (.str k),v])
 | [],_=>.inr ⟨rfl,by simp [VZ,YB,Zhq]⟩
 | (x,r)::l,h=>by
  simp only [TD,List.nodup_cons] at h;simp only [VZ,Zl4,YB]
  by_cases hk:k=x
  ·subst hk
   left
   simp only [decide_true,VZ,Zhq];rw [Ze4 h.1]
  have hx:¬x=k:=fun e=>hk e.symm
  simp only [decide_eq_false hk];rcases ZhD (k:=k) (v:=v) (v0:=v0) h.2 with g | ⟨g,g2⟩
  ·left;simp only [g,VZ,Zhq,decide_eq_false hx]
  right;refine ⟨by simp only [g],by simp only [VZ,g2,Zhq,decide_eq_false hx,Sb]⟩
def ZcS {α:Type} {k:List UInt8} {v:α}:∀m:List (List UInt8×α),(k∈m.map (·.1)/\(YB k v m).map (·.1)=m.map (·.1))\/(k∉m.map (·.1)/\(YB k v m).map (·.1)=m.map (·.1)++[k])
 | []=>.inr ⟨sM,rfl⟩
 | (x,u)::l=>by
  simp only [YB]
  by_cases hk:k=x
  ·subst hk;left;simp
  simp only [decide_eq_false hk];rcases ZcS (k:=k) (v:=v) l with ⟨h1,h2⟩ | ⟨h1,h2⟩
  ·left;exact ⟨TA _ h1,by simp only [TD,h2]⟩
  right;exact ⟨by simp only [TD,Tv,not_or];exact ⟨hk,h1⟩,by simp only [TD,h2,Sb]⟩
def Ze5 {α:Type} {k:List UInt8} {v:α} {m:List (List UInt8×α)} (h:(m.map (·.1)).Nodup):((YB k v m).map (·.1)).Nodup:=by
 rcases ZcS (k:=k) (v:=v) m with ⟨_,h2⟩ | ⟨h1,h2⟩
 ·rw [h2];exact h
 rw [h2,List.nodup_append];exact ⟨h,sM,fun a ha b hb=>by simp at hb;subst hb;exact fun e=>h1 (e ▸ ha)⟩
def ZkE {α:Type} {k:List UInt8} {v:α}:∀{m:List (List UInt8×α)} {i:Nat} {x:List UInt8×α},(YB k v m)[i]?=some x->x.1≠k->m[i]?=some x
 | [],0,x,h,ai=>by simp [YB] at h;subst h;exact absurd rfl ai
 | [],i+1,x,h,ai=>by simp [YB] at h
 | (y,u)::l,i,x,h,ai=>by
  simp only [YB] at h
  by_cases hk:k=y
  ·subst hk;simp only [decide_true] at h
   cases i with
   | zero=>simp at h;subst h;exact absurd rfl ai
   | succ i=>simpa using h
  simp only [decide_eq_false hk] at h
  cases i with
  | zero=>simpa using h
  | succ i=>simp only [TV] at h |-;exact ZkE h ai
def J5 {α:Type} {k:List UInt8} {v:α}:∀m:List (List UInt8×α),lkM k (YB k v m)=some v
 | []=>by simp [YB,lkM]
 | (y,u)::l=>by
  simp only [YB]
  by_cases hk:k=y
  ·subst hk;simp [lkM]
  simp only [decide_eq_false hk,lkM];exact J5 l
def X9 {fo:Option (List UInt8×PV)}:∀{m:List (List UInt8×List (List D))} {i:Nat} {x:List UInt8×List (List D)},m[i]?=some x->(VZ m fo)[2 * i]?=some (.d (.str x.1))/\(VZ m fo)[2 * i+1]?=some (Zhq x.1 x.2 fo)
 | [],i,x,h=>by simp at h
 | (y,r)::l,0,x,h=>by simp at h;subst h;exact ⟨rfl,rfl⟩
 | (y,r)::l,i+1,x,h=>by
  have:=X9 (fo:=fo) (m:=l) (i:=i) (x:=x) (by simpa using h);rw [show 2 * (i+1)=2 * i+2 by omega,show 2 * i+2+1=2 * i+1+2 by omega];simpa [VZ] using this
def StB.more {bn:List Nat} {ck:Nat} (h:StB bn ck):StB (bn++[ck]) (ck+1):=by
 refine ⟨List.nodup_append.2 ⟨h.1,sM,fun a ha b hb=>?_⟩,fun x hx=>?_⟩
 ·have:=h.2 a ha;simp at hb;omega
 rcases TJ.1 hx with hx | hx
 ·have:=h.2 x hx;omega
 simp at hx;omega
def ZcT (hT:TabOK T G.P) (hS:SRel G e σ w) {t:TypeId} {pm pk px:PV} {vm vk vx:Value} {K:PV->St->Prop} (hm:VRel G e σ w pm vm) (hk:VRel G e σ w pk vk) (hx:VRel G e σ w px vx) (h:ZcM T t pm pk px σ K) :
  ∃σ1 w1,K .undef σ1/\(Instr.mapUpdate t vm vk vx).run G.P w=.ok () w1/\Stepped e σ w e σ1 w1/\SRel G e σ1 w1:=by
 unfold ZcM at h
 split at h
 ·rename_i kt el az
  obtain ⟨i,d,z0,hi,hd,_,_,aw,_⟩:=(hT.get (t:=t) (by rw [az];simp)).ex;rw [az] at aw;obtain ⟨rfl,du⟩:=aw;split at h
  ·rename_i key b
   cases hk.dstr
   cases hm with
   | mp _ hb =>
   split at h
   ·rename_i cs bn ck ef
    obtain ⟨w1,aj,⟨r1,r2,r3,r4,r5⟩,hc,_⟩:=ZaZ hd du (key:=key) (hS.box _ _ ef) hx;rcases hc with ⟨cs',q1,q2⟩ | ⟨q1,q2⟩
    ·rw [q1] at h;exact ⟨_,w1,h,aj,Uh hS ef r1 r2 r3 r4 r5 fun hst=>q2 _ hst⟩
    rw [q1] at h;exact ⟨_,w1,h,aj,Uh hS ef r1 r2 r3 r4 r5 fun hst=>q2 _ hst⟩
   ·rename_i l ef
    split at h
    ·rename_i x hmv
     obtain ⟨bn,ck,tj,hB⟩:=(hS.box _ _ ef).of_dmap;obtain ⟨w1,aj,⟨r1,r2,r3,r4,r5⟩,hc,_⟩:=ZaZ hd du (key:=key) hB (Zry hmv hx);refine ⟨_,w1,h,aj,Uh hS ef r1 r2 r3 r4 r5 fun hst=>?_⟩;rcases ZhA (k:=key) (y:=x) l with g1 | ⟨g1,g2⟩
     ·rcases hc with ⟨cs',q1,q2⟩ | ⟨q1,q2⟩
      ·rw [g1] at q1;cases q1;exact (q2 _ hst).to_dmap tj
      rw [g1] at q1;cases q1
     rcases hc with ⟨cs',q1,q2⟩ | ⟨q1,q2⟩
     ·rw [g1] at q1;cases q1
     have:=q2 _ hst;rw [<- g2] at this;exact this.to_dmap tj.more
    exact h.elim
   ·rename_i el2 l k' v0 ef
    obtain ⟨rfl,h⟩:=h;have qi:=hS.box _ _ ef;obtain ⟨es0,⟨bn,ck,h1,h2,h3,h4⟩,h5,h6,h7⟩:=qi;have hB:BRel G e σ w (.map (VZ l (some (key,v0))) bn ck) (e.β b):=⟨es0,h1,h2,h3,h4⟩
    obtain ⟨w1,aj,⟨r1,r2,r3,r4,r5⟩,hc,es,es',ck',q1,q2,q3⟩:=ZaZ hd du (key:=key) hB hx;rw [h1] at q1
    cases q1
    refine ⟨_,w1,h,aj,Uh hS ef r1 r2 r3 r4 r5 fun hst=>?_⟩;obtain ⟨bn',ck2,hB'⟩:∃bn' ck2,BRel G e (σ.set b (.smap el2 (YB key [] l) (some (key,px)))) w1 (.map (VZ (YB key [] l) (some (key,px))) bn' ck2) (e.β b):=by
     rcases ZhD (k:=key) (v:=px) (v0:=v0) h7 with g1 | ⟨g1,g2⟩
     ·rcases hc with ⟨cs',p1,p2⟩ | ⟨p1,p2⟩
      ·rw [g1] at p1;cases p1;exact ⟨_,_,p2 _ hst⟩
      rw [g1] at p1;cases p1
     rcases hc with ⟨cs',p1,p2⟩ | ⟨p1,p2⟩
     ·rw [g1] at p1;cases p1
     have:=p2 _ hst;rw [<- g2] at this;exact ⟨_,_,this⟩
    obtain ⟨es2,k1,k2,k3,k4⟩:=hB';rw [q2] at k1
    cases k1
    refine ⟨_,⟨bn',_,q2,k2,k3,k4⟩,fun i u x hu ca ai=>?_,fun kv gu hl=>?_,Ze5 h7⟩
    ·have ir:x.1≠key:=ai _ rfl;obtain ⟨_,kk,y,g2,_,g4,_⟩:=k4 i u hu;rw [(X9 ca).1] at g2
     cases g2
     have yx:=q3 i u hu (by rw [g4];intro e;apply ir;have:=congrArg (fun v=>match v with | Value.string s=>s.data.toList | _=>[]) e;simpa using this);exact (h5 i u x yx (ZkE ca ir) fun kv gu=>by cases gu;exact ir).keep fun b2 q hq _=>⟨hq,r5 _ fun h=>(hS.hid b2 q hq).2.2.1 b hb h.symm⟩
    cases gu
    rw [J5] at hl;cases hl
   exact h.elim
  exact h.elim
 exact h.elim
def ZnS (hT:TabOK T G.P) (hS:SRel G e σ w) {K:PV->St->Prop} {ρ:Operand->PV} {ρ':Operand->Value} (hρ:∀x,VRel G e σ w (ρ x) (ρ' x)) (o:Oper) (h:eop T o.op ρ σ K) :
  ∃pv σ1 v w1 e1,K pv σ1/\ZnR G.P ρ' o w v w1/\Stepped e σ w e1 σ1 w1/\SRel G e1 σ1 w1/\VRel G e1 σ1 w1 pv v:=by
 unfold eop at h
 split at h
 ·rename_i el ho
  split at h
  ·exact h.elim
  rename_i hk
  obtain ⟨i,d,z,hi,hd,hs,dy,aw,hz,dc,l4,_⟩:=(hT.get (t:=el) (fun h0=>hk h0)).ex;obtain ⟨t8,nr⟩:=XG (G:=G) (e:=e) (σ:=σ) (w:=w) dc;obtain ⟨h1,h2,h3⟩:=ZcQ hS el (T.get el).zero z.cells (by simpa using t8) (fun i x u hx hu=>nr i x u hx (by rw [Tx];exact hu));refine ⟨_,_,_,_,_,h,.inl ?_,h1,h2,h3⟩;unfold execOp
  simp only [ho,Instr.alloc,zeroValue,Sem.run_bind,Yc hi,Result.andThen,hz,Sem.run_pure];rfl
 ·rename_i el x ho
  split at h
  ·rename_i l hl
   obtain ⟨dh,bj⟩:=Vg (hρ x) hl;obtain ⟨h1,h2,h3⟩:=ZcQ hS el l (ρ' x).cells dh bj;exact ⟨_,_,_,_,_,h,.inl (by unfold execOp;simp only [ho];rfl),h1,h2,h3⟩
  exact h.elim
 ·rename_i t a x ho
  have ha:=hρ a;split at h
  ·rename_i b off bm;rw [bm] at ha
   split at h
   ·rename_i ty cs hb
    split at h
    ·rename_i l hl
     split at h
     ·exact h.elim
     ·rename_i h1 h2 hk
      generalize hv:ρ' a=v at ha
      cases ha with
      | ptr b off cp =>
      obtain ⟨w1,aj,hst,ii⟩:=Jz hT hS hb (Zu0 (hρ x)) hl (Tp h1) (Tc h2) (fun h0=>hk h0);refine ⟨_,_,Go.undef,w1,e,h,.inr ⟨?_,rfl⟩,hst,ii,.undef _⟩;unfold execOp
      simp only [ho,hv,Sem.run_bind,aj,Result.andThen,Sem.run_pure]
     exact h.elim
    exact h.elim
   exact h.elim
  exact h.elim
 ·rename_i t x ho
  split at h
  ·rename_i hk
   obtain ⟨i,d,z,hi,hd,hs,dy,aw,hz,dc,l4,_⟩:=(hT.get (t:=t) (by rw [hk];simp)).ex;rw [hk] at aw;cases aw;split at h
   ·rename_i s bm
    have hx:=hρ x;rw [bm] at hx;have yj:=hx.dstr;obtain ⟨h1,h2,h3⟩:=Ug hS (.iter s 0) (.stringIter ⟨s.toArray⟩ 0) (fun _ _ _ _ hh=>hh);refine ⟨_,_,_,_,_,h,.inl ?_,h1,h2,h3⟩;unfold execOp
    simp only [ho,yj,Instr.range,Sem.run_bind,Za hd,Result.andThen,Sem.run_pure,run_newObj];rfl
   exact h.elim
  exact h.elim
 ·rename_i t ho
  split at h
  ·rename_i kt el hk
   have mk:∀x:Box,(∀e1 σ1 w1,Stepped e σ w e1 σ1 w1->w1.heap[w.heap.size]?=some (.map #[] 0)->BRel G e1 σ1 w1 x w.heap.size)->K (.mp σ.bx.length) (σ.new x) ->
     ∃pv σ1 v w1 e1,K pv σ1/\ZnR G.P ρ' o w v w1/\Stepped e σ w e1 σ1 w1/\SRel G e1 σ1 w1/\VRel G e1 σ1 w1 pv v:=by
    intro x hx h
    obtain ⟨h1,h2,h3⟩:=Ug hS x (.map #[] 0) hx;refine ⟨_,_,.map (some w.heap.size),_,_,h,.inl ?_,h1,h2,?_⟩
    ·exact mq151
    have:=VRel.mp (G:=G) (e:=e.more σ.bx.length w.heap.size) (σ:=σ.new x) (w:=w.alloc (.map #[] 0)) σ.bx.length (by rw [ZED];omega)
    rwa [show (e.more σ.bx.length w.heap.size).β σ.bx.length=w.heap.size by simp [Env.more]] at this
   split at h
   ·exact mk (.map [] [] 0) (fun _ _ _ _ hh=>BRel.ofM hh trivial rfl) h
   ·exact mk (.map [] [] 0) (fun _ _ _ _ hh=>BRel.ofM hh trivial rfl) h
   exact mk _ (fun e1 σ1 w1 _ hh=>(show BRel G e1 σ1 w1 (.map (ZaW []) [] 0) w.heap.size from .ofM hh trivial rfl).to_dmap ⟨.nil,fun _ h=>nomatch h⟩) h
  exact h.elim
 ·exact mq76
 ·exact mq76
 ·rename_i x ho
  have hx:=hρ x;split at h
  ·rename_i b bm;rw [bm] at hx
   split at h
   ·rename_i s pos hb
    generalize hv:ρ' x=v at hx
    cases hx with
    | ptr b off cp =>
    obtain ⟨pv,σ1,v,w1,hK,aj,hst,ii,hr⟩:=Zmd hS hb o.type h;refine ⟨pv,σ1,v,w1,e,hK,.inl ?_,hst,ii,hr⟩;unfold execOp
    simp only [ho,hv,Sem.run_bind,aj,Result.andThen,Sem.run_pure]
   exact h.elim
  exact h.elim
 ·rename_i args argTypes ho
  split at h
  ·rename_i t tx s x ym bv
   have ql:argTypes=#[t,tx]:=by rw [<- Array.toArray_toList (xs:=argTypes),ym]
   obtain ⟨q1,q2,af⟩:∃q1 q2,args.toList=[q1,q2]:=by
    cases hl:args.toList with
    | nil=>rw [hl] at bv;cases bv
    | cons a l=>cases l with
     | nil=>rw [hl] at bv;cases bv
     | cons b l=>cases l with
      | nil=>exact ⟨a,b,rfl⟩
      | cons c l=>rw [hl] at bv;simp at bv
   have ha:args=#[q1,q2]:=by rw [<- Array.toArray_toList (xs:=args),af]
   rw [af] at bv;simp only [TD,TM,List.cons.injEq,and_true] at bv;obtain ⟨oh,f5⟩:=bv;have ov:=hρ q1;have hrx:=hρ q2;rw [oh] at ov;rw [f5] at hrx;have m7:∀v' w1,(Builtin.append_ #[t,tx] o.type #[ρ' q1,ρ' q2]).run G.P w=.ok v' w1->ZnR G.P ρ' o w v' w1:=fun v' w1 hr=>.inl (by
    unfold execOp
    simp only [ho,resolve,invoke,builtin,Sem.run_bind,Sem.run_pure,Result.andThen,ha,ql];rw [show Array.map ρ' #[q1,q2]=#[ρ' q1,ρ' q2] from sM,hr])
   split at h
   ·rename_i el hk
    split at h
    ·exact h.elim
    rename_i be
    split at h
    ·rename_i more ba hm
     split at h
     ·rename_i el2
      obtain ⟨hw,hb,hl,hK⟩:=h;generalize hv:ρ' q1=v at ov m7
      cases ov with
      | nils =>
      obtain ⟨v',w1,e1,aj,hst,ii,hr⟩:=Ze2 (ty:=o.type) hT hS hk (fun h0=>be h0) (Tc ba) (rows:=[]) (.slnil) σ.tk (fun _ h=>h) (.inl ⟨rfl,rfl⟩) hm hrx hw (by simpa using hb) (by simpa using hl);exact ⟨_,_,v',w1,e1,hK,m7 v' w1 aj,hst,ii,hr⟩
     ·rename_i tok e2 rows
      split at h
      ·rename_i cy oe
       obtain ⟨hw,hb,hl,hK⟩:=h;have:=Tp oe;subst this;have rx:=(Ys _ _).1 cy;generalize hv:ρ' q1=v at ov m7
       cases ov with
       | sl tok e2 rows v hn hd ht =>
       obtain ⟨v',w1,e1,aj,hst,ii,hr⟩:=Ze2 (ty:=o.type) hT hS hk (fun h0=>be h0) (Tc ba) hd (Jd tok σ.tk) (fun x hx=>((X8 _ _ _).1 hx).1) (.inr ⟨tok,rx,fun h=>((X8 _ _ _).1 h).2 rfl,ht rx⟩) hm hrx hw hb hl;exact ⟨_,_,v',w1,e1,hK,m7 v' w1 aj,hst,ii,hr⟩
      exact h.elim
     exact h.elim
    exact h.elim
   exact h.elim
  exact h.elim
 exact h.elim
end
end Go.PM
end

section
namespace Go.PM
def fw (ro:Option Nat):Fence:={ fn:=fun _=>True,depth:=none,alive:=false,round:=ro }
def Wr (P:Program) (g:FuncId):Prop:=∀(args:Array Value) (w:World),(callFunc g args).run P w=.ok (.enter g args) w
def ArgsRel (G:GE) (e:Env) (σ:St) (w:World) (args:List PV) (vs:Array Value):Prop :=
 vs.size=args.length/\∀(i:Nat) (x:PV) (u:Value),args[i]?=some x->vs[i]?=some u->VRel G e σ w x u
def ZnT (G:GE) (e:Env) (σ:St) (w:World):PEnd->Ending->Prop
 | .ret x,en=>∃v,en=.returned v/\VRel G e σ w x v
 | .panic x,en=>∃v,en=.panicked [{ v:=v,recovered:=false }]/\VRel G e σ w x v
def Zzd (G:GE) (e:Env) (σ:St) (w:World) (K:PEnd->St->Prop) (en:Ending) (w':World):Prop :=
 ∃pe σ' e',K pe σ'/\ZnT G e' σ' w' pe en/\SRel G e' σ' w'/\Stepped e σ w e' σ' w'
def Y9 (G:GE) (e:Env) (σ:St) (w:World) (K:PEnd->St->Prop) (en:Ending) (w':World):Prop :=
 ∃pe σ' e',K pe σ'/\ZnT G e' σ' w' pe en/\SRel G e' σ' w'/\Later e σ w e' σ' w'
def CallSem (G:GE) (cc:FuncId->List PV->St->(PEnd->St->Prop)->Prop):Prop:=∀g args σ K,cc g args σ K ->
 Wr G.P g/\∀(ro:Option Nat) (n:Nat) (e:Env) (w:World) (vs:Array Value),SRel G e σ w->ArgsRel G e σ w args vs->CallsIn (fw ro) n G.P g vs w (Zzd G e σ w K)
def RawSem (G:GE) (e0:Env) (σ0:St) (w0:World) (cr:Value->List PV->St->(PEnd->St->Prop)->Prop):Prop:=∀v args σ K,cr v args σ K ->
 ∃l,v=.func (.yield l) #[] #[]/\∀(ro:Option Nat) (n:Nat) (e:Env) (w:World) (vs:Array Value),SRel G e σ w->Later e0 σ0 w0 e σ w->ArgsRel G e σ w args vs ->
  ∃f tmps asg body,(Instr.yield l vs).run G.P w=.ok (.round l f tmps asg body) w/\RoundIn (fw ro) n G.P l f tmps asg body w (Y9 G e σ w K)
def IterSem (G:GE) (ci:FuncId->List PV->(Value->List PV->St->(PEnd->St->Prop)->Prop)->St->(PEnd->St->Prop)->Prop):Prop:=∀g args raw σ K,ci g args raw σ K ->
 Wr G.P g/\∀(n:Nat) (e:Env) (w:World) (vs:Array Value),SRel G e σ w->ArgsRel G e σ w args vs->RawSem G e σ w raw->CallsIn (fw none) n G.P g vs w (Y9 G e σ w K)
def IterAt (G:GE) (e0:Env) (σ0:St) (w0:World) (ci:FuncId->List PV->(Value->List PV->St->(PEnd->St->Prop)->Prop)->St->(PEnd->St->Prop)->Prop):Prop:=∀g args raw σ K,ci g args raw σ K ->
 Wr G.P g/\∀(n:Nat) (e:Env) (w:World) (vs:Array Value),SRel G e σ w->Later e0 σ0 w0 e σ w->ArgsRel G e σ w args vs->RawSem G e σ w raw->CallsIn (fw none) n G.P g vs w (Y9 G e σ w K)
def IterSem.at' {G:GE} {e0:Env} {σ0:St} {w0:World} {ci:FuncId->List PV->(Value->List PV->St->(PEnd->St->Prop)->Prop)->St->(PEnd->St->Prop)->Prop} (h:IterSem G ci):IterAt G e0 σ0 w0 ci:=fun g args raw σ K hc=>⟨(h g args raw σ K hc).1,fun n e w vs hS _ ha hr=>(h g args raw σ K hc).2 n e w vs hS ha hr⟩
def IterAt.later {G:GE} {e0 e:Env} {σ0 σ:St} {w0 w:World} {ci:FuncId->List PV->(Value->List PV->St->(PEnd->St->Prop)->Prop)->St->(PEnd->St->Prop)->Prop} (h:IterAt G e0 σ0 w0 ci) (hL:Later e0 σ0 w0 e σ w):IterAt G e σ w ci:=fun g args raw σ' K hc=>⟨(h g args raw σ' K hc).1,fun n e' w' vs hS i7 ha hr=>(h g args raw σ' K hc).2 n e' w' vs hS (hL.trans i7) ha hr⟩
structure CxOK (G:GE) (C:Cx) (ro:Option Nat) (e0:Env) (σ0:St) (w0:World):Prop where
 tab:TabOK C.T G.P
 call:CallSem G C.call
 raw:RawSem G e0 σ0 w0 C.raw
 iter:IterAt G e0 σ0 w0 C.iter
 out:ro=none\/∀g args raw σ K,¬C.iter g args raw σ K
def RawSem.later {G:GE} {e0 e:Env} {σ0 σ:St} {w0 w:World} {cr:Value->List PV->St->(PEnd->St->Prop)->Prop} (h:RawSem G e0 σ0 w0 cr) (hL:Later e0 σ0 w0 e σ w):RawSem G e σ w cr:=fun v args σ' K hc=>by
 obtain ⟨l,h1,h2⟩:=h v args σ' K hc;exact ⟨l,h1,fun ro n e' w' vs hS i7 ha=>h2 ro n e' w' vs hS (hL.trans i7) ha⟩
def CxOK.later {G:GE} {C:Cx} {ro:Option Nat} {e0 e:Env} {σ0 σ:St} {w0 w:World} (h:CxOK G C ro e0 σ0 w0) (hL:Later e0 σ0 w0 e σ w):CxOK G C ro e σ w:=⟨h.tab,h.call,h.raw.later hL,h.iter.later hL,h.out⟩
def CxOK.calm {G:GE} {C:Cx} {ro:Option Nat} {e0:Env} {σ0:St} {w0:World} (h:CxOK G C ro e0 σ0 w0):CxOK G C.calm ro e0 σ0 w0:=⟨h.tab,h.call,fun _ _ _ _ h=>h.elim,fun _ _ _ _ _ h=>h.elim,.inr fun _ _ _ _ _ h=>h⟩
def J6 (r:Nat):Deferred:={ target:=.collected r,args:=#[] }
def Marks (lo:Nat×List Deferred×Bool) (e:Env) (σ:St) (w:World) (l:List Deferred):Prop:=lo.1<=w.heap.size/\∃rs:List Nat,l=rs.map J6++lo.2.1/\(lo.2.2=true->rs=[])/\rs.Nodup/\∀r,r∈rs->lo.1<=r/\w.heap[r]?=some (.deferred (some [])) /\
 (∀i,i<σ.bx.length->e.β i≠r)/\(∀t,t∈σ.tk->∀p,e.M t=some p->p.1≠r)/\e.H r=none
def Marks.nil {lo:Nat} {fl:Bool} (e:Env) (σ:St) {w:World} (h:lo<=w.heap.size):Marks (lo,[],fl) e σ w []:=⟨h,[],rfl,fun _=>rfl,List.nodup_nil,fun r h=>(by cases h)⟩
def Marks.later {lo:Nat×List Deferred×Bool} {e e':Env} {σ σ':St} {w w':World} {l:List Deferred} (h:Marks lo e σ w l) (hL:Later e σ w e' σ' w'):Marks lo e' σ' w' l:=by
 obtain ⟨h0,rs,h1,et,h2,h3⟩:=h;refine ⟨Sa h0 hL.size,rs,h1,et,h2,fun r hr=>?_⟩;obtain ⟨g1,g2,g3,g4,g5⟩:=h3 r hr;have ab:=(To.1 g2).1;refine ⟨g1,(hL.blocks r ab g3 g4 g5).trans g2,fun i hi=>?_,fun t ht p hp=>?_,?_⟩
 ·by_cases h:i<σ.bx.length
  ·rw [hL.beta i h];exact g3 i h
  have:=hL.fresh i oM hi;omega
 ·rcases hL.ftok t ht p hp with h | ⟨t0,h0,p0,mb,h⟩ | h
  ·omega
  ·rw [<- h];exact g4 t0 h0 p0 mb
  exact fun he=>h (by rw [he];exact g5)
 cases hq:e'.H r with
 | none=>rfl
 | some q =>
 rcases hL.fhid r (by rw [hq];simp) with h | ⟨t0,h0,p0,mb,h⟩ | h
 ·omega
 ·exact absurd h (g4 t0 h0 p0 mb)
 exact absurd g5 h
def UO {n:Nat}:∀{l:List PV},Zri n l=true->∀(i:Nat) (x:PV),l[i]?=some x->bnd n x=true
 | [],_,i,x,hx=>by simp at hx
 | y::l,h,i,x,hx=>by
  simp only [Zri,Tm] at h
  cases i with
  | zero=>simp at hx;subst hx;exact h.1
  | succ i=>exact UO h.2 i x (by simpa using hx)
def ZnU {n:Nat}:∀{l:List PV},(∀(i:Nat) (x:PV),l[i]?=some x->bnd n x=true)->Zri n l=true
 | [],_=>rfl
 | y::l,h=>by
  simp only [Zri,Tm];exact ⟨h 0 y sM,ZnU fun i x hx=>h (i+1) x (by simpa using hx)⟩
def Wi:∀{l:List PV} (i:Nat) (y:PV),(Xr l)[i]?=some y->∃x,l[i]?=some x/\y=clean x
 | [],i,y,h=>by simp [Xr] at h
 | x::l,i,y,h=>by
  cases i with
  | zero=>simp [Xr] at h;exact ⟨x,sM,h.symm⟩
  | succ i=>simp only [Xr,TV] at h;obtain ⟨z,h1,h2⟩:=Wi i y h;exact ⟨z,by simpa using h1,h2⟩
def YM:∀{l:List PV},(Xr l).length=l.length
 | []=>rfl
 | x::l=>by simp [Xr,YM]
section
variable {G:GE} {e e':Env} {σ σ':St} {w w':World}
def VRel.bnd {x:PV} {v:Value} (h:VRel G e σ w x v):bnd σ.bx.length x=true:=by
 have get:∀{l:List PV} {va:Array Value},va.size=l.length->(∀(i:Nat) (x:PV) (u:Value),l[i]?=some x->va[i]?=some u->PM.bnd σ.bx.length x=true)->Zri σ.bx.length l=true:=fun {l va} hs h=>ZnU fun i x hx=>by
  have hi:=(Tk.1 hx).1;exact h i x va[i] hx (TB oM)
 induction h with
 | ptr b off h=>simp only [PM.bnd,Nat.ble_eq];omega
 | mp b h=>simp only [PM.bnd,Nat.ble_eq];omega
 | asl b off n h=>simp only [PM.bnd,Nat.ble_eq];omega
 | func f a c va vc ha hc _ _ ih1 ih2=>simp only [PM.bnd,Tm];exact ⟨get ha ih1,get hc ih2⟩
 | iface t x v _ ih=>exact ih
 | agg cs vs hs _ _ ih=>exact get hs ih
 | tuple cs vs hs _ ih=>exact get hs ih
 | _=>rfl
def VRel.clean {n:Nat} (hn:n<=σ'.bx.length) (hβ:∀i,i<n->e'.β i=e.β i)
  (hp:∀b off u,w.cell? ⟨b,off,none⟩=some u->okc e σ b off->okc e' σ' b off/\w'.cell? ⟨b,off,none⟩=some u) {x:PV} {v:Value} (h:VRel G e σ w x v) (hb:PM.bnd n x=true):VRel G e' σ' w' (clean x) v:=by
 induction h with
 | d x v h=>exact .d _ _ (h.mono hp)
 | undef v=>exact .undef _
 | ptr b off h =>
  simp only [PM.bnd,Nat.ble_eq] at hb;rw [<- hβ b oM];exact .ptr b off oM
 | asl b off m h =>
  simp only [PM.bnd,Nat.ble_eq] at hb;rw [<- hβ b oM];exact .asl b off m oM
 | mp b h =>
  simp only [PM.bnd,Nat.ble_eq] at hb;rw [<- hβ b oM];exact .mp b oM
 | nilm=>exact .nilm
 | elem r off b o u hc ho hu=>exact .elem r off b o u (fun j hj=>(hp b _ _ (hc j hj) (ho j hj)).2) (fun j hj=>(hp b _ _ (hc j hj) (ho j hj)).1) (fun j x hx=>(hu j x hx).mono hp)
 | sl t el rows v hn hd ht=>exact .d _ _ (hd.mono hp)
 | nils el=>exact .d _ _ .slnil
 | func f a c va vc ha hc _ _ ih1 ih2 =>
  simp only [PM.bnd,Tm] at hb;refine .func f _ _ va vc (by rw [YM];exact ha) (by rw [YM];exact hc) (fun i y u hy hu=>?_) (fun i y u hy hu=>?_)
  ·obtain ⟨x,hx,rfl⟩:=Wi i y hy;exact ih1 i x u hx hu (UO hb.1 i x hx)
  obtain ⟨x,hx,rfl⟩:=Wi i y hy;exact ih2 i x u hx hu (UO hb.2 i x hx)
 | iface t x v _ ih=>exact .iface t _ v (ih hb)
 | agg cs vs hs _ h1 ih=>exact .agg _ vs (by rw [YM];exact hs) (fun i y u hy hu=>by obtain ⟨x,hx,rfl⟩:=Wi i y hy;exact ih i x u hx hu (UO hb i x hx)) h1
 | tuple cs vs hs _ ih=>exact .tuple _ vs (by rw [YM];exact hs) (fun i y u hy hu=>by obtain ⟨x,hx,rfl⟩:=Wi i y hy;exact ih i x u hx hu (UO hb i x hx))
 | raw v=>exact .raw _
def Jk:∀{l:List PV},(cleanNL l).length=l.length
 | []=>rfl
 | x::l=>by simp [PM.cleanNL,Jk]
def ZcU:∀{l:List PV} (i:Nat) (y:PV),(cleanNL l)[i]?=some y->∃x,l[i]?=some x/\y=PM.cleanN x
 | [],i,y,h=>by simp [PM.cleanNL] at h
 | x::l,i,y,h=>by
  cases i with
  | zero=>simp [PM.cleanNL] at h;exact ⟨x,sM,h.symm⟩
  | succ i=>simp only [PM.cleanNL,TV] at h;obtain ⟨z,h1,h2⟩:=ZcU i y h;exact ⟨z,by simpa using h1,h2⟩
def VRel.cleanN {n:Nat} (hn:n<=σ'.bx.length) (hβ:∀i,i<n->e'.β i=e.β i)
  (hp:∀b off u,w.cell? ⟨b,off,none⟩=some u->okc e σ b off->okc e' σ' b off/\w'.cell? ⟨b,off,none⟩=some u) {x:PV} {v:Value} (h:VRel G e σ w x v) (hb:PM.bnd n x=true):VRel G e' σ' w' (cleanN x) v:=by
 induction h with
 | d x v h=>exact .d _ _ (h.mono hp)
 | undef v=>exact .undef _
 | ptr b off h =>
  simp only [PM.bnd,Nat.ble_eq] at hb;rw [<- hβ b oM];exact .ptr b off oM
 | asl b off m h =>
  simp only [PM.bnd,Nat.ble_eq] at hb;rw [<- hβ b oM];exact .asl b off m oM
 | mp b h =>
  simp only [PM.bnd,Nat.ble_eq] at hb;rw [<- hβ b oM];exact .mp b oM
 | nilm=>exact .nilm
 | elem r off b o u hc ho hu=>exact .elem r off b o u (fun j hj=>(hp b _ _ (hc j hj) (ho j hj)).2) (fun j hj=>(hp b _ _ (hc j hj) (ho j hj)).1) (fun j x hx=>(hu j x hx).mono hp)
 | sl t el rows v hn hd ht=>exact .d _ _ (hd.mono hp)
 | nils el=>exact .nils el
 | func f a c va vc ha hc h1 h2 ih1 ih2=>exact VRel.clean hn hβ hp (.func f a c va vc ha hc h1 h2) hb
 | iface t x v h ih=>exact VRel.clean hn hβ hp (.iface t x v h) hb
 | agg cs vs hs _ h1 ih=>exact .agg _ vs (by rw [Jk];exact hs) (fun i y u hy hu=>by obtain ⟨x,hx,rfl⟩:=ZcU i y hy;exact ih i x u hx hu (UO hb i x hx)) h1
 | tuple cs vs hs h ih=>exact VRel.clean hn hβ hp (.tuple cs vs hs h) hb
 | raw v=>exact .raw _
end
def FRel.clean {G:GE} {e e':Env} {σ σ':St} {w w':World} {f:Frame} {tm:Array Value} (hF:FRel G e σ w f tm) (hL:Later e σ w e' σ' w'):FRel G e' σ' w' (V0 f) tm :=
 fun i=>VRel.clean hL.len hL.beta hL.pres (hF i) (hF i).bnd
def Zze (G:GE) (e:Env) (σ:St) (w:World):PExit->Exit->Prop
 | .normal,x=>x=.normal
 | .exit id,x=>x=.exit id
 | .goto l,x=>x=.goto l
 | .ret,x=>x=.ret
 | .panic p,x=>∃v,x=.panic [{ v:=v,recovered:=false }]/\VRel G e σ w p v
def ZP (G:GE) (e0:Env) (σ0:St) (w0:World) (ds:Nat×List Deferred×Bool) (n:Nat) (Z:Array Value->Prop) (Q:PQ):Exit->Act->World->Prop:=fun x a w =>
 ∃pe f e σ,Q pe f σ/\Zze G e σ w pe x/\SRel G e σ w/\FRel G e σ w f a.tmps/\Later e0 σ0 w0 e σ w/\a.tmps.size=n/\Marks ds e σ w a.defers/\Z a.tmps
def KRel (G:GE) (e0:Env) (σ0:St) (w0:World) (ds:Nat×List Deferred×Bool) (n:Nat) (Z:Array Value->Prop) (K:Frame->St->Prop):Act->World->Prop:=fun a w =>
 ∃f e σ,K f σ/\SRel G e σ w/\FRel G e σ w f a.tmps/\Later e0 σ0 w0 e σ w/\a.tmps.size=n/\Marks ds e σ w a.defers/\Z a.tmps
def Ws:∀(n:Nat) (K:Nat->Prop),Yn n K=K n
 | 0,K=>rfl
 | n+1,K=>by simp only [Yn,Ws n]
def ZnV (v:PV) (K:PV->Prop):Znz v K=K v:=by cases v <;> simp only [Znz,Ws]
def Za0:∀(l:List PV) (K:List PV->Prop),VB l K=K l
 | [],_=>rfl
 | v::l,K=>by simp only [VB,ZnV,Za0 l]
def ZhE (v:PV) (K:PV->Prop):Zkz v K=K v:=by cases v <;> simp only [Zkz,Ws,Za0]
def Ze6:∀(l:List PV) (K:List PV->Prop),ZfX l K=K l
 | [],_=>rfl
 | v::l,K=>by simp only [ZfX,ZhE,Ze6 l]
def Z7 (v:PV) (K:PV->Prop):U8 v K=K v:=by cases v <;> simp only [U8,Ws,Za0,ZhE,Ze6]
def ZcV:∀(l:List PV) (K:List PV->Prop),Zhs l K=K l
 | [],_=>rfl
 | v::l,K=>by simp only [Zhs,Z7,ZcV l]
def Vh:∀(l:List Nat) (K:List Nat->Prop),ZcN l K=K l
 | [],_=>rfl
 | t::l,K=>by simp only [ZcN,Ws,Vh l]
def XJ:∀(l:List Box) (K:List Box->Prop),X2 l K=K l
 | [],_=>rfl
 | .cells t cs::l,K=>by simp only [X2,ZcV,XJ l]
 | .iter s p::l,K=>by simp only [X2,XJ l]
 | .loop st pd r::l,K=>by simp only [X2,XJ l]
 | .dmap m::l,K=>by simp only [X2,XJ l]
 | .smap el m none::l,K=>by simp only [X2,XJ l]
 | .smap el m (some (k,v))::l,K=>by simp only [X2,Z7,XJ l]
 | .map cs bn ck::l,K=>by simp only [X2,ZcV,Vh,Ws,XJ l]
def ZZ (σ:St) (K:St->Prop):Xv σ K=K σ:=by simp only [Xv,XJ,Vh,Ws]
def Z3 (f:Frame) (d:Option Nat) (v:PV) (K:Frame->Prop):ZiS f d v K=K (Yo f d v):=by
 cases d with
 | none=>rfl
 | some i=>simp only [ZiS,Z7];rfl
def Ui {f:Frame} {s:Nat} {v:PV} (h:f s=v):Uc f s v=f:=by
 funext j
 by_cases hj:s=j
 ·subst hj;rw [Yx,h]
 rw [Xe f v hj]
def Yt (a:Act) (d:Option Nat) (v:Value):(a.put d v).tmps.size=a.tmps.size:=by cases d <;> simp [Act.put]
def Zf3 {N:Nat} {Z:Array Value->Prop} {a:Act} {d:Option Nat} {v:Value} (hd:∀i,d=some i->i<N/\∀t v,Z t->Z (t.setIfInBounds i v)) (hZ:Z a.tmps):Z (a.put d v).tmps:=by
 cases d with
 | none=>exact hZ
 | some i=>exact (hd i rfl).2 _ _ hZ
def Xa (a:Act) (d:Option Nat) (v:Value):(a.put d v).defers=a.defers:=by cases d <;> rfl
section
variable {G:GE} {C:Cx} {e0 e:Env} {σ0 σ:St} {w0 w:World} {a:Act} {f:Frame} {Q:PQ} {K:Frame->St->Prop} {ro:Option Nat} {n:Nat} {ds:Nat×List Deferred×Bool} {N:Nat} {Z:Array Value->Prop}
def KRel.put {e1:Env} {σ1:St} {w1:World} {o:Oper} {pv:PV} {v:Value} (hF:FRel G e σ w f a.tmps) (hL:Later e0 σ0 w0 e σ w) (hN:a.tmps.size=N) (bc:Marks ds e σ w a.defers) (hZ:Z a.tmps) (hd:∀d,o.dst=some d->d<N/\∀t v,Z t->Z (t.setIfInBounds d v))
  (hK:ZiS f o.dst pv fun f=>K f σ1) (hst:Stepped e σ w e1 σ1 w1) (ii:SRel G e1 σ1 w1) (hr:VRel G e1 σ1 w1 pv v):KRel G e0 σ0 w0 ds N Z K (a.put o.dst v) w1:=by
 rw [Z3] at hK;exact ⟨_,e1,σ1,hK,ii,(hF.step hst).put hr (by rw [hN];exact fun d h=>(hd d h).1),hL.trans hst.toLater,by rw [Yt];exact hN,by rw [Xa];exact bc.later hst.toLater,Zf3 hd hZ⟩
def Zf4 {args:Array Operand} (hρ:∀x,VRel G e σ w (ev f x) (a.eval x)):ArgsRel G e σ w (args.toList.map (ev f)) (args.map a.eval):=by
 refine ⟨sM,fun i x u hx hu=>?_⟩;rw [Tj] at hx;rw [Array.getElem?_map] at hu
 cases hq:args[i]? with
 | none=>rw [hq] at hu;cases hu
 | some q =>
 exact mq155
def ArgsRel.append {x y:List PV} {vx vy:Array Value} (h1:ArgsRel G e σ w x vx) (h2:ArgsRel G e σ w y vy):ArgsRel G e σ w (x++y) (vx++vy):=by
 refine ⟨by rw [Array.size_append,Ta,h1.1,h2.1],fun i p u hp hu=>?_⟩
 by_cases hi:i<x.length
 ·rw [TU hi] at hp;rw [Array.getElem?_append_left (by rw [h1.1];exact hi)] at hu;exact h1.2 i p u hp hu
 rw [T5 oM] at hp;rw [Array.getElem?_append_right (by rw [h1.1];omega),h1.1] at hu;exact h2.2 _ p u hp hu
def ZkF {G:GE} {C:Cx} {e e':Env} {σ σ':St} {w w':World} {f:Frame} {tm:Array Value} (hF:FRel G e σ w f tm) (hL:Later e σ w e' σ' w'):FRel G e' σ' w' (C.pf f) tm:=by
 unfold Cx.pf
 split
 ·exact hF.clean hL
 exact fun i=>.undef _
def JB (hC:CxOK G C ro e0 σ0 w0) (hS:SRel G e σ w) (hF:FRel G e σ w f a.tmps) (hL:Later e0 σ0 w0 e σ w) (hN:a.tmps.size=N) (bc:Marks ds e σ w a.defers) (hZ:Z a.tmps) {o:Oper} (hd:∀d,o.dst=some d->d<N/\∀t v,Z t->Z (t.setIfInBounds d v))
  (h:Wn C o f σ Q K):o.wpIn (fw ro) n G.P a w (KRel G e0 σ0 w0 ds N Z K) (ZP G e0 σ0 w0 ds N Z Q):=by
 have hρ:∀x,VRel G e σ w (ev f x) (a.eval x):=fun x=>ZbL hF x
 refine ⟨fun _ _=>trivial,?_⟩;unfold Wn at h
 simp only [ZZ,Z7] at h;split at h
 ·rename_i hE
  have im:∀c,o.op≠.defer c:=fun c hc=>by rw [hc] at h;exact h
  rw [show (fw ro).round=ro from rfl,Oper.semAt_eq _ _ _ im];obtain ⟨pv,v,w1,hK,hg,hr,aj⟩:=Zmf hC.tab hS hρ o h;rw [aj];exact KRel.put hF hL hN bc hZ hd hK (hg.stepped e σ) (hS.grow hg) hr
 rename_i hE
 have im:∀c,o.op≠.defer c:=fun c hc=>by rw [hc] at hE;cases hE
 rw [show (fw ro).round=ro from rfl,Oper.semAt_eq _ _ _ im];split at h
 ·rename_i x args at' ho
  have hx:=hρ x;have kc:∀(next:World->Ending->World->Prop),True:=fun _=>trivial
  unfold ZeU at h
  split at h
  ·rename_i g first caps bm
   rw [bm] at hx;generalize hv:a.eval x=v at hx
   cases hx with
   | func g first caps va vc ha hc h1 h2 =>
   have af:ArgsRel G e σ w (first++args.toList.map (ev f)++caps) (va++args.map a.eval++vc):=(ArgsRel.append (ArgsRel.append ⟨ha,h1⟩ (Zf4 hρ)) ⟨hc,h2⟩)
   split at h
   ·obtain ⟨jo,i9⟩:=hC.call _ _ _ _ h;have aj:(execOp a.eval o).run G.P w=.ok (.enter g (va++args.map a.eval++vc)) w:=by
     exact mq147
    rw [aj,Oper.uponIn_enter];refine ⟨fun h=>by simp [fw] at h,(i9 ro (n - 1) e w _ hS af).mono fun en w' hA=>?_⟩;obtain ⟨pe,σ',e',hK,pt,jw,hst⟩:=hA
    cases pe with
    | ret pv =>
     obtain ⟨u,rfl,hr⟩:=pt;exact KRel.put hF hL hN bc hZ hd hK hst jw hr
    | panic pv =>
    obtain ⟨u,rfl,hr⟩:=pt;exact ⟨.panic pv,_,e',σ',hK,⟨u,rfl,hr⟩,jw,ZkF hF hst.toLater,hL.trans hst.toLater,hN,bc.later hst.toLater,hZ⟩
   obtain ⟨jo,i9⟩:=hC.iter _ _ _ _ _ h;have uj:ro=none:=hC.out.elim id fun hh=>(hh _ _ _ _ _ h).elim
   subst uj;have aj:(execOp a.eval o).run G.P w=.ok (.enter g (va++args.map a.eval++vc)) w:=by
    exact mq147
   rw [aj,Oper.uponIn_enter];refine ⟨fun h=>by simp [fw] at h,(i9 (n - 1) e w _ hS hL af (hC.raw.later hL)).mono fun en w' hA=>?_⟩;exact mq44
  ·rename_i v bm
   rw [bm] at hx;generalize hv:a.eval x=v' at hx
   cases hx with
   | raw v =>
   obtain ⟨l,rfl,uk⟩:=hC.raw _ _ _ _ h;obtain ⟨fn,tmps,asg,body,hy,mg⟩:=uk ro (n - 1) e w _ hS hL (Zf4 hρ);have aj:(execOp a.eval o).run G.P w=.ok (.round l fn tmps asg body) w:=by
    unfold execOp
    simp only [ho,resolve,hv,Deferred.ofValue,Sem.run_bind,Sem.run_pure,Result.andThen,invoke,Array.empty_append,hy]
   rw [aj,Oper.uponIn_round];refine ⟨fun h=>by simp [fw] at h,mg.mono fun en w' hA=>?_⟩;exact mq44
  exact h.elim
 ·rename_i x ho
  have hx:=hρ x;split at h
  ·rename_i t pv bm
   rw [bm] at hx;generalize hv:a.eval x=v at hx
   cases hx with
   | iface _ _ u hu =>
   have aj:(execOp a.eval o).run G.P w=.halt (.panic (.iface t u)) w:=by
    unfold execOp
    simp only [ho,hv,Instr.panic];rfl
   rw [aj];exact ⟨.panic (.iface t pv),_,e,σ,h,⟨.iface t u,rfl,.iface t pv u hu⟩,hS,ZkF hF (Later.refl _ _ _),hL,hN,bc,hZ⟩
  exact h.elim
 obtain ⟨pv,σ1,v,w1,e1,hK,ul,hst,ii,hr⟩:=ZnS hC.tab hS hρ o h;rcases ul with aj | ⟨aj,rfl⟩
 ·rw [aj];exact KRel.put hF hL hN bc hZ hd hK hst ii hr
 rw [aj];exact KRel.put hF hL hN bc hZ hd hK hst ii hr
def VG (hC:CxOK G C ro e0 σ0 w0) (hS:SRel G e σ w) (hF:FRel G e σ w f a.tmps) (hL:Later e0 σ0 w0 e σ w) (hN:a.tmps.size=N) (bc:Marks ds e σ w a.defers) (hZ:Z a.tmps) {ops:Array Oper} {o:Oper} (hd:∀d,o.dst=some d->d<N/\∀t v,Z t->Z (t.setIfInBounds d v))
  (h:V7 C ops.toList Q o f σ K) :
  if Region.wanted o (yielded ops a.tmps)=true then o.wpIn (fw ro) n G.P a w (KRel G e0 σ0 w0 ds N Z K) (ZP G e0 σ0 w0 ds N Z Q)
  else KRel G e0 σ0 w0 ds N Z K (a.put o.dst Go.undef) w:=by
 unfold V7 at h
 split at h
 ·rename_i hg
  have:Region.wanted o (yielded ops a.tmps)=true:=by simp [Region.wanted,hg]
  rw [Th this];exact JB hC hS hF hL hN bc hZ hd h
 rename_i j want hg
 split at h
 ·rename_i s hs
  have ry:(ops[j]?).bind (·.dst)=some s:=by
   unfold Ve at hs
   rw [Tx] at hs
   cases hoj:ops[j]? with
   | none=>rw [hoj] at hs;cases hs
   | some oj=>rw [hoj] at hs;exact hs
  have yy:=hF s;split at h
  ·rename_i t oa
   rw [oa] at yy;have hv:=yy.dbool;have hy:yielded ops a.tmps j=some t:=by
    unfold yielded
    rw [ry];have:a.tmps[s]?=some (.bool t):=by
     rw [Array.getD_eq_getD_getElem?] at hv
     cases h2:a.tmps[s]? with
     | none=>rw [h2] at hv;cases hv
     | some u=>rw [h2] at hv;simp at hv;rw [hv]
    simp [this]
   have ow:Region.wanted o (yielded ops a.tmps)=(t == want):=by simp [Region.wanted,hg,hy]
   rw [ow]
   cases t <;> cases want <;> simp only [CondP] at h
   ·rw [Ui oa] at h;simp only [beq_self_eq_true,if_true];exact JB hC hS hF hL hN bc hZ hd h
   ·rw [Ui oa] at h;rw [Tf dM];exact KRel.put hF hL hN bc hZ hd h (.refl _ _ _) hS (.raw _)
   ·rw [Ui oa] at h;rw [Tf dM];exact KRel.put hF hL hN bc hZ hd h (.refl _ _ _) hS (.raw _)
   rw [Ui oa] at h;simp only [beq_self_eq_true,if_true];exact JB hC hS hF hL hN bc hZ hd h
  ·rename_i vs oa
   rw [oa] at yy;generalize hv:a.tmps.getD s Go.undef=v at yy
   cases yy
   have hy:yielded ops a.tmps j=none:=by
    unfold yielded
    rw [ry];rw [Array.getD_eq_getD_getElem?] at hv
    cases h2:a.tmps[s]? with
    | none=>simp [h2]
    | some u=>rw [h2] at hv;simp at hv;subst hv;simp [h2]
   have ow:Region.wanted o (yielded ops a.tmps)=false:=by simp [Region.wanted,hg,hy]
   rw [ow,Tf sM];exact KRel.put hF hL hN bc hZ hd h (.refl _ _ _) hS (.raw _)
  exact h.elim
 exact h.elim
def ZbN (hC:CxOK G C ro e0 σ0 w0) (hS:SRel G e σ w) (hF:FRel G e σ w f a.tmps) (hL:Later e0 σ0 w0 e σ w) (hN:a.tmps.size=N) (bc:Marks ds e σ w a.defers) (hZ:Z a.tmps) {ops:Array Oper} {o:Oper} (hd:∀d,o.dst=some d->d<N/\∀t v,Z t->Z (t.setIfInBounds d v))
  (h:ZkB C ops.toList Q o f σ K) :
  if Region.wanted o (yielded ops a.tmps)=true then o.wpIn (fw ro) n G.P a w (KRel G e0 σ0 w0 ds N Z K) (ZP G e0 σ0 w0 ds N Z Q)
  else KRel G e0 σ0 w0 ds N Z K (a.put o.dst Go.undef) w:=by
 unfold ZkB at h
 split at h
 ·rename_i hb
  have hg:o.guard=none:=by
   unfold ZkA at hb
   split at hb
   ·split at hb
    ·assumption
    cases hb
   cases hb
  have:Region.wanted o (yielded ops a.tmps)=true:=by simp [Region.wanted,hg]
  rw [Th this];simp only [ZZ] at h;have im:∀c,o.op≠.defer c:=fun c hc=>by rw [hc] at h;exact h
  refine ⟨fun _ _=>trivial,?_⟩;rw [show (fw ro).round=ro from rfl,Oper.semAt_eq _ _ _ im];obtain ⟨pv,σ1,v,w1,e1,hK,aj,hst,ii,hr⟩:=Zme hC.tab hS (fun x=>ZbL hF x) o h;rw [aj];exact KRel.put hF hL hN bc hZ hd hK hst ii hr
 exact VG hC hS hF hL hN bc hZ hd h
def Ze7 (hC:CxOK G C ro e0 σ0 w0) {ops:Array Oper} (hd:∀o,o∈ops->∀d,o.dst=some d->d<N/\∀t v,Z t->Z (t.setIfInBounds d v)):∀(l:List Oper) (k:Nat),(∀j,l[j]?=ops[k+j]?)->∀{e:Env} {σ:St} {w:World} {a:Act} {f:Frame},
  SRel G e σ w->FRel G e σ w f a.tmps->Later e0 σ0 w0 e σ w->a.tmps.size=N->Marks ds e σ w a.defers->Z a.tmps->Zrj C ops.toList Q l f σ ->
  wpOpsIn (fw ro) n G.P ops (ZP G e0 σ0 w0 ds N Z Q) (List.range' k l.length) a w
 | [],k,_,e,σ,w,a,f,hS,hF,hL,hN,bc,hZ,h=>⟨.normal,f,e,σ,h,rfl,hS,hF,hL,hN,bc,hZ⟩
 | o::l,k,hl,e,σ,w,a,f,hS,hF,hL,hN,bc,hZ,h=>by
  have h0:ops[k]?=some o:=by simpa using (hl 0).symm
  have bi:=ZbN (ro:=ro) (n:=n) hC hS hF hL hN bc hZ (ops:=ops) (hd o (Sd h0)) h;have next:∀a' w',KRel G e0 σ0 w0 ds N Z (Zrj C ops.toList Q l) a' w'->wpOpsIn (fw ro) n G.P ops (ZP G e0 σ0 w0 ds N Z Q) (List.range' (k+1) l.length) a' w':=fun a' w' ⟨f',e',σ',h1,h2,h3,h4,h5,h6,h7⟩ =>
   Ze7 hC hd l (k+1) (fun j=>by have:=hl (j+1);simpa [Sk,Nat.add_comm 1 j] using this) h2 h3 h4 h5 h6 h7 h1
  rw [Td,List.range'_succ];simp only [wpOpsIn,h0];split at bi
  ·rename_i hw
   rw [Th hw];exact Oper.wpIn_mono next bi
  rename_i hw
  rw [Tf hw];exact ⟨fun _ _=>trivial,next _ _ bi⟩
end
end Go.PM
end

section
namespace Go.PM
def Zco {k:IntKind} {n:Int} {K:PV->Prop} (h:ZcK k n K):∃v,K v/\∀K':PV->Prop,K' v->ZcK k n K':=by
 rcases h with ⟨h1,h2⟩ | h
 ·exact ⟨_,h2,fun K' h'=>.inl ⟨h1,h'⟩⟩
 exact ⟨_,h,fun K' h'=>.inr h'⟩
def Zu1 {op:BinOp} {k:IntKind} {a b:Int} {K:PV->Prop} (h:ZyZ op k a b K):∃v,K v/\∀K':PV->Prop,K' v->ZyZ op k a b K':=by
 cases op <;> simp only [ZyZ] at h <;> first
  | exact h.elim
  | exact Zco h
  | exact ⟨_,h,fun K' h'=>h'⟩
  | (obtain ⟨v,h1,h2⟩:=Zco h.2;exact ⟨v,h1,fun K' h'=>⟨h.1,h2 K' h'⟩⟩)
  | exact ⟨_,h.2,fun K' h'=>⟨h.1,h'⟩⟩
def VH {T:Tab}:∀{fs:List (Nat×Nat)} {i:Nat} {xs ys:List PV} {K:Bool->Prop},YK T i fs xs ys K->∃v,K v/\∀K':Bool->Prop,K' v->YK T i fs xs ys K'
 | [],i,xs,ys,K,h=>by cases xs <;> cases ys <;> first | exact ⟨_,h,fun K' h'=>h'⟩ | exact h.elim
 | (o,t)::fs,i,[],ys,K,h=>h.elim
 | (o,t)::fs,i,x::xs,[],K,h=>h.elim
 | (o,t)::fs,i,x::xs,y::ys,K,h=>by
  simp only [YK] at h;split at h
  ·rename_i h1 h2
   split at h
   ·rename_i h3
    obtain ⟨v,g1,g2⟩:=VH h;exact ⟨_,g1,fun K' h'=>by simp only [YK,h1,h2,h3];exact g2 (fun r=>K' _) h'⟩
   exact h.elim
  ·exact mq133
  ·exact mq133
  exact h.elim
def Zzf {T:Tab} {t:TypeId} {x y:Operand} {px py:PV} {K:Bool->Prop} (h:peq T t x y px py K):∃v,K v/\∀K':Bool->Prop,K' v->peq T t x y px py K':=by
 unfold peq at h
 split at h
 case h_7 =>
  rename_i hk
  split at h
  ·rename_i he
   split at h
   ·obtain ⟨v,g1,g2⟩:=VH h;exact ⟨v,g1,fun K' h'=>by simp only [peq,hk,he];exact g2 K' h'⟩
   exact h.elim
  exact h.elim
 all_goals (repeat' split at h) <;> first
  | exact h.elim
  | exact ⟨_,h,fun K' h'=>by simp only [peq, *];exact h'⟩
  | exact ⟨_,h,fun K' h'=>by simp only [peq, *]⟩
def Zu2 {T:Tab} {op:BinOp} {t:TypeId} {x y:Operand} {px py:PV} {K:PV->Prop} (h:Zue T op t x y px py K):∃v,K v/\∀K':PV->Prop,K' v->Zue T op t x y px py K':=by
 unfold Zue at h
 split at h
 ·split at h
  ·obtain ⟨v,h1,h2⟩:=Zco h.2;exact ⟨_,h1,fun K' h'=>⟨h.1,h2 K' h'⟩⟩
  ·exact ⟨_,h.2,fun K' h'=>⟨h.1,h'⟩⟩
  rename_i h1 h2
  split at h
  ·rename_i hk
   obtain ⟨v,g1,g2⟩:=Zu1 h;refine ⟨v,g1,fun K' h'=>?_⟩
   cases op <;> first
    | exact absurd rfl h1
    | exact absurd rfl h2
    | (simp only [Zue,hk];exact g2 K' h')
  exact h.elim
 ·cases op <;> simp only at h <;> first
   | exact h.elim
   | exact ⟨_,h,fun K' h'=>h'⟩
   | exact ⟨_,h.2,fun K' h'=>⟨h.1,h'⟩⟩
 rename_i h1 h2
 cases op <;> simp only at h <;> first
  | exact h.elim
  | (obtain ⟨v, g1, g2⟩ := Zzf h
     refine ⟨_,g1,fun K' h'=>?_⟩;unfold Zue
     split
     ·exact absurd rfl (h1 _ _ _ _ rfl)
     ·exact absurd rfl (h2 _ _ rfl)
     exact g2 _ h')
def ZcW {lo hi:Option PV} {n:Nat} {K:Nat->Nat->Prop} (h:VC lo hi n K):∃a b,K a b/\∀K':Nat->Nat->Prop,K' a b->VC lo hi n K':=by
 unfold VC at h
 split at h
 ·exact ⟨_,_,h,fun K' h'=>h'⟩
 ·split at h
  ·exact ⟨_,_,h.2.2,fun K' h'=>⟨h.1,h.2.1,h'⟩⟩
  exact h.elim
 ·split at h
  ·exact ⟨_,_,h.2.2,fun K' h'=>⟨h.1,h.2.1,h'⟩⟩
  exact h.elim
 split at h
 ·exact ⟨_,_,h.2.2.2,fun K' h'=>⟨h.1,h.2.1,h.2.2.1,h'⟩⟩
 exact h.elim
def Zf5 {T:Tab} {t:TypeId} {x:PV} {bx:List Box} {K:PV->Prop} (h:ZaV T t x bx K):∃v,K v/\∀K':PV->Prop,K' v->ZaV T t x bx K':=by
 unfold ZaV at h
 (repeat' split at h) <;> first
  | exact h.elim
  | exact ⟨_,h,fun K' h'=>by simp only [ZaV, *];exact h'⟩
  | exact ⟨_,h,fun K' h'=>by simp_all [ZaV]⟩
def Zmg {T:Tab} {t:TypeId} {m k:PV} {ok:Bool} {bx:List Box} {K:PV->Prop} (h:YC T t m k ok bx K):∃v,K v/\∀K':PV->Prop,K' v->YC T t m k ok bx K':=by
 unfold YC at h
 split at h
 ·rename_i kt el hk
  split at h
  ·exact h.elim
  rename_i ho
  have lift:∀{X:Prop},X->(match (generalizing:=false) (T.get el).kind with | .other=>False | _=>X):=fun {X} x=>by
   cases ox:(T.get el).kind
   case other=>exact absurd ox ho
   all_goals exact x
  split at h
  ·split at h
   ·rename_i hz
    split at h
    ·exact ⟨_,h,fun K' h'=>by simp only [YC,hk,hz];exact h'⟩
    ·split at h
     ·rename_i hb
      split at h
      ·rename_i hf;exact ⟨_,h,fun K' h'=>by simp only [YC,hk,hz,hb,hf];exact h'⟩
      rename_i hf;exact ⟨_,h,fun K' h'=>by simp only [YC,hk,hz,hb,hf];exact h'⟩
     ·rename_i hb
      exact mq99
     ·rename_i hb
      split at h
      ·exact mq99
      split at h
      ·obtain ⟨rfl,h⟩:=h;exact ⟨_,h,fun K' h'=>by simp only [YC,hk,hz,hb];exact ⟨trivial,h'⟩⟩
      exact h.elim
     exact h.elim
    exact h.elim
   exact h.elim
  exact h.elim
 exact h.elim
def Zrz {m m':List (List UInt8×List (List D))} {fo fo':Option (List UInt8×PV)} (h:ZBz m fo=ZBz m' fo'):m=m'/\fo=fo':=by
 unfold ZBz at h
 obtain ⟨h1,h2⟩:=List.cons.inj h;refine ⟨List.map_inj_right (fun x y wv=>?_) |>.1 h2,?_⟩
 ·obtain ⟨x1,x2⟩:=x;obtain ⟨y1,y2⟩:=y;simp at wv;rw [wv.1,wv.2]
 cases fo with
 | none=>cases fo' with
  | none=>rfl
  | some kv=>cases h1
 | some kv=>cases fo' with
  | none=>cases h1
  | some kv' =>
   obtain ⟨k,v⟩:=kv;obtain ⟨k',v'⟩:=kv';simp at h1;rw [h1.1,h1.2]
def Zf6 {T:Tab} {t:TypeId} {m k:PV} {ok:Bool} {bx bx':List Box} {K:PV->Prop} (hl:∀b,m=.mp b->Z8 bx b 0 0=Z8 bx' b 0 0) (h:YC T t m k ok bx K):YC T t m k ok bx' K:=by
 cases m with
 | mp b =>
  have hc:=hl b rfl;have:(∀cs bn ck,bx[b]?=some (.map cs bn ck)->∃bn' ck',bx'[b]?=some (.map cs bn' ck')):=fun cs bn ck hb=>by
   unfold Z8 at hc
   rw [hb] at hc;simp only at hc;split at hc
   ·cases hc
   ·rename_i cs' bn' ck' gc;cases hc;exact ⟨bn',ck',gc⟩
   ·cases hc
   ·cases hc
   cases hc
  have this2:∀l,bx[b]?=some (.dmap l)->bx'[b]?=some (.dmap l):=fun l hb=>by
   unfold Z8 at hc
   rw [hb] at hc;simp only at hc;split at hc
   ·cases hc
   ·cases hc
   ·rename_i gc;cases hc;exact gc
   ·cases hc
   cases hc
  have this3:∀el m fo,bx[b]?=some (.smap el m fo)->∃el',bx'[b]?=some (.smap el' m fo):=fun el m fo hb=>by
   unfold Z8 at hc
   rw [hb] at hc;simp only at hc;split at hc
   ·cases hc
   ·cases hc
   ·cases hc
   ·rename_i el' m' fo' gc
    obtain ⟨rfl,rfl⟩:=Zrz (Prod.mk.inj (Prod.mk.inj (Option.some.inj hc)).2).1;exact ⟨el',gc⟩
   cases hc
  unfold YC at h |-
  split at h
  ·rename_i kt el hk
   split at h
   ·exact h.elim
   rename_i ho
   have lift:∀{X:Prop},X->(match (generalizing:=false) (T.get el).kind with | .other=>False | _=>X):=fun {X} x=>by
    cases ox:(T.get el).kind
    case other=>exact absurd ox ho
    all_goals exact x
   split at h
   ·split at h
    ·simp only at h |-;split at h
     ·rename_i cs bn ck hb
      obtain ⟨bn',ck',gc⟩:=this cs bn ck hb;simp only [gc];exact h
     ·rename_i l hb
      simp only [this2 l hb];exact h
     ·rename_i el2 l fo hb
      obtain ⟨el',gc⟩:=this3 el2 l fo hb;simp only [gc];exact h
     exact h.elim
    exact h.elim
   exact h.elim
  exact h.elim
 | _=>exact h
def ZnW {T:Tab} {t:TypeId} {x:PV} {lo hi:Option PV} {K:PV->Prop} (h:Je T t x lo hi K):∃v,K v/\∀K':PV->Prop,K' v->Je T t x lo hi K':=by
 unfold Je at h
 split at h
 ·rename_i hk
  split at h
  ·obtain ⟨a,b,h1,h2⟩:=ZcW h;exact ⟨_,h1,fun K' h'=>by simp only [Je,hk];exact h2 (fun a b=>K' _) h'⟩
  exact h.elim
 ·rename_i el hk
  split at h
  ·exact h.elim
  rename_i be
  split at h
  ·rename_i rows bq
   obtain ⟨hw,h⟩:=h;obtain ⟨a,b,h1,h2⟩:=ZcW h;refine ⟨_,h1,fun K' h'=>?_⟩;unfold Je
   rw [hk];dsimp only
   cases fc:(T.get el).kind
   case other=>exact absurd fc be
   all_goals (dsimp only;rw [bq];exact ⟨hw,h2 (fun a b=>K' _) h'⟩)
  exact h.elim
 ·rename_i n el hk
  split at h
  ·exact h.elim
  rename_i be
  split at h
  ·refine ⟨_,h,fun K' h'=>?_⟩;unfold Je
   rw [hk];dsimp only
   cases fc:(T.get el).kind
   case other=>exact absurd fc be
   all_goals exact h'
  ·rename_i rn rp
   obtain ⟨g1,g2,h⟩:=h;refine ⟨_,h,fun K' h'=>?_⟩;unfold Je
   rw [hk];dsimp only
   cases fc:(T.get el).kind
   case other=>exact absurd fc be
   all_goals exact ⟨g1,g2,h'⟩
  exact h.elim
 exact h.elim
def Zi6 {T:Tab} {fs:List (Nat×Nat)} {ρ:Operand->PV}:∀{ps:List (Nat×Operand)} {cs:List PV} {K:List PV->Prop},Yw T fs ρ ps cs K->∃v,K v/\∀K':List PV->Prop,K' v->Yw T fs ρ ps cs K'
 | [],cs,K,h=>⟨cs,h,fun K' h'=>h'⟩
 | (i,x)::ps,cs,K,h=>by
  simp only [Yw] at h;split at h
  ·split at h
   ·exact h.elim
   ·obtain ⟨v,h1,h2⟩:=Zi6 h;exact ⟨v,h1,fun K' h'=>by have:=h2 K' h';simp only [Yw, *]⟩
   exact h.elim
  exact h.elim
def Zzg {T:Tab} {o:Op} {ty:TypeId} {ρ:Operand->PV} {bx:List Box} {K:PV->Prop} (h:qop T o ty ρ bx K):∃v,K v/\∀K':PV->Prop,K' v->qop T o ty ρ bx K':=by
 unfold qop at h
 split at h
 case h_5=>obtain ⟨v,h1,h2⟩:=Zf5 h;exact ⟨v,h1,fun K' h'=>h2 K' h'⟩
 case h_6=>obtain ⟨v,h1,h2⟩:=Zmg h;exact ⟨v,h1,fun K' h'=>h2 K' h'⟩
 case h_8=>obtain ⟨v,h1,h2⟩:=Zu2 h;exact ⟨v,h1,fun K' h'=>h2 K' h'⟩
 case h_15=>obtain ⟨v,h1,h2⟩:=ZnW h;exact ⟨v,h1,fun K' h'=>h2 K' h'⟩
 case h_4 =>
  split at h
  ·rename_i fs hk;obtain ⟨v,h1,h2⟩:=Zi6 h;exact ⟨_,h1,fun K' h'=>by simp only [qop,hk];exact h2 (fun cs=>K' (.agg cs)) h'⟩
  ·rename_i n el hk
   split at h
   ·exact h.elim
   rename_i be
   split at h
   ·rename_i bu
    obtain ⟨v,h1,h2⟩:=Zi6 h;refine ⟨_,h1,fun K' h'=>?_⟩;have h3:=h2 (fun cs=>K' (.agg cs)) h';simp only [qop,hk]
    cases ox:(T.get el).kind
    case other=>exact absurd ox be
    all_goals (simp only [bu];exact h3)
   exact h.elim
  exact h.elim
 case h_3 =>
  split at h
  ·rename_i t bm
   cases t
   ·exact ⟨_,h,fun K' h'=>by simp only [qop,bm];exact h'⟩
   exact ⟨_,h,fun K' h'=>by simp only [qop,bm];exact h'⟩
  exact h.elim
 all_goals (repeat' split at h) <;> first
  | exact h.elim
  | exact ⟨_,h,fun K' h'=>by first | (simp only [qop, *];exact h') | (simp only [qop, *])⟩
  | (obtain ⟨v,h1,h2⟩:=Zco h;exact ⟨_,h1,fun K' h'=>by first | (simp only [qop, *];exact h2 K' h') | (simp only [qop, *])⟩)
  | (obtain ⟨h1,h2⟩:=h;exact ⟨_,h2,fun K' h'=>by simp only [qop, *];exact ⟨h1,h'⟩⟩)
  | (obtain ⟨h0,h1,h2⟩:=h;exact ⟨_,h2,fun K' h'=>by first | (simp only [qop, *];exact ⟨h0,h1,h'⟩) | (simp only [qop, *];exact ⟨trivial,trivial,h'⟩)⟩)
  | skip
 ·rename_i h1 _ h2 _ h3 _ rows h4
  obtain ⟨l,hl,hK⟩:=h;exact ⟨_,hK,fun K' h'=>by simp only [qop,h1,h2,h3,h4];exact ⟨l,hl,h'⟩⟩
 ·rename_i h1 _ h2 _ s h3
  obtain ⟨h4,h5,hK⟩:=h;exact ⟨_,hK,fun K' h'=>by simp only [qop,h1,h2,h3];exact ⟨h4,h5,h'⟩⟩
 ·rename_i hi _ m el hk _ cs hx _ ha _ l hl
  obtain ⟨h4,h5,hK⟩:=h;exact ⟨_,hK,fun K' h'=>by simp only [qop,hi,hk,hx,ha,hl];exact ⟨h4,h5,h'⟩⟩
 ·rename_i hi _ m el hk _ cs hx _ ha _ ho _ hs _ v hv
  obtain ⟨h4,h5,hK⟩:=h;refine ⟨_,hK,fun K' h'=>?_⟩;simp only [qop,hi,hk,hx,ha]
  cases fc:(T.get el).kind
  case other=>exact absurd fc ho
  all_goals (simp only [hs,hv];exact ⟨h4,h5,h'⟩)
 ·rename_i hi _ el hk _ ho _ b off m hx
  exact mq109
 ·rename_i hi _ el hk _ ho _ ai _ rows hr
  obtain ⟨r,h4,h5,h6⟩:=h;split at h6
  ·rename_i h7
   refine ⟨_,h6,fun K' h'=>?_⟩;simp only [qop,hi,hk]
   cases fc:(T.get el).kind
   case other=>exact absurd fc ho
   all_goals
    split
    ·rename_i ca;rw [hr] at ca;cases ca;exact ⟨r,h4,h5,by simp only [h7];exact h'⟩
    rename_i ca;exact (ca _ hr).elim
  exact h6.elim
 rename_i hi _ m el hk _ ho _ b off hx
 exact mq109
def Zmh {T:Tab} {o:Op} {ty:TypeId} {ρ:Operand->PV} {bx:List Box} {K:PV->Prop} (h1:Zl3 T o=none) (h2:∀t n ps,o=.buildSlice t n ps->False) (h3:∀t l c,o=.makeSlice t l c->False):Zhr T o ty ρ bx K=qop T o ty ρ bx K:=by
 unfold Zhr
 rw [h1]
 cases o <;> first | rfl | exact (h2 _ _ _ rfl).elim | exact (h3 _ _ _ rfl).elim
def ZnX {T:Tab} {o:Op} {ty:TypeId} {ρ:Operand->PV} {bx:List Box} {K:PV->Prop} (h:Zhr T o ty ρ bx K):∃v,K v/\∀K':PV->Prop,K' v->Zhr T o ty ρ bx K':=by
 unfold Zhr at h
 split at h
 ·rename_i x hx
  split at h
  ·rename_i s bm
   exact ⟨_,h,fun K' h'=>by unfold Zhr;rw [hx];simp only [bm];exact h'⟩
  exact h.elim
 rename_i hx
 split at h
 ·rename_i t n ps
  (repeat' split at h) <;> first
   | exact h.elim
   | (refine ⟨_,h,fun K' h'=>?_⟩;unfold Zhr;rw [hx];simp only [*])
 ·rename_i t l c
  (repeat' split at h) <;> first
   | exact h.elim
   | (obtain ⟨rfl,q2,q3,q4,h⟩:=h;refine ⟨_,h,fun K' h'=>?_⟩;unfold Zhr;rw [hx];simp only [*];exact ⟨by simp_all,by simp_all,by simp_all,by simp_all,by first | exact h' | trivial⟩)
 rename_i jp x8
 obtain ⟨v,h1,h2⟩:=Zzg h;exact ⟨v,h1,fun K' h'=>by rw [Zmh hx jp x8];exact h2 K' h'⟩
def Zi7 {bx bx':List Box} {b off n:Nat} (h:Z8 bx b off n=Z8 bx' b off n) {t:TypeId} {cs:List PV} (hb:bx[b]?=some (.cells t cs)) :
  ∃t' cs',bx'[b]?=some (.cells t' cs')/\(cs.drop off).take n=(cs'.drop off).take n:=by
 unfold Z8 at h
 rw [hb] at h;simp only at h;split at h
 ·rename_i t' cs' gc;exact ⟨t',cs',gc,(Prod.mk.inj (Prod.mk.inj (Option.some.inj h)).2).1⟩
 ·cases h
 ·cases h
 ·cases h
 cases h
def ZcX {α:Type}:∀{n:Nat} {l m:List α},l.take n=m.take n->V6 n l=V6 n m
 | 0,_,_,_=>rfl
 | n+1,[],[],_=>rfl
 | n+1,[],y::m,h=>by simp at h
 | n+1,x::l,[],h=>by simp at h
 | n+1,x::l,y::m,h=>by
  simp only [List.take_succ_cons,List.cons.injEq] at h;obtain ⟨rfl,h⟩:=h;simp only [V6,ZcX h]
def Zi8 {T:Tab} {t:TypeId} {x:PV} {bx bx':List Box} {K:PV->Prop} (ba:(T.get t).kind≠.other->(T.get t).kind.isAgg=false->(T.get t).size=1) (hl:∀b off,x=.ptr b off->Z8 bx b off (T.get t).size=Z8 bx' b off (T.get t).size)
  (h:ZaV T t x bx K):ZaV T t x bx' K:=by
 unfold ZaV at h |-
 split at h
 ·rename_i b off
  have hc:=hl b off rfl;split at h
  ·rename_i ty cs hb
   obtain ⟨t',cs',gc,rz⟩:=Zi7 hc hb;simp only [gc];split at h
   ·rename_i hk
    rw [<- ZcX rz];exact h
   rename_i hk
   have h1:(T.get t).kind≠.other->cs[off]?=cs'[off]?:=fun ho=>by
    have hp:=ba ho hk;have:=congrArg (·[0]?) rz
    simpa [SN,hp] using this
   cases be:(T.get t).kind <;> rw [be] at h <;> simp only at h |- <;> first | exact h.elim | (rw [<- h1 (by rw [be];simp)];exact h)
  exact h.elim
 ·exact h
 exact h.elim
def ZnY {T:Tab} {o:Op} {ty:TypeId} {ρ ρ':Operand->PV} {bx bx':List Box} {K:PV->Prop} (hρ:∀x,x∈o.operands->ρ x=ρ' x)
  (ba:∀t,(T.get t).kind≠.other->(T.get t).kind.isAgg=false->(T.get t).size=1)
  (hl:∀b off n,Zrk T o ρ=some (b,off,n)->Z8 bx b off n=Z8 bx' b off n) (h:qop T o ty ρ bx K):qop T o ty ρ' bx' K:=by
 cases o with
 | load t a =>
  have ha:ρ a=ρ' a:=hρ a oP;simp only [qop] at h |-;rw [<- ha];exact Zi8 (ba t) (fun b off hx=>hl b off _ (by simp only [Zrk,hx])) h
 | lookup t m k ok =>
  simp only [qop] at h |-;rw [<- hρ m oP,<- hρ k oP];exact Zf6 (fun b hx=>hl b 0 0 (by simp only [Zrk,hx])) h
 | build t ps =>
  simp only [qop] at h |-;have fillC:∀fs (l:List (Nat×Operand)),(∀p∈l,ρ p.2=ρ' p.2)->∀cs (K:List PV->Prop),Yw T fs ρ l cs K->Yw T fs ρ' l cs K:=by
    intro fs l
    induction l with
    | nil=>intro _ cs K h;exact h
    | cons p l ih =>
    intro hp cs K h
    obtain ⟨i,x⟩:=p;simp only [Yw] at h |-;rw [<- hp (i,x) sM];split at h
    ·rename_i h1 h2
     split at h
     ·exact h.elim
     ·rename_i h3 h4 h5
      simp only [h1,h2,h3,h4]
      cases ox:(T.get _).kind
      case other=>exact absurd ox h5
      all_goals exact ih (fun q hq=>hp q (by simp [hq])) _ _ h
     exact h.elim
    exact h.elim
  have ui:∀p∈ps.toList,ρ p.2=ρ' p.2:=fun p hp=>hρ p.2 (by simp only [Op.operands];exact TN.2 (by simp only [Ss];exact ⟨p,hp,rfl⟩))
  split at h
  ·exact fillC _ ps.toList ui _ _ h
  ·rename_i n el hk
   split at h
   ·exact h.elim
   rename_i be
   split at h
   ·rename_i bu
    cases ox:(T.get el).kind
    case other=>exact absurd ox be
    all_goals (exact fillC _ ps.toList ui _ _ h)
   exact h.elim
  exact h.elim
 | slice t x lo hi mx =>
  cases mx with
  | some _=>exact h
  | none =>
  simp only [qop] at h |-;have h1:ρ x=ρ' x:=hρ x oP;have h2:lo.map ρ=lo.map ρ':=by cases lo with | none=>rfl | some a=>simp [hρ a oP]
  have h3:hi.map ρ=hi.map ρ':=by cases hi with | none=>rfl | some a=>simp [hρ a oP]
  rw [<- h1,<- h2,<- h3];exact h
 | makeFunc fn a c =>
  cases fn with
  | func g =>
   simp only [qop] at h |-;have h1:a.toList.map ρ=a.toList.map ρ':=Sx fun x hx=>hρ x (by simp only [Op.operands,Array.mem_append];exact .inl (TN.2 hx))
   have h2:c.toList.map ρ=c.toList.map ρ':=Sx fun x hx=>hρ x (by simp only [Op.operands,Array.mem_append];exact .inr (TN.2 hx))
   rw [<- h1,<- h2];exact h
  | _=>exact h
 | call c =>
  obtain ⟨callee,args,argTypes⟩:=c
  cases callee with
  | builtin b =>
   simp only [qop] at h |-;have h1:args.toList.map ρ=args.toList.map ρ':=Sx fun x hx=>hρ x (by simp only [Op.operands,Call.operands,Array.empty_append];exact TN.2 hx)
   rw [<- h1];split at h
   ·rename_i t ts v ym bv
    split at h
    ·exact h
    ·exact h
    ·rename_i hk
     split at h
     ·exact h
     ·rename_i b
      have hc:=hl b 0 0 (by simp only [Zrk,bv]);split at h
      ·rename_i cs bn ck hb
       unfold Z8 at hc
       rw [hb] at hc;simp only at hc;split at hc
       ·cases hc
       ·rename_i cs' bn' ck' gc;cases hc;simp only [gc];exact h
       ·cases hc
       ·cases hc
       cases hc
      ·rename_i m hb
       unfold Z8 at hc
       rw [hb] at hc;simp only at hc;split at hc
       ·cases hc
       ·cases hc
       ·rename_i gc;cases hc;simp only [gc];exact h
       ·cases hc
       cases hc
      exact h.elim
     exact h.elim
    exact h.elim
   ·exact h
   ·exact h
   exact h.elim
  | _=>exact h
 | move x=>simp only [qop] at h |-;rw [<- hρ x oP];exact h
 | assign x=>simp only [qop] at h |-;rw [<- hρ x oP];exact h
 | pick c a b=>simp only [qop] at h |-;rw [<- hρ c oP,<- hρ a oP,<- hρ b oP];exact h
 | nilCheck x=>simp only [qop] at h |-;rw [<- hρ x oP];exact h
 | binOp op t x y yt=>simp only [qop] at h |-;rw [<- hρ x oP,<- hρ y oP];exact h
 | unOp op t x=>simp only [qop] at h |-;rw [<- hρ x oP];exact h
 | convert s d x=>simp only [qop] at h |-;rw [<- hρ x oP];exact h
 | fieldAddr s x i=>simp only [qop] at h |-;rw [<- hρ x oP];exact h
 | field s x i=>simp only [qop] at h |-;rw [<- hρ x oP];exact h
 | index t x i=>simp only [qop] at h |-;rw [<- hρ x oP,<- hρ i oP];exact h
 | indexAddr t x i=>simp only [qop] at h |-;rw [<- hρ x oP,<- hρ i oP];exact h
 | extract x i=>simp only [qop] at h |-;rw [<- hρ x oP];exact h
 | makeInterface t x=>simp only [qop] at h |-;rw [<- hρ x oP];exact h
 | typeAssert x xt t b=>cases b <;> simp only [qop] at h |- <;> first | exact h.elim | (rw [<- hρ x oP];exact h)
 | _=>exact h
def Zf7 {T:Tab} {o:Op} {x:Operand} (h:Zl3 T o=some x):x∈o.operands/\∀t a,o≠.load t a:=by
 unfold Zl3 at h
 split at h
 ·(repeat' split at h) <;> first | cases h;done | (cases h;exact ⟨oP,fun t a hh=>by cases hh⟩)
 cases h
def Jl {w:Nat} {ρ ρ':Operand->PV}:∀{ps:List (Nat×Operand)} (_:∀p∈ps,ρ p.2=ρ' p.2) (rows:List (List D)),X7 w ρ ps rows=X7 w ρ' ps rows
 | [],_,_=>rfl
 | (i,x)::ps,h,rows=>by
  simp only [X7];rw [<- h (i,x) sM]
  cases Zi0 (ρ x) with
  | none=>rfl
  | some r =>
  have ih:=Jl (w:=w) (ρ:=ρ) (ρ':=ρ') (ps:=ps) (fun p hp=>h p (TA _ hp)) (rows.set i r);simp only [ih]
def Ze8 {T:Tab} {o:Op} {ty:TypeId} {ρ ρ':Operand->PV} {bx bx':List Box} {K:PV->Prop} (hρ:∀x,x∈o.operands->ρ x=ρ' x)
  (ba:∀t,(T.get t).kind≠.other->(T.get t).kind.isAgg=false->(T.get t).size=1)
  (hl:∀b off n,Zrk T o ρ=some (b,off,n)->Z8 bx b off n=Z8 bx' b off n) (h:Zhr T o ty ρ bx K):Zhr T o ty ρ' bx' K:=by
 unfold Zhr at h |-
 split at h
 ·rename_i x hx
  rw [<- hρ x (Zf7 hx).1];exact h
 rename_i hx
 split at h
 ·rename_i t n ps
  have:∀w rows,X7 w ρ ps.toList rows=X7 w ρ' ps.toList rows:=fun w rows=>Jl (fun p hp=>hρ p.2 (by simp only [Op.operands];exact TN.2 (by simp only [Ss];exact ⟨p,hp,rfl⟩))) rows
  simp only [ZcL,this] at h |-;exact h
 ·rename_i t l c
  rw [<- hρ l oP,<- hρ c oP];exact h
 exact ZnY hρ ba hl h
def ZnZ {T:Tab} {o:Op} {ρ ρ':Operand->PV} {σ:St} {K:PV->St->Prop} (hρ:∀x,x∈o.operands->ρ x=ρ' x) (h:eop T o ρ σ K):eop T o ρ' σ K:=by
 cases o with
 | box e x=>simp only [eop] at h |-;rw [<- hρ x oP];exact h
 | store t a x=>simp only [eop] at h |-;rw [<- hρ a oP,<- hρ x oP];exact h
 | mapUpdate t a x v=>simp only [eop] at h |-;rw [<- hρ a oP,<- hρ x oP,<- hρ v oP];exact h
 | insert t a x v=>simp only [eop] at h |-;rw [<- hρ a oP,<- hρ x oP,<- hρ v oP];exact h
 | makeMap t r=>cases r <;> exact h
 | range t x=>simp only [eop] at h |-;rw [<- hρ x oP];exact h
 | next x b=>cases b <;> simp only [eop] at h |- <;> first | exact h | (rw [<- hρ x oP];exact h)
 | call c =>
  obtain ⟨callee,args,argTypes⟩:=c
  cases callee with
  | builtin b =>
   cases b with
   | append =>
    simp only [eop] at h |-;have h1:args.toList.map ρ=args.toList.map ρ':=Sx fun x hx=>hρ x (by simp only [Op.operands,Call.operands,Array.empty_append];exact TN.2 hx)
    rw [<- h1];exact h
   | _=>exact h
  | _=>exact h
 | _=>exact h
end Go.PM
end
