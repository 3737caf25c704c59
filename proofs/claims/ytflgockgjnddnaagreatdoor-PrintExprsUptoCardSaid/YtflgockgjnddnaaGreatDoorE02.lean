/- A part of the proof: plain logic, contracts and laws over the given program. -/
import Derived.Deep.AppendSrc
import Derived.Deep.Upon
import Derived.Lib.OthersKept
import Derived.Lib.ConvBytes
import Derived.OrdersIn
import Derived.Test.YtflgockgjnddnaaGreatDoorE01
set_option linter.unusedVariables false
set_option linter.unusedSimpArgs false
set_option linter.all false
set_option maxRecDepth 100000
set_option maxHeartbeats 16000000
section
namespace Go.PM
section
variable {G:GE} {e:Env} {σ:St} {w:World} {T:Tab}
structure Grows (w w1:World):Prop where
 os:w1.os=w.os
 tape:w1.tape=w.tape
 output:w1.output=w.output
 size:w.heap.size≤w1.heap.size
 old:∀b,b<w.heap.size→w1.heap[b]?=w.heap[b]?
theorem Grows.refl (w:World):Grows w w:=⟨rfl,rfl,rfl,Tq _,fun _ _=>rfl⟩
theorem Grows.trans {a b c:World} (h:Grows a b) (k:Grows b c):Grows a c :=
 ⟨k.os.trans h.os,k.tape.trans h.tape,k.output.trans h.output,TO h.size k.size,fun i hi=>(k.old i (TD hi h.size)).trans (h.old i hi)⟩
theorem Grows.alloc (w:World) (o:Obj):Grows w (w.alloc o):=⟨rfl,rfl,rfl,by simp only [World.alloc,Array.size_push];omega,fun i hi=>heap_alloc_old w o i hi⟩
theorem Grows.drew (w:World):Grows w w.drew:=⟨rfl,rfl,rfl,Tq _,fun _ _=>rfl⟩
theorem Grows.cell {w w1:World} (h:Grows w w1) {b off:Nat} (hb:b<w.heap.size):w1.cell? ⟨b,off,none⟩=w.cell? ⟨b,off,none⟩:=by simp [World.cell?,h.old b hb]
theorem Grows.stepped {w1:World} (h:Grows w w1) (e:Env) (σ:St):Stepped e σ w e σ w1 where
 len:=Tq _
 beta:=fun _ _=>rfl
 X:=rfl
 pres:=fun b off u hc ho=>⟨ho,(h.cell (UQ hc)).trans hc⟩
 blocks:=fun b hb _ _=>h.old b hb
 size:=h.size
 os:=h.os
 tape:=h.tape
 output:=h.output
 fresh:=fun i h1 h2=>by omega
 ftok:=fun t ht p hp=>.inr ⟨t,ht,p,hp,rfl⟩
 nx:=Tq _
 toks:=fun _ _ ht=>⟨ht,rfl⟩
 own:=fun _ _ _ _ _ hp=>h.old _ hp
theorem SRel.grow (hS:SRel G e σ w) {w1:World} (h:Grows w w1):SRel G e σ w1 where
 inj:=hS.inj
 box:=fun i x hx=>(hS.box i x hx).step (h.stepped e σ) (h.old _ (hS.lt (Th.1 hx).1))
 low:=hS.low
 tkn:=hS.tkn
 own:=fun t ht p hp=>by
  obtain ⟨h1,h2,cs,ty,fz,h3⟩:=hS.own t ht p hp;exact ⟨h1,h2,cs,ty,fz,(h.old _ (Tp.1 h3).1).trans h3⟩
 dis:=hS.dis
 xown:=hS.xown
 xlt:=fun b off hx=>TD (hS.xlt b off hx) h.size
 glob:=fun b hb=>(h.old b (TD hb hS.big)).trans (hS.glob b hb)
 big:=TO hS.big h.size
def Env.more (e:Env) (n b:Nat):Env:={ e with β:=fun i=>if i=n then b else e.β i }
theorem ZAn (σ:St) (x:Box):(σ.new x).bx.length=σ.bx.length+1:=by simp [St.new]
theorem Zeh (hS:SRel G e σ w) (x:Box) (ob:Obj) (hob:∀e1 σ1 w1,Stepped e σ w e1 σ1 w1→w1.heap[w.heap.size]?=some ob→BRel G e1 σ1 w1 x w.heap.size) :
  Stepped e σ w (e.more σ.bx.length w.heap.size) (σ.new x) (w.alloc ob)∧SRel G (e.more σ.bx.length w.heap.size) (σ.new x) (w.alloc ob) ∧
   VRel G (e.more σ.bx.length w.heap.size) (σ.new x) (w.alloc ob) (.ptr σ.bx.length 0) (.pointer (some ⟨w.heap.size,0,none⟩)):=by
 have hg:=Grows.alloc w ob;have hβ:∀i,i<σ.bx.length→(e.more σ.bx.length w.heap.size).β i=e.β i:=fun i hi=>by simp only [Env.more];rw [Tc (by omega)]
 have hβn:(e.more σ.bx.length w.heap.size).β σ.bx.length=w.heap.size:=by simp [Env.more]
 have hst:Stepped e σ w (e.more σ.bx.length w.heap.size) (σ.new x) (w.alloc ob):={
  len:=by rw [ZAn];omega
  beta:=hβ
  X:=rfl
  pres:=fun b off u hc ho=>⟨⟨ho.1,fun i hi=>by
    have hb:=UQ hc;rw [ZAn] at hi
    by_cases h:i=σ.bx.length
    ·rw [h,hβn];omega
    ·rw [hβ i (by omega)];exact ho.2.1 i (by omega),ho.2.2⟩,(hg.cell (UQ hc)).trans hc⟩
  blocks:=fun b hb _ _=>hg.old b hb
  size:=hg.size
  os:=rfl
  tape:=rfl
  output:=rfl
  fresh:=fun i h1 h2=>by
   rw [ZAn] at h2;rw [show i=σ.bx.length by omega,hβn];exact Tq _
  ftok:=fun t ht p hp=>.inr ⟨t,ht,p,hp,rfl⟩
  nx:=Tq _
  toks:=fun _ _ ht=>⟨ht,rfl⟩
  own:=fun _ _ _ _ _ hp=>hg.old _ hp }
 refine ⟨hst,?_,?_⟩
 ·exact {
   inj:=fun i j hi hj hij=>by
    rw [ZAn] at hi hj
    by_cases h1:i=σ.bx.length <;> by_cases h2:j=σ.bx.length
    ·omega
    ·rw [h1,hβn,hβ j (by omega)] at hij;have:=hS.lt (i:=j) (by omega);omega
    ·rw [h2,hβn,hβ i (by omega)] at hij;have:=hS.lt (i:=i) (by omega);omega
    ·rw [hβ i (by omega),hβ j (by omega)] at hij;exact hS.inj i j (by omega) (by omega) hij
   box:=fun i y hy=>by
    have hi:=(Th.1 hy).1;rw [ZAn] at hi
    by_cases h1:i=σ.bx.length
    ·subst h1;rw [hβn];simp [St.new] at hy;subst hy;exact hob _ _ _ hst (heap_alloc_new w ob)
    ·have hi':i<σ.bx.length:=by omega
     rw [hβ i hi'];simp only [St.new,TF hi'] at hy;exact (hS.box i y hy).step hst (hg.old _ (hS.lt hi'))
   low:=fun i hi=>by
    rw [ZAn] at hi
    by_cases h1:i=σ.bx.length
    ·rw [h1,hβn];exact hS.big
    ·rw [hβ i (by omega)];exact hS.low i (by omega)
   tkn:=hS.tkn
   own:=fun t ht p hp=>by
    obtain ⟨h1,h2,cs,ty,fz,h3⟩:=hS.own t ht p hp;have hlt:=(Tp.1 h3).1;refine ⟨h1,fun i hi=>?_,cs,ty,fz,(hg.old _ hlt).trans h3⟩;rw [ZAn] at hi
    by_cases h4:i=σ.bx.length
    ·rw [h4,hβn];omega
    ·rw [hβ i (by omega)];exact h2 i (by omega)
   dis:=hS.dis
   xown:=hS.xown
   xlt:=fun b off hx=>TD (hS.xlt b off hx) hg.size
   glob:=fun b hb=>(hg.old b (TD hb hS.big)).trans (hS.glob b hb)
   big:=TO hS.big hg.size }
 ·have:=VRel.ptr (G:=G) (e:=e.more σ.bx.length w.heap.size) (σ:=σ.new x) (w:=w.alloc ob) σ.bx.length 0 (by rw [ZAn];omega)
  rwa [hβn] at this
theorem Zei (hS:SRel G e σ w) (t:TypeId) (cs:List PV) (vs:Array Value) (hs:vs.size=cs.length) (hr:∀(i:Nat) (x:PV) (u:Value),cs[i]?=some x→vs[i]?=some u→VRel G e σ w x u∧u.oneCell'=true) :
  Stepped e σ w (e.more σ.bx.length w.heap.size) (σ.new (.cells t cs)) (w.alloc (.cells vs t))∧SRel G (e.more σ.bx.length w.heap.size) (σ.new (.cells t cs)) (w.alloc (.cells vs t)) ∧
   VRel G (e.more σ.bx.length w.heap.size) (σ.new (.cells t cs)) (w.alloc (.cells vs t)) (.ptr σ.bx.length 0) (.pointer (some ⟨w.heap.size,0,none⟩)) :=
 Zeh hS (.cells t cs) (.cells vs t) (fun _ _ _ hst hh=>⟨vs,hh,hs,fun i x u hx hu=>⟨(hr i x u hx hu).1.step hst,(hr i x u hx hu).2⟩⟩)
def Ztl (P:Program) (ρ':Operand→Value) (o:Oper) (w:World) (v:Value) (w1:World):Prop :=
 (execOp ρ' o).run P w=.ok (.value v) w1∨((execOp ρ' o).run P w=.ok .skip w1∧v=Go.undef)
theorem XF (b:Nat):∀(vs:List Value) (o:Nat) (w:World) (cs:Array Value) (ty:TypeId) (fz:Nat×Nat),w.heap[b]?=some (.cells cs ty fz) →
  ∃cs',(w.setCells b o vs).heap[b]?=some (.cells cs' ty fz)∧cs'.size=cs.size∧∀i,cs'[i]?=if o≤i∧i<o+vs.length∧i<cs.size then vs[i - o]? else cs[i]?
 | [],o,w,cs,ty,fz,h=>⟨cs,h,rfl,fun i=>by rw [Tc];simp;omega⟩
 | v::vs,o,w,cs,ty,fz,h=>by
  have h1:(w.setCell ⟨b,o,none⟩ v).heap[b]?=some (.cells (cs.setIfInBounds o v) ty fz):=by
   simp [World.setCell,Array.getElem?_modify,h]
  obtain ⟨cs',h2,h3,h4⟩:=XF b vs (o+1) _ _ ty fz h1;refine ⟨cs',h2,by rw [h3];simp,fun i=>?_⟩;rw [h4];simp only [Array.size_setIfInBounds,Td,TZ]
  by_cases hi:o+1≤i∧i<o+1+vs.length∧i<cs.size
  ·rw [Tf hi,Tf ⟨by omega,by omega,by omega⟩,show i - o=(i - (o+1))+1 by omega,T1]
  ·rw [Tc hi]
   by_cases h5:o=i
   ·subst h5
    by_cases h6:o<cs.size
    ·rw [Tf rfl,Tf h6,Tf ⟨by omega,by omega,h6⟩];simp
    ·rw [Tf rfl,Tc h6,Tc (by omega)];simp [h6]
   ·rw [Tc h5,Tc (by omega)]
theorem YY (b:Nat):∀(vs:List Value) (o:Nat) (w:World),(w.setCells b o vs).heap.size=w.heap.size
 | [],_,_=>rfl
 | v::vs,o,w=>by
  show ((w.setCell ⟨b,o,none⟩ v).setCells b (o+1) vs).heap.size=_;rw [YY b vs];simp [World.setCell]
theorem Xq (b:Nat):∀(vs:List Value) (o:Nat) (w:World),(w.setCells b o vs).os=w.os∧(w.setCells b o vs).tape=w.tape∧(w.setCells b o vs).output=w.output∧∀k,k≠b→(w.setCells b o vs).heap[k]?=w.heap[k]?
 | [],_,_=>⟨rfl,rfl,rfl,fun _ _=>rfl⟩
 | v::vs,o,w=>by
  obtain ⟨h1,h2,h3,h4⟩:=Xq b vs (o+1) (w.setCell ⟨b,o,none⟩ v);exact ⟨h1,h2,h3,fun k hk=>(h4 k hk).trans (RowKit.Below.heap_setCell w ⟨b,o,none⟩ v k hk)⟩
theorem ZaV (hT:TabOK T G.P) (hS:SRel G e σ w) {t:TypeId} {b off:Nat} {x:PV} {v:Value} {l cs:List PV} {ty:TypeId} (hb:σ.bx[b]?=some (.cells ty cs)) (hx:VRel G e σ w x v) (hl:x.cells=some l)
  (hlen:l.length=(T.get t).size) (hfit:off+l.length≤cs.length) (hk:(T.get t).kind≠.other) :
  ∃w1,(Instr.storeAt t (.pointer (some ⟨e.β b,off,none⟩)) v).run G.P w=.ok () w1∧Stepped e σ w e (σ.set b (.cells ty (Z9 cs off l))) w1∧SRel G e (σ.set b (.cells ty (Z9 cs off l))) w1:=by
 obtain ⟨i,d,z,hi,hd,hs,hby,hkd,hz,hz2,_⟩:=(hT.get hk).ex;have hbl:b<σ.bx.length:=(Th.1 hb).1;obtain ⟨vs,hv1,hv2,hv3⟩:=hS.box b _ hb;obtain ⟨hc1,hc2⟩:=Um hx hl;have hvc:v.cells.toList.length=l.length:=by simpa using hc1
 have hone:∀u∈v.cells.toList,u.oneCell'=true:=fun u hu=>by
  exact m175
 have hrun:=run_storeCells_cells (P:=G.P) (e.β b) off v.cells.toList 0 w (fun j hj=>by
   have:off+j<vs.size:=by omega
   simp [World.cell?,hv1,this]) (fun j hj=>by simp [World.frozen?,hv1]) hone
 simp only [Sa] at hrun;obtain ⟨r1,r2,r3,r4⟩:=Xq (e.β b) v.cells.toList off w;obtain ⟨cs',h1,h2,h3⟩:=XF (e.β b) v.cells.toList off w vs ty (0,0) hv1;have hsl:(σ.set b (.cells ty (Z9 cs off l))).bx.length=σ.bx.length:=by simp [St.set]
 have hst:Stepped e σ w e (σ.set b (.cells ty (Z9 cs off l))) (w.setCells (e.β b) off v.cells.toList):={
  len:=by rw [hsl];exact Tq _
  beta:=fun _ _=>rfl
  X:=rfl
  pres:=fun k o u hk ho=>⟨⟨ho.1,fun j hj=>ho.2.1 j (by rw [hsl] at hj;exact hj),ho.2.2⟩,by simpa [World.cell?,r4 k (fun h=>ho.2.1 b hbl h.symm)] using hk⟩
  blocks:=fun k hk hnb _=>r4 k (fun h=>hnb b hbl h.symm)
  size:=by rw [YY];exact Tq _
  os:=r1
  tape:=r2
  output:=r3
  fresh:=fun i h1 h2=>by rw [hsl] at h2;omega
  ftok:=fun t ht p hp=>.inr ⟨t,ht,p,hp,rfl⟩
  nx:=Tq _
  toks:=fun _ _ ht=>⟨ht,rfl⟩
  own:=fun t' hn ht p hp hlt=>r4 _ (fun h=>(hS.own t' ht p hp).2.1 b hbl h.symm) }
 refine ⟨_,?_,hst,?_⟩
 ·have h1':v.cells.size=i.size:=by rw [hc1,hlen,hs]
  exact m85
 ·exact {
   inj:=fun i j hi hj=>hS.inj i j (by rw [hsl] at hi;exact hi) (by rw [hsl] at hj;exact hj)
   box:=fun k y hy=>by
    by_cases hkb:k=b
    ·subst hkb;have:y=.cells ty (Z9 cs off l):=by
      exact m144
     subst this;refine ⟨cs',h1,by rw [h2,hv2,X5],fun j x u hx' hu=>?_⟩;rw [VL] at hx';rw [h3,hvc] at hu
     by_cases hin:off≤j∧j<off+l.length∧j<cs.length
     ·rw [Tf hin] at hx';rw [Tf ⟨hin.1,hin.2.1,by omega⟩,Tx] at hu;obtain ⟨q1,q2⟩:=hc2 _ x u hx' hu;exact ⟨q1.step hst,q2⟩
     ·rw [Tc hin] at hx';rw [Tc (by omega)] at hu;obtain ⟨q1,q2⟩:=hv3 j x u hx' hu;exact ⟨q1.step hst,q2⟩
    ·have hy':σ.bx[k]?=some y:=by
      simp only [St.set] at hy
      rwa [List.getElem?_set_ne (fun h=>hkb h.symm)] at hy
     have hkl:=(Th.1 hy').1;exact (hS.box k y hy').step hst (r4 _ (fun h=>hkb (hS.inj k b hkl hbl h)))
   low:=fun i hi=>hS.low i (by rw [hsl] at hi;exact hi)
   tkn:=hS.tkn
   own:=fun t' ht p hp=>by
    obtain ⟨q1,q2,cs2,ty2,fz2,q3⟩:=hS.own t' ht p hp;refine ⟨q1,fun i hi=>q2 i (by rw [hsl] at hi;exact hi),cs2,ty2,fz2,(r4 _ (fun h=>q2 b hbl h.symm)).trans q3⟩
   dis:=hS.dis
   xown:=hS.xown
   xlt:=fun k o hx=>by rw [YY];exact hS.xlt k o hx
   glob:=fun k hk=>(r4 k (fun h=>by have:=hS.low b hbl;omega)).trans (hS.glob k hk)
   big:=by rw [YY];exact hS.big }
theorem ZmV (hS:SRel G e σ w) {b:Nat} {s:List UInt8} {pos:Nat} (hb:σ.bx[b]?=some (.iter s pos)) (ty:TypeId) {K:PV→St→Prop}
  (h:CondP (decide (pos<s.length)) (K (.tuple [.d (.bool true),.d (.int .i64 pos),.d (.int .i32 (decodeL s pos).1)]) (σ.set b (.iter s (pos+(decodeL s pos).2)))) (K (.tuple [.d (.bool false)]) σ)) :
  ∃pv σ1 v w1,K pv σ1∧(Instr.next (.pointer (some ⟨e.β b,0,none⟩)) true ty).run G.P w=.ok v w1∧Stepped e σ w e σ1 w1∧SRel G e σ1 w1∧VRel G e σ1 w1 pv v:=by
 have hbl:b<σ.bx.length:=(Th.1 hb).1;have hit:w.heap[e.β b]?=some (.stringIter ⟨s.toArray⟩ pos):=hS.box b _ hb
 by_cases hp:pos<s.length
 ·have:decide (pos<s.length)=true:=by simp [hp]
  rw [this] at h;refine ⟨_,_,_,_,h,Lib.run_next_any_at w (e.β b) ⟨s.toArray⟩ pos ty hit hp,?_⟩;have hsl:(σ.set b (.iter s (pos+(decodeL s pos).2))).bx.length=σ.bx.length:=by simp [St.set]
  have hoth:∀k,k≠e.β b→(w.iterAt (e.β b) ⟨s.toArray⟩ (pos+(Utf8.decode ⟨s.toArray⟩ pos).2)).heap[k]?=w.heap[k]?:=fun k hk=>Lib.iterAt_other w (e.β b) k _ _ hk
  have hst:Stepped e σ w e (σ.set b (.iter s (pos+(decodeL s pos).2))) (w.iterAt (e.β b) ⟨s.toArray⟩ (pos+(Utf8.decode ⟨s.toArray⟩ pos).2)):={
   len:=by rw [hsl];exact Tq _
   beta:=fun _ _=>rfl
   X:=rfl
   pres:=fun k o u hk ho=>⟨⟨ho.1,fun j hj=>ho.2.1 j (by rw [hsl] at hj;exact hj),ho.2.2⟩,by simpa [World.cell?,hoth k (fun h=>ho.2.1 b hbl h.symm)] using hk⟩
   blocks:=fun k hk hnb _=>hoth k (fun h=>hnb b hbl h.symm)
   size:=by rw [Lib.iterAt_size];exact Tq _
   os:=rfl
   tape:=rfl
   output:=rfl
   fresh:=fun i h1 h2=>by rw [hsl] at h2;omega
   ftok:=fun t ht p hp=>.inr ⟨t,ht,p,hp,rfl⟩
   nx:=Tq _
   toks:=fun _ _ ht=>⟨ht,rfl⟩
   own:=fun t' hn ht p hp hlt=>hoth _ (fun h=>(hS.own t' ht p hp).2.1 b hbl h.symm) }
  refine ⟨hst,?_,?_⟩
  ·exact {
    inj:=fun i j hi hj=>hS.inj i j (by rw [hsl] at hi;exact hi) (by rw [hsl] at hj;exact hj)
    box:=fun k y hy=>by
     by_cases hkb:k=b
     ·subst hkb;have:y=.iter s (pos+(decodeL s pos).2):=by
       exact m144
      subst this;exact Lib.iterAt_heap w (e.β k) _ pos _ hit
     ·exact m100
    low:=fun i hi=>hS.low i (by rw [hsl] at hi;exact hi)
    tkn:=hS.tkn
    own:=fun t' ht p hp=>by
     exact m133
    dis:=hS.dis
    xown:=hS.xown
    xlt:=fun k o hx=>by rw [Lib.iterAt_size];exact hS.xlt k o hx
    glob:=fun k hk=>(hoth k (fun h=>by have:=hS.low b hbl;omega)).trans (hS.glob k hk)
    big:=by rw [Lib.iterAt_size];exact hS.big }
  ·refine .tuple _ _ rfl (fun i x u hx hu=>?_)
   match i with
   | 0=>cases hx;cases hu;exact .mkbool
   | 1=>cases hx;cases hu;exact .mkint
   | 2=>cases hx;cases hu;exact .mkint
   | n+3=>cases hx
 ·have:decide (pos<s.length)=false:=by simp [hp]
  rw [this] at h;refine ⟨_,_,_,_,h,Lib.run_next_end_at w (e.β b) ⟨s.toArray⟩ pos ty hit hp,.refl _ _ _,hS,.tuple _ _ rfl (fun i x u hx hu=>?_)⟩
  match i with
  | 0=>cases hx;cases hu;exact .mkbool
  | n+1=>cases hx
structure Flat (ok:Nat→Nat→Prop) (w:World) (rows:List (List D)) (sz:Nat) (xs:List Value):Prop where
 len:xs.length=rows.length * sz
 wid:∀r∈rows,r.length=sz
 rel:∀(a b:Nat) (y:D) (u:Value),b<sz→(rows[a]?.bind (·[b]?))=some y→xs[a * sz+b]?=some u→DRel ok w y u
theorem Flat.mono {ok ok':Nat→Nat→Prop} {w w':World} {rows:List (List D)} {sz:Nat} {xs:List Value} (h:Flat ok w rows sz xs) (hp:∀(y:D) (u:Value),DRel ok w y u→DRel ok' w' y u):Flat ok' w' rows sz xs :=
 ⟨h.len,h.wid,fun a b y u hb hy hu=>hp y u (h.rel a b y u hb hy hu)⟩
theorem Flat.nil (ok:Nat→Nat→Prop) (w:World) (sz:Nat):Flat ok w [] sz []:=⟨by simp,fun r h=>(by cases h),fun a b y u _ hy=>by simp at hy⟩
theorem Flat.append {ok:Nat→Nat→Prop} {w:World} {r1 r2:List (List D)} {sz:Nat} {x1 x2:List Value} (h1:Flat ok w r1 sz x1) (h2:Flat ok w r2 sz x2):Flat ok w (r1++r2) sz (x1++x2):=by
 refine ⟨by rw [Tb,Tb,h1.len,h2.len,Sd],fun r hr=>?_,fun a b y u hb hy hu=>?_⟩
 ·rcases TT.1 hr with h | h
  ·exact h1.wid r h
  ·exact h2.wid r h
 ·by_cases ha:a<r1.length
  ·rw [TF ha] at hy;have hlt:a * sz+b<x1.length:=by
    rw [h1.len]
    calc a * sz+b<a * sz+sz:=by omega
     _=(a+1) * sz:=by rw [Sd,Nat.one_mul]
     _≤r1.length * sz:=TY _ ha
   rw [TF hlt] at hu;exact h1.rel a b y u hb hy hu
  ·have ha':r1.length≤a:=by omega
   rw [TQ ha'] at hy;have hge:x1.length≤a * sz+b:=by
    rw [h1.len];exact TO (TY _ ha') (Nat.le_add_right _ _)
   rw [TQ hge,h1.len] at hu;refine h2.rel (a - r1.length) b y u hb hy ?_;rw [← hu]
   congr 1
   rw [Nat.sub_mul];have:=TY sz ha';omega
theorem ZAr {ok:Nat→Nat→Prop} {w:World} {rows:List (List D)} {b off cap sz:Nat} (hsz:∀r∈rows,r.length=sz) (hpos:0<sz) (h:DRel ok w (.sl rows) (.slice (some ⟨b,off,none⟩) rows.length cap)) :
  ∃xs,Flat ok w rows sz xs∧(∀(k:Nat) (u:Value),xs[k]?=some u→w.cell? ⟨b,off+k,none⟩=some u)∧(∀k,k<xs.length→ok b (off+k))∧∀u∈xs,u.oneCell'=true:=by
 cases h with
 | slz=>exact ⟨[],.nil _ _ _,fun k u h=>by simp at h,fun k h=>by simp at h,fun u h=>by cases h⟩
 | sl rows b off cap sz' u hcap hsz' hc ho hu =>
  by_cases hr:rows=[]
  ·subst hr;exact ⟨[],.nil _ _ _,fun k u h=>by simp at h,fun k h=>by simp at h,fun u h=>by cases h⟩
  ·have hss:sz'=sz:=by
    cases rows with
    | nil=>exact absurd rfl hr
    | cons r l=>rw [← hsz' r (by simp),hsz r (by simp)]
   subst hss;have hk:∀k,k<rows.length * sz'→k / sz'<rows.length∧k % sz'<sz'∧k / sz' * sz'+k % sz'=k:=fun k hk =>
    ⟨(Nat.div_lt_iff_lt_mul hpos).2 hk,Nat.mod_lt _ hpos,by rw [Sz];exact Nat.div_add_mod k sz'⟩
   have hrel:∀k,k<rows.length * sz'→∃y,(rows[k / sz']?.bind (·[k % sz']?))=some y∧DRel ok w y (u (k / sz') (k % sz')):=fun k h=>by
    obtain ⟨h1,h2,h3⟩:=hk k h;have h4:(rows[k / sz']).length=sz':=hsz' _ (TP _);have h5:(rows[k / sz']?.bind (·[k % sz']?))=some ((rows[k / sz'])[k % sz']):=by
     rw [Tg h1];simp only [Option.bind_some];rw [Tg (by omega)]
    exact ⟨_,h5,hu _ _ _ h5⟩
   refine ⟨(List.range (rows.length * sz')).map fun k=>u (k / sz') (k % sz'),⟨by simp,hsz',fun a b' y v hb hy hv=>?_⟩,fun k v hv=>?_,fun k h=>?_,fun v hv=>?_⟩
   ·rw [TL] at hv;have ha:a<rows.length:=by
     rcases Nat.lt_or_ge a rows.length with h | h
     ·exact h
     ·rw [Sg h] at hy;cases hy
    have hlt:a * sz'+b'<rows.length * sz':=by
     calc a * sz'+b'<a * sz'+sz':=by omega
      _=(a+1) * sz':=by rw [Sd,Nat.one_mul]
      _≤rows.length * sz':=TY _ ha
    rw [List.getElem?_range hlt] at hv;have hd:(a * sz'+b') / sz'=a:=by rw [Sz,Nat.mul_add_div hpos,Nat.div_eq_of_lt hb];omega
    have hm:(a * sz'+b') % sz'=b':=by rw [Sz,Nat.mul_add_mod,Nat.mod_eq_of_lt hb]
    simp only [Ss,hd,hm] at hv
    cases hv
    exact hu a b' y hy
   ·rw [TL] at hv
    by_cases hlt:k<rows.length * sz'
    ·rw [List.getElem?_range hlt] at hv
     cases hv
     obtain ⟨h1,h2,h3⟩:=hk k hlt;have:=hc _ _ h1 h2
     rwa [Sb,h3] at this
    ·rw [Sg (by simpa using hlt)] at hv;cases hv
   ·simp only [Ti,List.length_range] at h;obtain ⟨h1,h2,h3⟩:=hk k h;have:=ho _ _ h1 h2
    rwa [Sb,h3] at this
   ·obtain ⟨k,hk',rfl⟩:=Sy.1 hv;obtain ⟨y,_,hy⟩:=hrel k (List.mem_range.1 hk');exact hy.one
theorem Flat.to_sl {ok:Nat→Nat→Prop} {w:World} {rows:List (List D)} {sz:Nat} {xs:List Value} (h:Flat ok w rows sz xs) (b off cap:Nat) (hcap:rows.length≤cap)
  (hc:∀(k:Nat) (u:Value),xs[k]?=some u→w.cell? ⟨b,off+k,none⟩=some u) (ho:∀k,k<xs.length→ok b (off+k)):DRel ok w (.sl rows) (.slice (some ⟨b,off,none⟩) rows.length cap):=by
 have hlt:∀i j,i<rows.length→j<sz→i * sz+j<xs.length:=fun i j hi hj=>by
  rw [h.len]
  calc i * sz+j<i * sz+sz:=by omega
   _=(i+1) * sz:=by rw [Sd,Nat.one_mul]
   _≤rows.length * sz:=TY _ hi
 refine .sl rows b off cap sz (fun i j=>xs.getD (i * sz+j) Go.undef) hcap h.wid (fun i j hi hj=>?_) (fun i j hi hj=>?_) (fun i j x hx=>?_)
 ·have h1:=hlt i j hi hj;rw [Sb];exact hc _ _ (by simp [List.getD,Tg h1])
 ·rw [Sb];exact ho _ (hlt i j hi hj)
 ·have hi:i<rows.length:=by
   rcases Nat.lt_or_ge i rows.length with h | h
   ·exact h
   ·rw [Sg h] at hx;cases hx
  have hj:j<sz:=by
   rw [Tg hi] at hx;have:=(Th.1 hx).1
   rwa [h.wid _ (TP _)] at this
  exact h.rel i j x _ hj hx (by simp [List.getD,Tg (hlt i j hi hj)])
theorem Ztm (hT:TabOK T G.P) {tx el:Nat} {px:PV} {vx:Value} {more:List (List D)} {sz:Nat} (hm:UO T tx el px=some more) (hx:VRel G e σ w px vx) (hsz:∀r∈more,r.length=sz) (hpos:0<sz)
  (hel:sz=(T.get el).size):∃news,Src G.P sz tx vx more.length news w∧Flat (okc e σ) w more sz news:=by
 unfold UO at hm
 split at hm
 ·rename_i hk
  obtain ⟨i,d,z,hi,hd,hs,hby,hkd,hz,hz2,_⟩:=(hT.get (t:=tx) (by rw [hk];simp)).ex;rw [hk] at hkd;cases hkd;split at hm
  ·rename_i hk2
   split at hm
   ·rename_i s
    cases hm
    have hv:=hx.dstr;subst hv;have hlen:(s.map fun b:UInt8=>[D.int .u8 b.toNat]).length=(⟨s.toArray⟩:ByteArray).size:=by simp;rfl
    have hflat:∀sz',sz'=1→Flat (okc e σ) w (s.map fun b:UInt8=>[D.int .u8 b.toNat]) sz' (byteCells ⟨s.toArray⟩):=by
     rintro _ rfl
     refine ⟨by rw [byteCells_length,hlen,Nat.mul_one],fun r hr=>?_,fun a b y u hb hy hu=>?_⟩
     ·obtain ⟨_,_,rfl⟩:=Sy.1 hr;rfl
     ·have hb0:b=0:=by omega
      subst hb0;simp only [Nat.mul_one,Sa,byteCells,TL] at hu;rw [TL] at hy
      cases hq:s[a]? with
      | none=>rw [hq] at hy;cases hy
      | some q =>
       rw [hq] at hy;simp at hy hu;rw [hq] at hu;simp at hu;subst hy;subst hu;exact .int _ _
    by_cases hs0:s=[]
    ·subst hs0;refine ⟨[],⟨.inr hd,fun _=>rfl,?_,?_,by simp,fun u h=>by cases h⟩,.nil _ _ _⟩
     ·simp [Builtin.firstCells]
     ·simp [Builtin.firstCells]
    ·have h1:sz=1:=by
      cases s with
      | nil=>exact absurd rfl hs0
      | cons b l=>exact (hsz [.int .u8 b.toNat] (by simp)).symm
     subst h1;rw [hlen];exact ⟨byteCells ⟨s.toArray⟩,Src.ofString w hd _,hflat 1 rfl⟩
   ·cases hm
  ·cases hm
 ·rename_i e' hk
  obtain ⟨i,d,z,hi,hd,hs,hby,hkd,hz,hz2,_⟩:=(hT.get (t:=tx) (by rw [hk];simp)).ex;rw [hk] at hkd;cases hkd;split at hm
  ·rename_i rows hrows
   cases hm
   have hD:=UR hrows hx;generalize hg:D.sl more=dd at hD
   cases hD with
   | slnil=>cases hg;exact ⟨[],Src.ofNil w hd 0,.nil _ _ _⟩
   | slz ad=>cases hg;exact ⟨[],Src.ofSlice w hd ad 0 0 [] (by simp) (fun j u hj=>by cases hj) (fun u h=>by cases h),.nil _ _ _⟩
   | sl rows b off cap sz' u hcap hsz' hc ho hu =>
    cases hg
    obtain ⟨xs,h1,h2,h3,h4⟩:=ZAr hsz hpos (DRel.sl more b off cap sz' u hcap hsz' hc ho hu);exact ⟨xs,Src.ofSlice w hd ⟨b,off,none⟩ more.length cap xs h1.len (fun j u hj=>by rw [Yf];exact h2 j u hj) h4,h1⟩
   | _=>cases hg
  ·cases hm
 ·cases hm
theorem Y3 (t:Nat):∀(l:List Nat),ZjY t l=true↔t∈l
 | []=>by simp [ZjY]
 | x::l=>by
  unfold ZjY
  split
  ·rename_i h;have:=Tm h;simp [this]
  ·rename_i h
   rw [Y3 t l];have:x≠t:=fun h'=>by subst h';simp at h
   simp [Ne.symm this]
theorem VM (t x:Nat):∀(l:List Nat),x∈Zbs t l↔x∈l∧x≠t
 | []=>by simp [Zbs]
 | y::l=>by
  unfold Zbs
  split
  ·rename_i h
   have:=Tm h;subst this;rw [VM y x l]
   constructor
   ·exact fun h=>⟨Tw _ h.1,h.2⟩
   ·rintro ⟨h1,h2⟩
    rcases Tt.1 h1 with h | h
    ·exact absurd h h2
    ·exact ⟨h,h2⟩
  ·rename_i h
   have hne:y≠t:=fun h'=>by subst h';simp at h
   rw [Tt,Tt,VM t x l]
   constructor
   ·rintro (rfl | h)
    ·exact ⟨.inl rfl,hne⟩
    ·exact ⟨.inr h.1,h.2⟩
   ·rintro ⟨rfl | h1,h2⟩
    ·exact .inl rfl
    ·exact .inr ⟨h1,h2⟩
def Env.own (e:Env) (t:Nat) (p:Option (Nat×Nat)):Env:={ e with M:=fun i=>if i=t then p else e.M i }
theorem Zgd (hT:TabOK T G.P) (hS:SRel G e σ w) {t tx el ty:Nat} (hkt:(T.get t).kind=.slice el) (hkel:(T.get el).kind≠.other) (hpos:0<(T.get el).size)
  {rows more:List (List D)} {v vx:Value} {news:List Value} (hD:DRel (okc e σ) w (.sl rows) v)
  (hrw:∀r∈rows,r.length=(T.get el).size)
  (hO : (v = .slice none 0 0 ∧ rows = []) ∨ ∃ b off cap cs ty fz, v = .slice (some ⟨b, off, none⟩) rows.length cap ∧ G.nG ≤ b ∧ rows.length ≤ cap ∧ w.heap[b]? = some (.cells cs ty fz) ∧ (off + cap * (T.get el).size ≤ cs.size ∧ off = 0 ∧ ty = el ∧ 0 < cap) ∧
     (fz.1≤fz.2∧∀o,off+rows.length * (T.get el).size≤o→fz.1≤o→fz.2≤o)∧(∀i,i<σ.bx.length→e.β i≠b))
  (hsrc:Src G.P (T.get el).size tx vx more.length news w) (hnews:Flat (okc e σ) w more (T.get el).size news)
  (hbytes:(rows.length+more.length) * (T.get el).bytes≤2 ^ 47) (hlen:rows.length+more.length≤2 ^ 47) :
  ∃v' w1,(Builtin.append_ #[t,tx] ty #[v,vx]).run G.P w=.ok v' w1∧w1.os=w.os∧w1.tape=w.tape∧w1.output=w.output∧w.heap.size≤w1.heap.size ∧
   (∀b off u,w.cell? ⟨b,off,none⟩=some u→okc e σ b off→w1.cell? ⟨b,off,none⟩=some u∨∃a o c,v=.slice (some ⟨a,o,none⟩) rows.length c∧b=a∧o+rows.length * (T.get el).size≤off) ∧
   (∀b,b<w.heap.size→(∀a o c,v=.slice (some ⟨a,o,none⟩) rows.length c→b≠a)→w1.heap[b]?=w.heap[b]?) ∧
   ((v'=.slice none 0 0∧rows++more=[])∨∃b off cap cs ty fz,v'=.slice (some ⟨b,off,none⟩) (rows++more).length cap∧G.nG≤b∧(rows++more).length≤cap∧w1.heap[b]?=some (.cells cs ty fz)∧(off+cap * (T.get el).size≤cs.size∧off=0∧ty=el∧0<cap) ∧
    (fz.1≤fz.2∧∀o,off+rows.length * (T.get el).size≤o→fz.1≤o→fz.2≤o) ∧
    ((∃c,v=.slice (some ⟨b,off,none⟩) rows.length c)∨w.heap.size≤b) ∧
    ∃xs,Flat (okc e σ) w (rows++more) (T.get el).size xs∧∀(k:Nat) (u:Value),xs[k]?=some u→w1.cell? ⟨b,off+k,none⟩=some u):=by
 obtain ⟨ti,td,tz,hti,htd,_,_,hkd,_,_,_⟩:=(hT.get (t:=t) (by rw [hkt];simp)).ex;rw [hkt] at hkd;cases hkd;obtain ⟨i,d,z,hi,hd,hs,hby,hkd2,hz,hz2,hzl,_⟩:=(hT.get hkel).ex;have hzc:z.cells.size=(T.get el).size:=by
  have:=(Vo (G:=G) (e:=e) (σ:=σ) (w:=w) hz2).1;rw [← hzl,← this];simp
 rw [← hs] at hsrc;have hsm:((rows.length+more.length:Nat):Int)≤9223372036854775807:=by omega
 have hby2:(rows.length+more.length) * i.bytes≤140737488355328:=by rw [hby];omega
 have grow:∀(base:Option Addr) (cap:Nat) (olds:List Value),(Builtin.firstCells i.size rows.length (.slice base rows.length cap)).run G.P w.drew=.ok olds.toArray w.drew→Flat (okc e σ) w rows (T.get el).size olds→cap<rows.length+more.length →
   ∃v' w1,(Builtin.append_ #[t,tx] ty #[.slice base rows.length cap,vx]).run G.P w=.ok v' w1∧Grows w w1 ∧
    ∃b off cap cs ty fz,v'=.slice (some ⟨b,off,none⟩) (rows++more).length cap∧G.nG≤b∧(rows++more).length≤cap∧w1.heap[b]?=some (.cells cs ty fz)∧(off+cap * (T.get el).size≤cs.size∧off=0∧ty=el∧0<cap) ∧
     (fz.1≤fz.2∧∀o,off+rows.length * (T.get el).size≤o→fz.1≤o→fz.2≤o)∧w.heap.size≤b ∧
     ∃xs,Flat (okc e σ) w (rows++more) (T.get el).size xs∧∀(k:Nat) (u:Value),xs[k]?=some u→w1.cell? ⟨b,off+k,none⟩=some u:=by
  intro base cap olds hold hflat hlt
  have hr:=run_append_grow_src w t tx ty el i z htd hi hz base rows.length cap olds hold vx more.length news hsrc hlt hsm (growslice_fits hlt hby2);refine ⟨_,_,hr,(Grows.drew w).trans (Grows.alloc _ _),w.heap.size,0,grownCap w (rows.length+more.length) cap el,_,el,(0,0),by rw [Tb],hS.big,by rw [Tb];exact grownCap_ge w _ _ _,heap_alloc_new w.drew _,⟨?_,rfl,rfl,by have:=grownCap_ge w (rows.length+more.length) cap el;omega⟩,⟨Tq _,fun o _ _=>T3 _⟩,Tq _,olds++news,hflat.append hnews,fun k u hk=>?_⟩
  ·have hge:=grownCap_ge w (rows.length+more.length) cap el;simp only [Array.size_append,List.size_toArray,Tb,size_zeroCells,hzc,hflat.len,hnews.len,T7,← Sd];exact TY _ (by omega)
  ·have h1:k<(olds++news).length:=(Th.1 hk).1;simp only [T7,World.cell?];rw [show (w.drew.alloc _).heap[w.heap.size]?=_ from heap_alloc_new w.drew _];simp only [Option.isSome_none,Tr,if_false];rw [Array.getElem?_append_left (by simpa using h1)];simpa using hk
 rcases hO with ⟨rfl,rfl⟩ | ⟨b,off,cap,cs,tyb,fz,rfl,hb,hc,hh,hcs,hfz,hnb⟩
 ·by_cases hm:more.length=0
  ·have hmn:more=[]:=TN hm;subst hmn;have hn0:news=[]:=TN (by rw [hnews.len];simp);subst hn0;exact ⟨_,w,run_append_nothing w t tx ty el i htd hi none 0 0 (Tq _) vx hsrc,rfl,rfl,rfl,Tq _,fun _ _ _ h _=>.inl h,fun _ _ _=>rfl,.inl ⟨rfl,rfl⟩⟩
  ·obtain ⟨v',w1,hr,hg,b,off,cap,cs,ty',fz,h1,h2,h3,h4,h5,h6,h7,h8⟩:=grow none 0 [] (run_firstCells_none w.drew i.size 0 0 0) (.nil _ _ _) (by simp;omega);exact ⟨v',w1,hr,hg.os,hg.tape,hg.output,hg.size,fun b' o' u hu _=>.inl ((hg.cell (UQ hu)).trans hu),fun b' hb' _=>hg.old b' hb',.inr ⟨b,off,cap,cs,ty',fz,h1,h2,h3,h4,h5,h6,.inr h7,h8⟩⟩
 ·obtain ⟨olds,ho1,ho2,ho3,ho4⟩:=ZAr hrw hpos hD
  by_cases hroom:rows.length+more.length≤cap
  ·have hfit:rows.length * (T.get el).size+news.length≤cap * (T.get el).size:=by
    rw [hnews.len,← Sd];exact TY _ hroom
   have hcell:∀k,k<cs.size→(w.cell? ⟨b,k,none⟩).isSome=true:=fun k hk=>by simp [World.cell?,hh,hk]
   have hr:=run_append_room_src w t tx ty el i htd hi b off rows.length cap vx more.length news hsrc hroom (fun j hj=>hcell _ (by have:=hcs.1;rw [hs];omega)) (fun j hj=>by
    simp only [World.frozen?,hh];have h1:=hfz.2 (off+rows.length * i.size+j) (by rw [hs];omega)
    by_cases h2:fz.1≤off+rows.length * i.size+j
    ·have:=h1 h2;simp;intro _;omega
    ·simp;omega)
   rw [hs] at hr;obtain ⟨r1,r2,r3,r4⟩:=Xq b news (off+rows.length * (T.get el).size) w;obtain ⟨cs',q1,q2,q3⟩:=XF b news (off+rows.length * (T.get el).size) w cs tyb fz hh;refine ⟨_,_,hr,r1,r2,r3,by rw [YY];exact Tq _,fun b' o' u hu ho=>?_,fun b' hb' hn=>r4 b' (hn b off cap rfl),.inr ⟨b,off,cap,cs',tyb,fz,by rw [Tb],hb,by rw [Tb];exact hroom,q1,⟨by rw [q2];exact hcs.1,hcs.2.1,hcs.2.2.1,hcs.2.2.2⟩,hfz,.inl ⟨cap,rfl⟩,olds++news,ho1.append hnews,fun k u hk=>?_⟩⟩
   ·by_cases hbb:b'=b
    ·subst hbb
     by_cases hoo:off+rows.length * (T.get el).size≤o'
     ·exact .inr ⟨b',off,cap,rfl,rfl,hoo⟩
     ·left
      rw [World.cell?_setCells_out b' news _ w ⟨b',o',none⟩ (fun _ _=>.inl (by show o'<_;omega))];exact hu
    ·left;simpa [World.cell?,r4 b' hbb] using hu
   ·by_cases hk1:k<olds.length
    ·rw [TF hk1] at hk;rw [World.cell?_setCells_out b news _ w ⟨b,off+k,none⟩ (fun _ _=>.inl (by show off+k<_;rw [← ho1.len];omega))];exact ho2 k u hk
    ·rw [TQ (by omega)] at hk;have hkn:=(Th.1 hk).1;have:=World.cell?_setCells_in b news (off+rows.length * (T.get el).size) w (fun j hj=>hcell _ (by have:=hcs.1;omega)) (k - olds.length) hkn;exact m161
  ·obtain ⟨v',w1,hr,hg,b2,off2,cap2,cs2,ty2,fz2,h1,h2,h3,h4,h5,h6,h7,h8⟩:=grow (some ⟨b,off,none⟩) cap olds (run_firstCells_some w.drew i.size rows.length ⟨b,off,none⟩ rows.length cap olds (by rw [ho1.len,hs]) (fun j u hj=>by rw [Yf];exact ho2 j u hj)) ho1 (by omega);exact ⟨v',w1,hr,hg.os,hg.tape,hg.output,hg.size,fun b' o' u hu _=>.inl ((hg.cell (UQ hu)).trans hu),fun b' hb' _=>hg.old b' hb',.inr ⟨b2,off2,cap2,cs2,ty2,fz2,h1,h2,h3,h4,h5,h6,.inr h7,h8⟩⟩
theorem J5 (hT:TabOK T G.P) (hS:SRel G e σ w) {el:Nat} (hkel:(T.get el).kind≠.other) (hpos:0<(T.get el).size)
  {rows more:List (List D)} {v v':Value} {w1:World} (hD:DRel (okc e σ) w (.sl rows) v) (tk0:List Nat) (hsub:∀x,x∈tk0→x∈σ.tk) (hrw:∀r∈rows,r.length=(T.get el).size) (hw:∀r∈more,r.length=(T.get el).size)
  (htok:∀a o c,v=.slice (some ⟨a,o,none⟩) rows.length c→∃tok,tok∈σ.tk∧tok∉tk0∧e.M tok=some (a,o+rows.length * (T.get el).size))
  (hos:w1.os=w.os) (htape:w1.tape=w.tape) (hout:w1.output=w.output) (hsize:w.heap.size≤w1.heap.size)
  (hcell:∀b off u,w.cell? ⟨b,off,none⟩=some u→okc e σ b off→w1.cell? ⟨b,off,none⟩=some u∨∃a o c,v=.slice (some ⟨a,o,none⟩) rows.length c∧b=a∧o+rows.length * (T.get el).size≤off)
  (hblk:∀b,b<w.heap.size→(∀a o c,v=.slice (some ⟨a,o,none⟩) rows.length c→b≠a)→w1.heap[b]?=w.heap[b]?)
  (hres:(v'=.slice none 0 0∧rows++more=[])∨∃b off cap cs ty fz,v'=.slice (some ⟨b,off,none⟩) (rows++more).length cap∧G.nG≤b∧(rows++more).length≤cap∧w1.heap[b]?=some (.cells cs ty fz)∧(off+cap * (T.get el).size≤cs.size∧off=0∧ty=el∧0<cap) ∧
    (fz.1≤fz.2∧∀o,off+rows.length * (T.get el).size≤o→fz.1≤o→fz.2≤o) ∧
    ((∃c,v=.slice (some ⟨b,off,none⟩) rows.length c)∨w.heap.size≤b) ∧
    ∃xs,Flat (okc e σ) w (rows++more) (T.get el).size xs∧∀(k:Nat) (u:Value),xs[k]?=some u→w1.cell? ⟨b,off+k,none⟩=some u) :
  ∃e1,Stepped e σ w e1 { σ with tk:=σ.nx::tk0,nx:=σ.nx+1 } w1∧SRel G e1 { σ with tk:=σ.nx::tk0,nx:=σ.nx+1 } w1 ∧
   VRel G e1 { σ with tk:=σ.nx::tk0,nx:=σ.nx+1 } w1 (.sl σ.nx el (rows++more)) v':=by
 obtain ⟨i,d,z,hi,hd,hs,hby,hkd2,hz,hz2,hzl,_⟩:=(hT.get hkel).ex;have hkeep:∀b off u,w.cell? ⟨b,off,none⟩=some u→okc e σ b off→w1.cell? ⟨b,off,none⟩=some u:=fun b off u hu ho=>by
  rcases hcell b off u hu ho with h | ⟨a,o,c,hv,rfl,hle⟩
  ·exact h
  ·obtain ⟨tok,ht1,_,hmm⟩:=htok _ o c hv;have:=ho.2.2 tok ht1 _ hmm rfl;simp only at this;omega
 have hbase:∀b,b<w.heap.size→(∀t,t∈σ.tk→t∉tk0→∀p,e.M t=some p→p.1≠b)→w1.heap[b]?=w.heap[b]?:=fun b hb hn=>hblk b hb fun a o c hv h=>by
  obtain ⟨tok,ht1,ht2,hmm⟩:=htok a o c hv;exact hn tok ht1 ht2 _ hmm h.symm
 obtain ⟨p,hp,hown,hpn⟩:∃p:Option (Nat×Nat),(p=none∨∃b k,p=some (b,k)∧G.nG≤b∧(∃cs ty fz,w1.heap[b]?=some (.cells cs ty fz))∧((∃a o c,v=.slice (some ⟨a,o,none⟩) rows.length c∧a=b∧o+rows.length * (T.get el).size≤k)∨w.heap.size≤b)) ∧
   (∀e1:Env,e1.M σ.nx=p→Owned G e1 w1 σ.nx el (rows++more) v') ∧
   (∀b k,p=some (b,k)→True):=by
  rcases hres with ⟨rfl,hnil⟩ | ⟨b,off,cap,cs,tyb,fz,rfl,hb,hc,hh,hcs,hfz,hor,hxs⟩
  ·refine ⟨none,.inl rfl,fun e1 he=>.inl ⟨rfl,hnil,he⟩,fun _ _ _=>trivial⟩
  ·refine ⟨some (b,off+(rows++more).length * (T.get el).size),.inr ⟨b,_,rfl,hb,⟨cs,tyb,fz,hh⟩,?_⟩,fun e1 he=>.inr ⟨i.size,by rw [hi];rfl,by omega,fun r hr=>?_,b,off,cap,cs,tyb,fz,rfl,hb,hc,hh,by rw [hs];exact hcs,⟨hfz.1,fun o ho=>hfz.2 o (by rw [hs] at ho;rw [Tb,Sd] at ho;omega)⟩,by rw [hs];exact he⟩,fun _ _ _=>trivial⟩
   ·rcases hor with ⟨c,hv⟩ | h
    ·refine .inl ⟨b,off,c,hv,rfl,?_⟩;rw [Tb,Sd];omega
    ·exact .inr h
   ·rw [hs];rcases TT.1 hr with h | h
    ·exact hrw r h
    ·exact hw r h
 have hM0:∀x,x∈tk0→(e.own σ.nx p).M x=e.M x:=fun x hx=>by
  have:=hS.tkn x (hsub x hx);simp only [Env.own];rw [Tc (by omega)]
 have hMn:(e.own σ.nx p).M σ.nx=p:=by simp [Env.own]
 have hokc:∀b off,b<w.heap.size→okc e σ b off→okc (e.own σ.nx p) { σ with tk:=σ.nx::tk0,nx:=σ.nx+1 } b off:=fun b off hb ho=>by
  refine ⟨ho.1,ho.2.1,fun x hx q hq hqb=>?_⟩;rcases Tt.1 hx with rfl | hx
  ·rw [hMn] at hq;rcases hp with h | ⟨b2,k,h,_,_,hor⟩
   ·rw [h] at hq;cases hq
   ·rw [h] at hq;cases hq;simp only at hqb;subst hqb;rcases hor with ⟨a,o,c,hv,rfl,hle⟩ | hge
    ·obtain ⟨tok,ht1,_,hmm⟩:=htok _ o c hv;have:=ho.2.2 tok ht1 _ hmm rfl;simp only at this ⊢;omega
    ·omega
  ·rw [hM0 x hx] at hq;exact ho.2.2 x (hsub x hx) q hq hqb
 have hst:Stepped e σ w (e.own σ.nx p) { σ with tk:=σ.nx::tk0,nx:=σ.nx+1 } w1:={
  len:=Tq _
  beta:=fun _ _=>rfl
  X:=rfl
  pres:=fun b off u hu ho=>⟨hokc b off (UQ hu) ho,hkeep b off u hu ho⟩
  blocks:=fun b hb _ hn=>hbase b hb fun t ht _ q hq=>hn t ht q hq
  size:=hsize
  os:=hos
  tape:=htape
  output:=hout
  fresh:=fun i h1 h2=>by simp only at h2;omega
  ftok:=fun x hx q hq=>by
   rcases Tt.1 hx with rfl | h
   ·rw [hMn] at hq;rcases hp with h | ⟨b2,k,h,_,_,hor⟩
    ·rw [h] at hq;cases hq
    ·rw [h] at hq;cases hq;rcases hor with ⟨a,o,c,hv,rfl,_⟩ | hge
     ·obtain ⟨tok,ht1,_,hmm⟩:=htok _ o c hv;exact .inr ⟨tok,ht1,_,hmm,rfl⟩
     ·exact .inl hge
   ·rw [hM0 x h] at hq;exact .inr ⟨x,hsub x h,q,hq,rfl⟩
  nx:=by show σ.nx≤σ.nx+1;omega
  toks:=fun x hx hm=>by
   rcases Tt.1 hm with rfl | h
   ·omega
   ·exact ⟨hsub x h,hM0 x h⟩
  own:=fun x hx hm q hq hlt=>by
   rcases Tt.1 hm with rfl | h
   ·omega
   ·refine hbase _ hlt fun t ht1 ht2 r hr=>?_
    exact hS.dis t x ht1 (hsub x h) (fun h'=>ht2 (h' ▸ h)) r q hr hq }
 have hlow:∀b k,p=some (b,k)→G.nG≤b∧(∀i,i<σ.bx.length→e.β i≠b)∧(∀x,x∈tk0→∀q,e.M x=some q→q.1≠b)∧(∀off,k≤off→¬e.X b off)∧∃cs ty fz,w1.heap[b]?=some (.cells cs ty fz):=fun b k hpk=>by
  rcases hp with h | ⟨b2,k2,h,hb,hcs,hor⟩
  ·rw [h] at hpk;cases hpk
  ·rw [h] at hpk;cases hpk;refine ⟨hb,fun j hj h'=>?_,fun x hx q hq h'=>?_,fun off ho hX=>?_,hcs⟩
   ·rcases hor with ⟨a,o,c,hv,rfl,hle⟩ | hge
    ·obtain ⟨tok,ht1,_,hmm⟩:=htok _ o c hv;exact (hS.own tok ht1 _ hmm).2.1 j hj h'
    ·have:=hS.lt hj;omega
   ·rcases hor with ⟨a,o,c,hv,rfl,hle⟩ | hge
    ·obtain ⟨tok,ht1,ht2,hmm⟩:=htok _ o c hv;exact hS.dis tok x ht1 (hsub x hx) (fun h2=>ht2 (h2 ▸ hx)) _ q hmm hq h'.symm
    ·obtain ⟨_,_,cs,tyy,fz,hh⟩:=hS.own x (hsub x hx) q hq;have:=(Tp.1 hh).1;omega
   ·rcases hor with ⟨a,o,c,hv,rfl,hle⟩ | hge
    ·obtain ⟨tok,ht1,_,hmm⟩:=htok _ o c hv;exact hS.xown tok ht1 _ hmm off (by simp only;omega) hX
    ·have:=hS.xlt _ _ hX;omega
 refine ⟨e.own σ.nx p,hst,?_,?_⟩
 ·exact {
   inj:=hS.inj
   box:=fun k y hy=>by
    have hk:=(Th.1 hy).1;exact (hS.box k y hy).step hst (hbase _ (hS.lt hk) fun t ht _ q hq h=>(hS.own t ht q hq).2.1 k hk h.symm)
   low:=hS.low
   tkn:=fun x hx=>by
    rcases Tt.1 hx with rfl | h
    ·show σ.nx<σ.nx+1;omega
    ·have:=hS.tkn x (hsub x h);show x<σ.nx+1;omega
   own:=fun x hx q hq=>by
    rcases Tt.1 hx with rfl | h
    ·rw [hMn] at hq;obtain ⟨h1,h2,_,_,h3⟩:=hlow q.1 q.2 hq;exact ⟨h1,h2,h3⟩
    ·rw [hM0 x h] at hq;obtain ⟨h1,h2,cs,tyy,fz,hh⟩:=hS.own x (hsub x h) q hq;refine ⟨h1,h2,cs,tyy,fz,(hbase _ (Tp.1 hh).1 fun t ht1 ht2 r hr=>?_).trans hh⟩;exact hS.dis t x ht1 (hsub x h) (fun h'=>ht2 (h' ▸ h)) r q hr hq
   dis:=fun x y hx hy hxy q r hq hr=>by
    rcases Tt.1 hx with rfl | h1 <;> rcases Tt.1 hy with rfl | h2
    ·exact absurd rfl hxy
    ·rw [hMn] at hq;rw [hM0 y h2] at hr;exact fun h=>(hlow q.1 q.2 hq).2.2.1 y h2 r hr h.symm
    ·rw [hMn] at hr;rw [hM0 x h1] at hq;exact fun h=>(hlow r.1 r.2 hr).2.2.1 x h1 q hq h
    ·rw [hM0 x h1] at hq;rw [hM0 y h2] at hr;exact hS.dis x y (hsub x h1) (hsub y h2) hxy q r hq hr
   xlt:=fun b off hX=>TD (hS.xlt b off hX) hsize
   xown:=fun x hx q hq off ho=>by
    rcases Tt.1 hx with rfl | h
    ·rw [hMn] at hq;exact (hlow q.1 q.2 hq).2.2.2.1 off ho
    ·rw [hM0 x h] at hq;exact hS.xown x (hsub x h) q hq off ho
   glob:=fun b hb=>(hbase b (TD hb hS.big) fun t ht _ q hq h=>by have:=(hS.own t ht q hq).1;omega).trans (hS.glob b hb)
   big:=TO hS.big hsize }
 ·refine .sl _ _ _ _ (by show σ.nx<σ.nx+1;omega) ?_ (fun _=>hown _ hMn);rcases hres with ⟨rfl,hnil⟩ | ⟨b,off,cap,cs,tyb,fz,rfl,hb,hc,hh,hcs,hfz,hor,xs,hxs1,hxs2⟩
  ·rw [hnil];exact .slnil
  ·have hflat:Flat (okc (e.own σ.nx p) { σ with tk:=σ.nx::tk0,nx:=σ.nx+1 }) w1 (rows++more) (T.get el).size xs:=hxs1.mono fun y u h=>h.later hst.toLater
   refine hflat.to_sl b off cap hc hxs2 fun k hk=>?_
   have hOwn:=hown (e.own σ.nx p) hMn;rcases hOwn with ⟨h1,_⟩ | ⟨sz,hq1,hq2,hq3,b',off',cap',cs',ty',fz',h1,_,_,_,_,_,hm1⟩
   ·cases h1
   ·cases h1
    rw [hMn] at hm1;rw [hi] at hq1;simp only [Ss,Option.some.injEq] at hq1;subst hq1;obtain ⟨g1,g2,g3,g4,g5⟩:=hlow _ _ hm1;rw [hxs1.len] at hk;refine ⟨fun hX=>?_,g2,fun x hx q hq hqb=>?_⟩
    ·rcases hor with ⟨c,hv⟩ | hge
     ·obtain ⟨tok,ht1,_,hmm⟩:=htok _ off c hv
      by_cases hkk:k<rows.length * (T.get el).size
      ·subst hv;obtain ⟨olds,ho1,ho2,ho3,ho4⟩:=ZAr hrw hpos hD;exact (ho3 k (by rw [ho1.len];exact hkk)).1 hX
      ·exact hS.xown tok ht1 _ hmm (off+k) (by simp only;omega) hX
     ·have:=hS.xlt _ _ hX;omega
    ·rcases Tt.1 hx with rfl | h
     ·rw [hMn,hm1] at hq;cases hq;simp only;rw [hs];omega
     ·rw [hM0 x h] at hq;exact absurd hqb (g3 x h q hq)
theorem ZaW (hT:TabOK T G.P) (hS:SRel G e σ w) {el:Nat} (hkel:(T.get el).kind≠.other) {rows:List (List D)} {v:Value} (tk0:List Nat)
  (hO:(v=.slice none 0 0∧rows=[])∨∃tok,tok∈σ.tk∧tok∉tk0∧Owned G e w tok el rows v) :
  ((v = .slice none 0 0 ∧ rows = []) ∨ ∃ b off cap cs ty fz, v = .slice (some ⟨b, off, none⟩) rows.length cap ∧ G.nG ≤ b ∧ rows.length ≤ cap ∧ w.heap[b]? = some (.cells cs ty fz) ∧ (off + cap * (T.get el).size ≤ cs.size ∧ off = 0 ∧ ty = el ∧ 0 < cap) ∧
     (fz.1≤fz.2∧∀o,off+rows.length * (T.get el).size≤o→fz.1≤o→fz.2≤o)∧(∀i,i<σ.bx.length→e.β i≠b))∧(∀r∈rows,r.length=(T.get el).size) ∧
     (∀a o c,v=.slice (some ⟨a,o,none⟩) rows.length c→∃tok,tok∈σ.tk∧tok∉tk0∧e.M tok=some (a,o+rows.length * (T.get el).size)):=by
 obtain ⟨i,d,z,hi,hd,hs,hby,hkd2,hz,hz2,hzl,_⟩:=(hT.get hkel).ex;rcases hO with ⟨rfl,rfl⟩ | ⟨tok,ht1,ht2,⟨rfl,rfl,_⟩ | ⟨sz,h1,h2,h3,b,off,cap,cs,tyb,fz,rfl,hb,hc,hh,hcs,hfz,hmm⟩⟩
 ·exact ⟨.inl ⟨rfl,rfl⟩,fun r h=>(by cases h),fun a o c h=>by simp at h⟩
 ·exact ⟨.inl ⟨rfl,rfl⟩,fun r h=>(by cases h),fun a o c h=>by simp at h⟩
 ·rw [hi] at h1;simp only [Ss,Option.some.injEq] at h1;subst h1;rw [hs] at h3 hcs hfz hmm;exact ⟨.inr ⟨b,off,cap,cs,tyb,fz,rfl,hb,hc,hh,hcs,hfz,(hS.own tok ht1 _ hmm).2.1⟩,h3,fun a o c hv=>by cases hv;exact ⟨tok,ht1,ht2,hmm⟩⟩
theorem Zge (hT:TabOK T G.P) (hS:SRel G e σ w) {t tx el ty:Nat} (hkt:(T.get t).kind=.slice el) (hkel:(T.get el).kind≠.other) (hpos:0<(T.get el).size)
  {rows more:List (List D)} {v vx:Value} {px:PV} (hD:DRel (okc e σ) w (.sl rows) v) (tk0:List Nat) (hsub:∀x,x∈tk0→x∈σ.tk)
  (hO:(v=.slice none 0 0∧rows=[])∨∃tok,tok∈σ.tk∧tok∉tk0∧Owned G e w tok el rows v)
  (hm:UO T tx el px=some more) (hx:VRel G e σ w px vx) (hw:∀r∈more,r.length=(T.get el).size)
  (hbytes:(rows.length+more.length) * (T.get el).bytes≤2 ^ 47) (hlen:rows.length+more.length≤2 ^ 47) :
  ∃v' w1 e1,(Builtin.append_ #[t,tx] ty #[v,vx]).run G.P w=.ok v' w1∧Stepped e σ w e1 { σ with tk:=σ.nx::tk0,nx:=σ.nx+1 } w1∧SRel G e1 { σ with tk:=σ.nx::tk0,nx:=σ.nx+1 } w1 ∧
   VRel G e1 { σ with tk:=σ.nx::tk0,nx:=σ.nx+1 } w1 (.sl σ.nx el (rows++more)) v':=by
 obtain ⟨i,d,z,hi,hd,hs,hby,hkd2,hz,hz2,hzl,_⟩:=(hT.get hkel).ex;obtain ⟨news,hsrc,hnews⟩:=Ztm hT hm hx hw hpos rfl;obtain ⟨hO3,hrw,htok⟩:=ZaW hT hS hkel tk0 hO;obtain ⟨v',w1,hrun,hos,htape,hout,hsize,hcell,hblk,hres⟩:=Zgd (ty:=ty) hT hS hkt hkel hpos hD hrw hO3 hsrc hnews hbytes hlen;obtain ⟨e1,h1,h2,h3⟩:=J5 hT hS hkel hpos hD tk0 hsub hrw hw htok hos htape hout hsize hcell hblk hres;exact ⟨v',w1,e1,hrun,h1,h2,h3⟩
theorem Zbu {ok:Nat→Nat→Prop}:∀{l:List PV} {r:List D},ZqX l=some r→r.length=l.length∧∀(i:Nat) (x:PV) (y:D),l[i]?=some x→r[i]?=some y→toD x=some y
 | [],r,h=>by cases h;exact ⟨rfl,fun i x y hx=>by simp at hx⟩
 | v::l,r,h=>by
  simp only [ZqX] at h;split at h
  ·rename_i d hd
   split at h
   ·rename_i r' hr
    cases h
    obtain ⟨h1,h2⟩:=Zbu (ok:=ok) hr;refine ⟨by simp [h1],fun i x y hx hy=>?_⟩
    cases i with
    | zero=>simp at hx hy;subst hx;subst hy;exact hd
    | succ i=>exact h2 i x y (by simpa using hx) (by simpa using hy)
   ·cases h
  ·cases h
theorem Zic {ρ:Operand→PV} {ρ':Operand→Value} (hρ:∀x,VRel G e σ w (ρ x) (ρ' x)) {sz:Nat} (hpos:0<sz) :
  ∀(ps:List (Nat×Operand)) (rows rows':List (List D)) (vs:Array Value),Flat (okc e σ) w rows sz vs.toList→(∀u∈vs,u.oneCell'=true)→Vd sz ρ ps rows=some rows' →
   ∃vs':Array Value,Instr.fill (fun i=>some (i * sz,sz)) vs (ps.map fun p=>(p.1,ρ' p.2))=some vs'∧Flat (okc e σ) w rows' sz vs'.toList∧rows'.length=rows.length∧(∀u∈vs',u.oneCell'=true)
 | [],rows,rows',vs,hf,h1,h=>by cases h;exact ⟨vs,rfl,hf,rfl,h1⟩
 | (i,x)::ps,rows,rows',vs,hf,h1,h=>by
  simp only [Vd] at h;split at h
  ·rename_i r hr
   split at h
   ·rename_i hlen hlt
    have e1:=Tm hlen;have e2:=Ta hlt;unfold Zj5 at hr
    split at hr
    ·rename_i l hl
     obtain ⟨hc1,hc2⟩:=Um (hρ x) hl;obtain ⟨hd1,hd2⟩:=Zbu (ok:=okc e σ) hr;have hvs:vs.size=rows.length * sz:=by have:=hf.len;simpa using this
     have hsz:(ρ' x).cells.size=sz:=by rw [hc1,← hd1,e1]
     have hin:i * sz+sz≤rows.length * sz:=by
      calc i * sz+sz=(i+1) * sz:=by rw [Sd,Nat.one_mul]
       _≤rows.length * sz:=TY _ e2
     simp only [TJ,Instr.fill];rw [Tc (by rw [hsz,hvs];simp;omega)];rw [Zol];have hget:∀k,((((ρ' x).cells.toList.zipIdx 0).foldl (fun cs (p:Value×Nat)=>cs.setIfInBounds (i * sz+p.2) p.1) vs))[k]?=if i * sz≤k∧k<i * sz+sz then (ρ' x).cells[k - i * sz]? else vs[k]?:=fun k=>by
      rw [Zeg];simp only [Sa,Sf,hsz,Tx]
      by_cases hk:i * sz≤k∧k<i * sz+sz
      ·rw [Tf hk,Tf ⟨hk.1,hk.2,by omega⟩]
      ·rw [Tc hk,Tc (by omega)]
     have hsize:((((ρ' x).cells.toList.zipIdx 0).foldl (fun cs (p:Value×Nat)=>cs.setIfInBounds (i * sz+p.2) p.1) vs)).size=vs.size:=Zdb vs (i * sz) (ρ' x).cells.toList 0 vs;generalize ((((ρ' x).cells.toList.zipIdx 0).foldl (fun cs (p:Value×Nat)=>cs.setIfInBounds (i * sz+p.2) p.1) vs))=vs2 at hget hsize ⊢;have hF2:Flat (okc e σ) w (rows.set i r) sz vs2.toList:=by
      refine ⟨by rw [Sf,hsize,hvs,Su],fun r' hr'=>?_,fun a b y u hb hy hu=>?_⟩
      ·rcases List.mem_or_eq_of_mem_set hr' with h' | rfl
       ·exact hf.wid r' h'
       ·exact e1
      ·rw [Tx,hget] at hu
       by_cases hai:a=i
       ·subst hai;rw [Tf ⟨by omega,by omega⟩,show a * sz+b - a * sz=b by omega] at hu;rw [List.getElem?_set_self (by omega)] at hy;simp only [Option.bind_some] at hy;have hbl:b<l.length:=by omega
        have:=hd2 b l[b] y (Tg hbl) hy;exact UR this (hc2 b l[b] u (Tg hbl) hu).1
       ·rw [List.getElem?_set_ne (Ne.symm hai)] at hy;have hne:¬(i * sz≤a * sz+b∧a * sz+b<i * sz+sz):=fun hh=>by
         rcases Nat.lt_or_gt_of_ne hai with h' | h'
         ·have:(a+1) * sz≤i * sz:=TY _ h';rw [Sd,Nat.one_mul] at this;omega
         ·have:(i+1) * sz≤a * sz:=TY _ h';rw [Sd,Nat.one_mul] at this;omega
        rw [Tc hne] at hu;exact hf.rel a b y u hb hy (by rw [Tx];exact hu)
     have hone2:∀u∈vs2,u.oneCell'=true:=by
      intro u hu
      obtain ⟨k,hk,rfl⟩:=Array.getElem_of_mem hu;have h3:=hget k;rw [TA hk] at h3
      by_cases hk2:i * sz≤k∧k<i * sz+sz
      ·rw [Tf hk2] at h3;have hbl:k - i * sz<l.length:=by omega
       exact (hc2 (k - i * sz) l[k - i * sz] _ (Tg hbl) h3.symm).2
      ·rw [Tc hk2] at h3;exact h1 _ (T8 h3.symm)
     obtain ⟨vs',q1,q2,q3,q4⟩:=Zic hρ hpos ps (rows.set i r) rows' vs2 hF2 hone2 h;exact ⟨vs',q1,q2,by rw [q3,Su],q4⟩
    ·cases hr
   ·cases h
  ·cases h
theorem ZaE (hT:TabOK T G.P) {ρ:Operand→PV} {ρ':Operand→Value} (hρ:∀x,VRel G e σ w (ρ x) (ρ' x)) {t n el:Nat} {ps:Array (Nat×Operand)} {zero:List D} {rows:List (List D)}
  (hkt:(T.get t).kind=.slice el) (hkel:(T.get el).kind≠.other) (hzero:ZqX (T.get el).zero=some zero) (hpos:1≤zero.length) (hbig:n * zero.length≤16777216) (hrows:Zec zero ρ n ps.toList=some rows) :
  ∃vs',(Instr.buildSlice t n (ps.map fun p=>(p.1,ρ' p.2))).run G.P w=.ok (.slice (some ⟨w.heap.size,0,none⟩) n n) (w.alloc (.cells vs' el))∧Flat (okc e σ) w rows zero.length vs'.toList∧rows.length=n∧zero.length=(T.get el).size:=by
 obtain ⟨ti,td,tz,hti,htd,_,_,hkd,_,_,_⟩:=(hT.get (t:=t) (by rw [hkt];simp)).ex;rw [hkt] at hkd;cases hkd;obtain ⟨i,d,z,hi,hd,hs,hby,hkd2,hz,hz2,hzl,_⟩:=(hT.get hkel).ex;obtain ⟨hd1,hd2⟩:=Zbu (ok:=okc e σ) hzero;have hisz:i.size=zero.length:=by rw [hs,← hzl,hd1]
 obtain ⟨hz3,hz4⟩:=Vo (G:=G) (e:=e) (σ:=σ) (w:=w) hz2;have hzc:z.cells.size=zero.length:=by rw [hd1,← hz3];simp
 have hsz:0<zero.length:=hpos;have h0:Flat (okc e σ) w (List.replicate n zero) zero.length ((Array.range (n * zero.length)).map (fun k=>z.cells[k % z.cells.size]!)).toList:=by
  exact m32
 have h01:∀u∈(Array.range (n * zero.length)).map (fun k=>z.cells[k % z.cells.size]!),u.oneCell'=true:=fun u hu=>by
  obtain ⟨k,hk,rfl⟩:=Array.mem_map.1 hu;have hm:k % z.cells.size<z.cells.size:=Nat.mod_lt _ (by omega);rw [getElem!_pos z.cells _ hm];have hbl:k % z.cells.size<(T.get el).zero.length:=by omega
  exact (hz4 _ _ _ (Tg hbl) (by rw [Tx,TA hm])).2
 obtain ⟨vs',q1,q2,q3,q4⟩:=Zic hρ hsz ps.toList _ rows _ h0 h01 hrows;rw [List.length_replicate] at q3;have hrun:(Instr.buildSlice t n (ps.map fun p=>(p.1,ρ' p.2))).run G.P w=.ok (.slice (some ⟨w.heap.size,0,none⟩) n n) (w.alloc (.cells vs' el)):=by
  unfold Instr.buildSlice
  simp only [Sem.run_bind,Zc htd,Result.andThen,ZB hi,hisz];rw [Tc (by omega)];have hps:(ps.map fun p=>(p.1,ρ' p.2)).toList=ps.toList.map fun p=>(p.1,ρ' p.2):=by simp
  split
  ·rename_i h0'
   have hsame:(Array.range (n * zero.length)).map (fun k=>(#[]:Array Value)[k % (#[]:Array Value).size]!)=(Array.range (n * zero.length)).map (fun k=>z.cells[k % z.cells.size]!):=by
    rw [h0'];simp
   simp only [Sem.run_bind,Sem.run_pure,Result.andThen];rw [hsame,hps,q1];exact m110
  ·simp only [Sem.run_bind,Sem.run_pure,Result.andThen,zeroValue,Yt hi,hz];rw [hps,q1];exact m110
 exact ⟨vs',hrun,q2,q3,by rw [← hisz,hs]⟩
theorem ZdI (hT:TabOK T G.P) (hS:SRel G e σ w) {ρ:Operand→PV} {ρ':Operand→Value} (hρ:∀x,VRel G e σ w (ρ x) (ρ' x)) {t n el:Nat} {ps:Array (Nat×Operand)} {zero:List D} {rows:List (List D)}
  (hkt:(T.get t).kind=.slice el) (hkel:(T.get el).kind≠.other) (hzero:ZqX (T.get el).zero=some zero) (hpos:1≤zero.length) (hbig:n * zero.length≤16777216) (hrows:Zec zero ρ n ps.toList=some rows) :
  ∃v w1,(Instr.buildSlice t n (ps.map fun p=>(p.1,ρ' p.2))).run G.P w=.ok v w1∧Grows w w1∧DRel (okc e σ) w1 (.sl rows) v:=by
 obtain ⟨vs',hrun,q2,hlen,_⟩:=ZaE (ρ':=ρ') hT hρ hkt hkel hzero hpos hbig hrows;refine ⟨_,_,hrun,Grows.alloc w _,?_⟩;have hg:=Grows.alloc w (.cells vs' el);have hst:=hg.stepped e σ;have hflat:Flat (okc e σ) (w.alloc (.cells vs' el)) rows zero.length vs'.toList:=q2.mono fun y u h=>h.later hst.toLater
 have:=hflat.to_sl w.heap.size 0 n (by omega) (fun k u hk=>by
  simp only [World.cell?,T7];rw [heap_alloc_new w (.cells vs' el)];simpa using hk) (fun k hk=>⟨fun hX=>by have:=hS.xlt _ _ hX;omega,fun j hj h=>by have:=hS.lt hj;omega,fun x hx q hq hqb=>by
   obtain ⟨_,_,cs,tyy,fz,hh⟩:=hS.own x hx q hq;have:=(Tp.1 hh).1;omega⟩)
 rwa [hlen] at this
theorem Zej (hT:TabOK T G.P) (hS:SRel G e σ w) {t n el:Nat} {zero:List D}
  (hkt:(T.get t).kind=.slice el) (hkel:(T.get el).kind≠.other) (hzero:ZqX (T.get el).zero=some zero) (hpos:1≤zero.length) (hbig:n * zero.length≤16777216) (hbb:n * (T.get el).bytes≤16777216) :
  ∃v w1,(Instr.makeSlice t (.int .i64 n) (.int .i64 n)).run G.P w=.ok v w1∧Grows w w1∧DRel (okc e σ) w1 (.sl (List.replicate n zero)) v:=by
 obtain ⟨ti,td,tz,hti,htd,_,_,hkd,_,_,_⟩:=(hT.get (t:=t) (by rw [hkt];simp)).ex;rw [hkt] at hkd;cases hkd;obtain ⟨i,d,z,hi,hd,hs,hby,hkd2,hz,hz2,hzl,_⟩:=(hT.get hkel).ex;obtain ⟨hd1,hd2⟩:=Zbu (ok:=okc e σ) hzero;have hisz:i.size=zero.length:=by rw [hs,← hzl,hd1]
 obtain ⟨hz3,hz4⟩:=Vo (G:=G) (e:=e) (σ:=σ) (w:=w) hz2;have hzc:z.cells.size=zero.length:=by rw [hd1,← hz3];simp
 have hsz:0<zero.length:=hpos;have hn:n≤16777216:=TO (Nat.le_mul_of_pos_right n hsz) hbig;obtain ⟨V,hV⟩:∃V,(Array.range (n * zero.length)).map (fun k=>z.cells[k % z.cells.size]!)=V:=⟨_,rfl⟩
 have h0:Flat (okc e σ) w (List.replicate n zero) zero.length V.toList:=by
  rw [← hV];exact m32
 have hwr:IntKind.i64.wrap (n:Int)=n:=by
  unfold IntKind.wrap
  exact m173
 have hlarge:(decide ((n:Int)<0) || decide ((i.bytes:Int) * (n:Int)>2 ^ 48))=false:=by
  have:(i.bytes:Int) * (n:Int)=((n * (T.get el).bytes:Nat):Int):=by rw [hby];push_cast;exact Int.mul_comm _ _
  rw [this];simp only [T6,decide_eq_false_iff_not];exact ⟨by omega,by omega⟩
 have hrun:(Instr.makeSlice t (.int .i64 n) (.int .i64 n)).run G.P w=.ok (.slice (some ⟨w.heap.size,0,none⟩) n n) (w.alloc (.cells V el)):=by
  unfold Instr.makeSlice
  have ha:Sem.run G.P (asIntOf (.int .i64 (n:Int))) w=.ok (.i64,(n:Int)) w:=rfl;have hl0:decide ((n:Int)<0)=false:=decide_eq_false (by omega);have hl1:decide ((n:Int)>(n:Int))=false:=decide_eq_false (by omega);have hl2:decide ((i.bytes:Int) * (n:Int)>2 ^ 48)=false:=by
   rw [T6] at hlarge;exact hlarge.2
  have hroom:(askRoom (n * i.bytes)).run G.P w=.ok () w:=by
   unfold askRoom
   rw [Tc (by rw [hby];unfold roomBytes;omega)];rfl
  simp only [Sem.run_bind,Zc htd,Result.andThen,asInt,Functor.map,Sem.run_pure,Yt hi,ha,hwr,hl0,hl1,hl2,T4,Tr,if_false,Tj,hroom,ZB hi,hisz];split
  ·rename_i h0'
   have hsame:(Array.range (n * zero.length)).map (fun k=>(#[]:Array Value)[k % (#[]:Array Value).size]!)=V:=by
    rw [← hV,h0'];simp
   simp only [Sem.run_bind,Sem.run_pure,Result.andThen];rw [hsame];exact m110
  ·simp only [Sem.run_bind,Sem.run_pure,Result.andThen,zeroValue,Yt hi,hz];rw [hV];exact m110
 refine ⟨_,_,hrun,Grows.alloc w _,?_⟩;have hg:=Grows.alloc w (.cells V el);have hst:=hg.stepped e σ;have hflat:Flat (okc e σ) (w.alloc (.cells V el)) (List.replicate n zero) zero.length V.toList:=h0.mono fun y u h=>h.later hst.toLater
 have:=hflat.to_sl w.heap.size 0 n (by rw [List.length_replicate];exact Tq _) (fun k u hk=>by
  simp only [World.cell?,T7];rw [heap_alloc_new w (.cells V el)];simpa using hk) (fun k hk=>⟨fun hX=>by have:=hS.xlt _ _ hX;omega,fun j hj h=>by have:=hS.lt hj;omega,fun x hx q hq hqb=>by
   obtain ⟨_,_,cs,tyy,fz,hh⟩:=hS.own x hx q hq;have:=(Tp.1 hh).1;omega⟩)
 rwa [List.length_replicate] at this
theorem ZmW (hT:TabOK T G.P) (hS:SRel G e σ w) {K:PV→St→Prop} {ρ:Operand→PV} {ρ':Operand→Value} (hρ:∀x,VRel G e σ w (ρ x) (ρ' x)) (o:Oper) (h:Zyc T o.op ρ σ K) :
  ∃pv σ1 v w1 e1,K pv σ1∧(execOp ρ' o).run G.P w=.ok (.value v) w1∧Stepped e σ w e1 σ1 w1∧SRel G e1 σ1 w1∧VRel G e1 σ1 w1 pv v:=by
 unfold Zyc at h
 split at h
 ·rename_i t n ps ho
  split at h
  ·rename_i el hk
   split at h
   ·exact h.elim
   ·rename_i hk2
    split at h
    ·rename_i zero hzero
     split at h
     ·rename_i rows hpos hbig hn hrows
      have hn:=Ta hn;obtain ⟨vs',hrun,hfl,hlen,hzs⟩:=ZaE (ρ':=ρ') hT hρ hk (fun h0=>hk2 h0) hzero (Ta hpos) (Ta hbig) hrows;rw [hzs] at hfl;have hvs:vs'.size=n * (T.get el).size:=by have:=hfl.len;rw [hlen,Sf] at this;exact this
      obtain ⟨e1,h1,h2,h3⟩:=J5 (more:=rows) (v':=.slice (some ⟨w.heap.size,0,none⟩) n n) (w1:=w.alloc (.cells vs' el)) hT hS (fun h0=>hk2 h0) (by have:=Ta hpos;omega) (.slnil) σ.tk (fun _ h=>h) (fun r hr=>by cases hr) (fun r hr=>hfl.wid r hr)
       (fun a o c hv=>by simp at hv) rfl rfl rfl (Grows.alloc w _).size (fun b off u hu _=>.inl (by rw [(Grows.alloc w _).cell (UQ hu)];exact hu)) (fun b hb _=>heap_alloc_old w _ b hb)
       (.inr ⟨w.heap.size,0,n,vs',el,(0,0),by simp [hlen],hS.big,by simp [hlen],heap_alloc_new w _,⟨by omega,rfl,rfl,by omega⟩,⟨Tq _,fun o _ _=>by simp⟩,.inr (Tq _),vs'.toList,by simpa using hfl,fun k u hk=>by
        simp only [World.cell?,T7];rw [heap_alloc_new w (.cells vs' el)];simpa using hk⟩)
      refine ⟨_,_,_,_,e1,h,?_,h1,h2,h3⟩;exact m138
     ·exact h.elim
    ·exact h.elim
  ·exact h.elim
 ·rename_i s d x ho
  have hx:=hρ x;split at h
  ·rename_i el hk
   obtain ⟨i,ds,z,hi,hd,hs,hby,hkd,hz,hz2,_⟩:=(hT.get (t:=s) (by rw [hk];simp)).ex;rw [hk] at hkd;cases hkd;split at h
   ·rename_i b off n hk2 hk3 heqx
    obtain ⟨i2,dd,z2,hi2,hd2,hs2,hby2,hkd2,hz2,hz22,_⟩:=(hT.get (t:=d) (by rw [hk2];simp)).ex;rw [hk2] at hkd2;cases hkd2;obtain ⟨i3,de,z3,hi3,hd3,hs3,hby3,hkd3,hz3,hz33,_⟩:=(hT.get (t:=el) (by rw [hk3];simp)).ex;rw [hk3] at hkd3;cases hkd3;rw [heqx] at hx;split at h
    ·rename_i tb cs hbx
     obtain ⟨l,hln,htk,hK⟩:=h;generalize hv:ρ' x=vx at hx
     cases hx with
     | asl _ _ _ hb =>
      refine ⟨_,_,_,_,e,hK,?_,Stepped.refl e σ w,hS,.mkstr⟩;unfold execOp
      simp only [ho,convert,Sem.run_bind,Zc hd,Zc hd2,Result.andThen,hv];simp only [Zc hd3,Sem.run_bind,Result.andThen,Zom (hS.box b _ hbx) htk hln,Sem.run_pure]
    ·exact h.elim
   ·exact h.elim
  ·exact h.elim
 ·exact h.elim
theorem ZmX (hT:TabOK T G.P) (hS:SRel G e σ w) {K:PV→Prop} {ρ:Operand→PV} {ρ':Operand→Value} (hρ:∀x,VRel G e σ w (ρ x) (ρ' x)) (o:Oper) (h:Zh5 T o.op o.type ρ σ.bx K) :
  ∃pv v w1,K pv∧Grows w w1∧VRel G e σ w1 pv v∧(execOp ρ' o).run G.P w=.ok (.value v) w1:=by
 unfold Zh5 at h
 split at h
 ·rename_i x hx
  unfold ZmO at hx
  split at hx
  ·rename_i s d x' ho
   split at hx
   ·rename_i hks
    split at hx
    ·rename_i el hkd
     split at hx
     ·rename_i hke
      cases hx
      obtain ⟨i1,d1,z1,hi1,hd1,hs1,hby1,hkd1,_⟩:=(hT.get (t:=s) (by rw [hks];simp)).ex;obtain ⟨i2,d2,z2,hi2,hd2,hs2,hby2,hkd2,_⟩:=(hT.get (t:=d) (by rw [hkd];simp)).ex;obtain ⟨i3,d3,z3,hi3,hd3,hs3,hby3,hkd3,_⟩:=(hT.get (t:=el) (by rw [hke];simp)).ex;rw [hks] at hkd1;rw [hkd] at hkd2;rw [hke] at hkd3;obtain rfl:d1=.string:=hkd1;obtain rfl:d2=.slice el:=hkd2;obtain rfl:d3=.int .u8:=hkd3;have hx:=hρ x;split at h
      ·rename_i l heq
       rw [heq] at hx;have hg:Grows w (Lib.bytesWorld w el ⟨l.toArray⟩):=⟨rfl,rfl,rfl,by rw [Lib.bytesWorld_size];omega,fun b hb=>Lib.bytesWorld_at_old w el _ b hb⟩
       refine ⟨_,.slice (some ⟨w.heap.size,0,none⟩) l.length (grownCap w l.length 0 el),_,h,hg,?_,?_⟩
       ·refine .d _ _ ?_;have:=DRel.sl (ok:=okc e σ) (w:=Lib.bytesWorld w el ⟨l.toArray⟩) (l.map fun b:UInt8=>[D.int .u8 b.toNat]) w.heap.size 0 (grownCap w l.length 0 el) 1 (fun i _=>.int .u8 (l.getD i 0).toNat) ?_ ?_ ?_ ?_ ?_
        ·simpa using this
        ·simp only [Ti];exact grownCap_ge w l.length 0 el
        ·intro r hr;simp only [Sy] at hr;obtain ⟨b,_,rfl⟩:=hr;rfl
        ·intro i j hi hj
         simp only [Ti] at hi;have:j=0:=by omega
         subst this;simp only [T7,Nat.mul_one,Sa];have:=Lib.bytesWorld_cell w el ⟨l.toArray⟩ i (show i<l.toArray.size by simpa using hi);simpa using this
        ·intro i j hi hj
         refine ⟨fun hX=>?_,fun k hk=>?_,fun t ht p hp hpb=>?_⟩
         ·have:=hS.xlt _ _ hX;omega
         ·have:=hS.lt hk;omega
         ·obtain ⟨_,_,cs,ty,fz,hh⟩:=hS.own t ht p hp;have:=(Tp.1 hh).1;omega
        ·intro i j y hy
         rw [TL] at hy
         cases hli:l[i]? with
         | none=>rw [hli] at hy;simp at hy
         | some b =>
          rw [hli] at hy
          cases j with
          | zero=>simp at hy;subst hy;simp only [TS,hli,Option.getD_some];exact .int _ _
          | succ j=>simp at hy
       ·unfold execOp
        simp only [ho,hx.dstr];rw [Sem.run_bind,Lib.run_convert_string_bytes w s d el ⟨l.toArray⟩ hd1 hd2 hd3];rfl
      ·exact h.elim
     ·cases hx
    ·cases hx
   ·cases hx
  ·cases hx
 ·split at h
  ·rename_i t n ps ho
   split at h
   ·rename_i el hk
    split at h
    ·exact h.elim
    ·rename_i hk2
     split at h
     ·rename_i zero hzero
      split at h
      ·rename_i rows hpos hbig hrows
       obtain ⟨v,w1,hrun,hg,hD⟩:=ZdI hT hS hρ hk (fun h0=>hk2 h0) hzero (Ta hpos) (Ta hbig) hrows;refine ⟨_,v,w1,h,hg,.d _ _ hD,?_⟩;exact m138
      ·exact h.elim
     ·exact h.elim
   ·exact h.elim
  ·rename_i t l c ho
   split at h
   ·rename_i el hk
    split at h
    ·exact h.elim
    ·rename_i hk2
     split at h
     ·rename_i zero n m hzero hl hc
      split at h
      ·rename_i hnm hpos hbig hbb
       obtain rfl:=Tm hnm;obtain ⟨v,w1,hrun,hg,hD⟩:=Zej hT hS hk (fun h0=>hk2 h0) hzero (Ta hpos) (Ta hbig) (Ta hbb);refine ⟨_,v,w1,h,hg,.d _ _ hD,?_⟩;have e1:ρ' l=.int .i64 (n:Int):=by have:=hρ l;rw [hl] at this;exact this.dint
       have e2:ρ' c=.int .i64 (n:Int):=by have:=hρ c;rw [hc] at this;exact this.dint
       unfold execOp
       simp only [ho,Sem.run_bind,e1,e2];rw [hrun];rfl
      ·exact h.elim
     ·exact h.elim
   ·exact h.elim
  ·obtain ⟨pv,v,h1,h2,h3⟩:=Zon hT hS hρ o h;exact ⟨pv,v,w,h1,Grows.refl w,h2,h3⟩
theorem Zoo (hT:TabOK T G.P) (hS:SRel G e σ w) {K:PV→St→Prop} {ρ:Operand→PV} {ρ':Operand→Value} (hρ:∀x,VRel G e σ w (ρ x) (ρ' x)) (o:Oper) (h:eop T o.op ρ σ K) :
  ∃pv σ1 v w1 e1,K pv σ1∧Ztl G.P ρ' o w v w1∧Stepped e σ w e1 σ1 w1∧SRel G e1 σ1 w1∧VRel G e1 σ1 w1 pv v:=by
 unfold eop at h
 split at h
 ·rename_i el ho
  split at h
  ·exact h.elim
  ·rename_i hk
   obtain ⟨i,d,z,hi,hd,hs,hby,hkd,hz,hz2,hzl,_⟩:=(hT.get (t:=el) (fun h0=>hk h0)).ex;obtain ⟨hz3,hz4⟩:=Vo (G:=G) (e:=e) (σ:=σ) (w:=w) hz2;obtain ⟨h1,h2,h3⟩:=Zei hS el (T.get el).zero z.cells (by simpa using hz3) (fun i x u hx hu=>hz4 i x u hx (by rw [Tx];exact hu));refine ⟨_,_,_,_,_,h,.inl ?_,h1,h2,h3⟩;unfold execOp
   simp only [ho,Instr.alloc,zeroValue,Sem.run_bind,Yt hi,Result.andThen,hz,Sem.run_pure];rfl
 ·rename_i el x ho
  split at h
  ·rename_i l hl
   obtain ⟨hc1,hc2⟩:=Um (hρ x) hl;obtain ⟨h1,h2,h3⟩:=Zei hS el l (ρ' x).cells hc1 hc2;exact ⟨_,_,_,_,_,h,.inl (by unfold execOp;simp only [ho];rfl),h1,h2,h3⟩
  ·exact h.elim
 ·rename_i t a x ho
  have ha:=hρ a;split at h
  ·rename_i b off heq;rw [heq] at ha
   split at h
   ·rename_i ty cs hb
    split at h
    ·rename_i l hl
     split at h
     ·exact h.elim
     ·rename_i h1 h2 hk
      generalize hv:ρ' a=v at ha
      cases ha with
      | ptr b off hbl =>
       obtain ⟨w1,hrun,hst,hS1⟩:=ZaV hT hS hb (hρ x) hl (Tm h1) (Ta h2) (fun h0=>hk h0);refine ⟨_,_,Go.undef,w1,e,h,.inr ⟨?_,rfl⟩,hst,hS1,.undef _⟩;unfold execOp
       simp only [ho,hv,Sem.run_bind,hrun,Result.andThen,Sem.run_pure]
     ·exact h.elim
    ·exact h.elim
   ·exact h.elim
  ·exact h.elim
 ·rename_i t x ho
  split at h
  ·rename_i hk
   obtain ⟨i,d,z,hi,hd,hs,hby,hkd,hz,hz2,hzl,_⟩:=(hT.get (t:=t) (by rw [hk];simp)).ex;rw [hk] at hkd;cases hkd;split at h
   ·rename_i s heq
    have hx:=hρ x;rw [heq] at hx;have hxv:=hx.dstr;obtain ⟨h1,h2,h3⟩:=Zeh hS (.iter s 0) (.stringIter ⟨s.toArray⟩ 0) (fun _ _ _ _ hh=>hh);refine ⟨_,_,_,_,_,h,.inl ?_,h1,h2,h3⟩;unfold execOp
    simp only [ho,hxv,Instr.range,Sem.run_bind,Zc hd,Result.andThen,Sem.run_pure,run_newObj];rfl
   ·exact h.elim
  ·exact h.elim
 ·rename_i x ho
  have hx:=hρ x;split at h
  ·rename_i b heq;rw [heq] at hx
   split at h
   ·rename_i s pos hb
    generalize hv:ρ' x=v at hx
    cases hx with
    | ptr b off hbl =>
     obtain ⟨pv,σ1,v,w1,hK,hrun,hst,hS1,hr⟩:=ZmV hS hb o.type h;refine ⟨pv,σ1,v,w1,e,hK,.inl ?_,hst,hS1,hr⟩;unfold execOp
     simp only [ho,hv,Sem.run_bind,hrun,Result.andThen,Sem.run_pure]
   ·exact h.elim
  ·exact h.elim
 ·rename_i args argTypes ho
  split at h
  ·rename_i t tx s x hts hvs
   have hat:argTypes=#[t,tx]:=by rw [← Array.toArray_toList (xs:=argTypes),hts]
   obtain ⟨q1,q2,hargs⟩:∃q1 q2,args.toList=[q1,q2]:=by
    cases hl:args.toList with
    | nil=>rw [hl] at hvs;cases hvs
    | cons a l=>cases l with
     | nil=>rw [hl] at hvs;cases hvs
     | cons b l=>cases l with
      | nil=>exact ⟨a,b,rfl⟩
      | cons c l=>rw [hl] at hvs;simp at hvs
   have ha:args=#[q1,q2]:=by rw [← Array.toArray_toList (xs:=args),hargs]
   rw [hargs] at hvs;simp only [TJ,TX,List.cons.injEq,and_true] at hvs;obtain ⟨hs',hx'⟩:=hvs;have hrs:=hρ q1;have hrx:=hρ q2;rw [hs'] at hrs;rw [hx'] at hrx;have hexec:∀v' w1,(Builtin.append_ #[t,tx] o.type #[ρ' q1,ρ' q2]).run G.P w=.ok v' w1→Ztl G.P ρ' o w v' w1:=fun v' w1 hr=>.inl (by
    unfold execOp
    simp only [ho,resolve,invoke,builtin,Sem.run_bind,Sem.run_pure,Result.andThen,ha,hat];rw [show Array.map ρ' #[q1,q2]=#[ρ' q1,ρ' q2] from by simp,hr])
   split at h
   ·rename_i el hk
    split at h
    ·exact h.elim
    ·rename_i hk2
     split at h
     ·rename_i more hpos hm
      split at h
      ·rename_i el2
       obtain ⟨hw,hb,hl,hK⟩:=h;generalize hv:ρ' q1=v at hrs hexec
       cases hrs with
       | nils =>
        obtain ⟨v',w1,e1,hrun,hst,hS1,hr⟩:=Zge (ty:=o.type) hT hS hk (fun h0=>hk2 h0) (Ta hpos) (rows:=[]) (.slnil) σ.tk (fun _ h=>h) (.inl ⟨rfl,rfl⟩) hm hrx hw (by simpa using hb) (by simpa using hl);exact ⟨_,_,v',w1,e1,hK,hexec v' w1 hrun,hst,hS1,hr⟩
      ·rename_i tok e2 rows
       split at h
       ·rename_i hmem he2
        obtain ⟨hw,hb,hl,hK⟩:=h;have:=Tm he2;subst this;have hmem':=(Y3 _ _).1 hmem;generalize hv:ρ' q1=v at hrs hexec
        cases hrs with
        | sl tok e2 rows v hn hd ht =>
         obtain ⟨v',w1,e1,hrun,hst,hS1,hr⟩:=Zge (ty:=o.type) hT hS hk (fun h0=>hk2 h0) (Ta hpos) hd (Zbs tok σ.tk) (fun x hx=>((VM _ _ _).1 hx).1) (.inr ⟨tok,hmem',fun h=>((VM _ _ _).1 h).2 rfl,ht hmem'⟩) hm hrx hw hb hl;exact ⟨_,_,v',w1,e1,hK,hexec v' w1 hrun,hst,hS1,hr⟩
       ·exact h.elim
      ·exact h.elim
     ·exact h.elim
   ·exact h.elim
  ·exact h.elim
 ·exact h.elim
end
end Go.PM
end

section
namespace Go.PM
def fw (ro:Option Nat):Fence:={ fn:=fun _=>True,depth:=none,alive:=false,round:=ro }
def Vp (P:Program) (g:FuncId):Prop:=∀(args:Array Value) (w:World),(callFunc g args).run P w=.ok (.enter g args) w
def ArgsRel (G:GE) (e:Env) (σ:St) (w:World) (args:List PV) (vs:Array Value):Prop :=
 vs.size=args.length∧∀(i:Nat) (x:PV) (u:Value),args[i]?=some x→vs[i]?=some u→VRel G e σ w x u
def Zlz (G:GE) (e:Env) (σ:St) (w:World):PEnd→Ending→Prop
 | .ret x,en=>∃v,en=.returned v∧VRel G e σ w x v
 | .panic x,en=>∃v,en=.panicked [{ v:=v,recovered:=false }]∧VRel G e σ w x v
def Zrc (G:GE) (e:Env) (σ:St) (w:World) (K:PEnd→St→Prop) (en:Ending) (w':World):Prop :=
 ∃pe σ' e',K pe σ'∧Zlz G e' σ' w' pe en∧SRel G e' σ' w'∧Stepped e σ w e' σ' w'
def YH (G:GE) (e:Env) (σ:St) (w:World) (K:PEnd→St→Prop) (en:Ending) (w':World):Prop :=
 ∃pe σ' e',K pe σ'∧Zlz G e' σ' w' pe en∧SRel G e' σ' w'∧Later e σ w e' σ' w'
def ZgZ (G:GE) (cc:FuncId→List PV→St→(PEnd→St→Prop)→Prop):Prop:=∀g args σ K,cc g args σ K →
 Vp G.P g∧∀(ro:Option Nat) (n:Nat) (e:Env) (w:World) (vs:Array Value),SRel G e σ w→ArgsRel G e σ w args vs→CallsIn (fw ro) n G.P g vs w (Zrc G e σ w K)
def RawSem (G:GE) (e0:Env) (σ0:St) (w0:World) (cr:Value→List PV→St→(PEnd→St→Prop)→Prop):Prop:=∀v args σ K,cr v args σ K →
 ∃l,v=.func (.yield l) #[] #[]∧∀(ro:Option Nat) (n:Nat) (e:Env) (w:World) (vs:Array Value),SRel G e σ w→Later e0 σ0 w0 e σ w→ArgsRel G e σ w args vs →
  ∃f tmps asg body,(Instr.yield l vs).run G.P w=.ok (.round l f tmps asg body) w∧RoundIn (fw ro) n G.P l f tmps asg body w (YH G e σ w K)
def US (G:GE) (ci:FuncId→List PV→(Value→List PV→St→(PEnd→St→Prop)→Prop)→St→(PEnd→St→Prop)→Prop):Prop:=∀g args raw σ K,ci g args raw σ K →
 Vp G.P g∧∀(n:Nat) (e:Env) (w:World) (vs:Array Value),SRel G e σ w→ArgsRel G e σ w args vs→RawSem G e σ w raw→CallsIn (fw none) n G.P g vs w (YH G e σ w K)
structure CxOK (G:GE) (C:Cx) (ro:Option Nat) (e0:Env) (σ0:St) (w0:World):Prop where
 tab:TabOK C.T G.P
 call:ZgZ G C.call
 raw:RawSem G e0 σ0 w0 C.raw
 iter:US G C.iter
 out:ro=none∨∀g args raw σ K,¬C.iter g args raw σ K
theorem RawSem.later {G:GE} {e0 e:Env} {σ0 σ:St} {w0 w:World} {cr:Value→List PV→St→(PEnd→St→Prop)→Prop} (h:RawSem G e0 σ0 w0 cr) (hL:Later e0 σ0 w0 e σ w):RawSem G e σ w cr:=fun v args σ' K hc=>by
 obtain ⟨l,h1,h2⟩:=h v args σ' K hc;exact ⟨l,h1,fun ro n e' w' vs hS hL' ha=>h2 ro n e' w' vs hS (hL.trans hL') ha⟩
theorem CxOK.later {G:GE} {C:Cx} {ro:Option Nat} {e0 e:Env} {σ0 σ:St} {w0 w:World} (h:CxOK G C ro e0 σ0 w0) (hL:Later e0 σ0 w0 e σ w):CxOK G C ro e σ w:=⟨h.tab,h.call,h.raw.later hL,h.iter,h.out⟩
theorem CxOK.calm {G:GE} {C:Cx} {ro:Option Nat} {e0:Env} {σ0:St} {w0:World} (h:CxOK G C ro e0 σ0 w0):CxOK G C.calm ro e0 σ0 w0:=⟨h.tab,h.call,fun _ _ _ _ h=>h.elim,h.iter,h.out⟩
def Zbv (r:Nat):Deferred:={ target:=.collected r,args:=#[] }
def Marks (lo:Nat×List Deferred×Bool) (e:Env) (σ:St) (w:World) (l:List Deferred):Prop:=lo.1≤w.heap.size∧∃rs:List Nat,l=rs.map Zbv++lo.2.1∧(lo.2.2=true→rs=[])∧rs.Nodup∧∀r,r∈rs→lo.1≤r∧w.heap[r]?=some (.deferred (some [])) ∧
 (∀i,i<σ.bx.length→e.β i≠r)∧∀t,t∈σ.tk→∀p,e.M t=some p→p.1≠r
theorem Marks.nil {lo:Nat} {fl:Bool} (e:Env) (σ:St) {w:World} (h:lo≤w.heap.size):Marks (lo,[],fl) e σ w []:=⟨h,[],rfl,fun _=>rfl,List.nodup_nil,fun r h=>(by cases h)⟩
theorem Marks.later {lo:Nat×List Deferred×Bool} {e e':Env} {σ σ':St} {w w':World} {l:List Deferred} (h:Marks lo e σ w l) (hL:Later e σ w e' σ' w'):Marks lo e' σ' w' l:=by
 obtain ⟨h0,rs,h1,hfl,h2,h3⟩:=h;refine ⟨TO h0 hL.size,rs,h1,hfl,h2,fun r hr=>?_⟩;obtain ⟨g1,g2,g3,g4⟩:=h3 r hr;have hlt:=(Tp.1 g2).1;refine ⟨g1,(hL.blocks r hlt g3 g4).trans g2,fun i hi=>?_,fun t ht p hp=>?_⟩
 ·by_cases h:i<σ.bx.length
  ·rw [hL.beta i h];exact g3 i h
  ·have:=hL.fresh i (by omega) hi;omega
 ·rcases hL.ftok t ht p hp with h | ⟨t0,h0,p0,hp0,h⟩
  ·omega
  ·rw [← h];exact g4 t0 h0 p0 hp0
theorem J6 {n:Nat}:∀{l:List PV},ZqY n l=true→∀(i:Nat) (x:PV),l[i]?=some x→bnd n x=true
 | [],_,i,x,hx=>by simp at hx
 | y::l,h,i,x,hx=>by
  simp only [ZqY,Tl] at h
  cases i with
  | zero=>simp at hx;subst hx;exact h.1
  | succ i=>exact J6 h.2 i x (by simpa using hx)
theorem Zop {n:Nat}:∀{l:List PV},(∀(i:Nat) (x:PV),l[i]?=some x→bnd n x=true)→ZqY n l=true
 | [],_=>rfl
 | y::l,h=>by
  simp only [ZqY,Tl];exact ⟨h 0 y (by simp),Zop fun i x hx=>h (i+1) x (by simpa using hx)⟩
theorem Vj:∀{l:List PV} (i:Nat) (y:PV),(XR l)[i]?=some y→∃x,l[i]?=some x∧y=clean x
 | [],i,y,h=>by simp [XR] at h
 | x::l,i,y,h=>by
  cases i with
  | zero=>simp [XR] at h;exact ⟨x,by simp,h.symm⟩
  | succ i=>simp only [XR,T1] at h;obtain ⟨z,h1,h2⟩:=Vj i y h;exact ⟨z,by simpa using h1,h2⟩
theorem Xr:∀{l:List PV},(XR l).length=l.length
 | []=>rfl
 | x::l=>by simp [XR,Xr]
section
variable {G:GE} {e e':Env} {σ σ':St} {w w':World}
theorem VRel.bnd {x:PV} {v:Value} (h:VRel G e σ w x v):bnd σ.bx.length x=true:=by
 have get:∀{l:List PV} {va:Array Value},va.size=l.length→(∀(i:Nat) (x:PV) (u:Value),l[i]?=some x→va[i]?=some u→PM.bnd σ.bx.length x=true)→ZqY σ.bx.length l=true:=fun {l va} hs h=>Zop fun i x hx=>by
  have hi:=(Th.1 hx).1;exact h i x va[i] hx (TA (by omega))
 induction h with
 | ptr b off h=>simp only [PM.bnd,Nat.ble_eq];omega
 | asl b off n h=>simp only [PM.bnd,Nat.ble_eq];omega
 | func f a c va vc ha hc _ _ ih1 ih2=>simp only [PM.bnd,Tl];exact ⟨get ha ih1,get hc ih2⟩
 | iface t x v _ ih=>exact ih
 | agg cs vs hs _ _ ih=>exact get hs ih
 | tuple cs vs hs _ ih=>exact get hs ih
 | _=>rfl
theorem VRel.clean {n:Nat} (hn:n≤σ'.bx.length) (hβ:∀i,i<n→e'.β i=e.β i)
  (hp:∀b off u,w.cell? ⟨b,off,none⟩=some u→okc e σ b off→okc e' σ' b off∧w'.cell? ⟨b,off,none⟩=some u) {x:PV} {v:Value} (h:VRel G e σ w x v) (hb:PM.bnd n x=true):VRel G e' σ' w' (clean x) v:=by
 induction h with
 | d x v h=>exact .d _ _ (h.mono hp)
 | undef v=>exact .undef _
 | ptr b off h =>
  simp only [PM.bnd,Nat.ble_eq] at hb;rw [← hβ b (by omega)];exact .ptr b off (by omega)
 | asl b off m h =>
  simp only [PM.bnd,Nat.ble_eq] at hb;rw [← hβ b (by omega)];exact .asl b off m (by omega)
 | elem r off b o u hc ho hu=>exact .elem r off b o u (fun j hj=>(hp b _ _ (hc j hj) (ho j hj)).2) (fun j hj=>(hp b _ _ (hc j hj) (ho j hj)).1) (fun j x hx=>(hu j x hx).mono hp)
 | sl t el rows v hn hd ht=>exact .d _ _ (hd.mono hp)
 | nils el=>exact .d _ _ .slnil
 | func f a c va vc ha hc _ _ ih1 ih2 =>
  simp only [PM.bnd,Tl] at hb;refine .func f _ _ va vc (by rw [Xr];exact ha) (by rw [Xr];exact hc) (fun i y u hy hu=>?_) (fun i y u hy hu=>?_)
  ·obtain ⟨x,hx,rfl⟩:=Vj i y hy;exact ih1 i x u hx hu (J6 hb.1 i x hx)
  ·obtain ⟨x,hx,rfl⟩:=Vj i y hy;exact ih2 i x u hx hu (J6 hb.2 i x hx)
 | iface t x v _ ih=>exact .iface t _ v (ih hb)
 | agg cs vs hs _ h1 ih=>exact .agg _ vs (by rw [Xr];exact hs) (fun i y u hy hu=>by obtain ⟨x,hx,rfl⟩:=Vj i y hy;exact ih i x u hx hu (J6 hb i x hx)) h1
 | tuple cs vs hs _ ih=>exact .tuple _ vs (by rw [Xr];exact hs) (fun i y u hy hu=>by obtain ⟨x,hx,rfl⟩:=Vj i y hy;exact ih i x u hx hu (J6 hb i x hx))
 | raw v=>exact .raw _
theorem ZaF:∀{l:List PV},(cleanNL l).length=l.length
 | []=>rfl
 | x::l=>by simp [PM.cleanNL,ZaF]
theorem Zek:∀{l:List PV} (i:Nat) (y:PV),(cleanNL l)[i]?=some y→∃x,l[i]?=some x∧y=PM.cleanN x
 | [],i,y,h=>by simp [PM.cleanNL] at h
 | x::l,i,y,h=>by
  cases i with
  | zero=>simp [PM.cleanNL] at h;exact ⟨x,by simp,h.symm⟩
  | succ i=>simp only [PM.cleanNL,T1] at h;obtain ⟨z,h1,h2⟩:=Zek i y h;exact ⟨z,by simpa using h1,h2⟩
theorem VRel.cleanN {n:Nat} (hn:n≤σ'.bx.length) (hβ:∀i,i<n→e'.β i=e.β i)
  (hp:∀b off u,w.cell? ⟨b,off,none⟩=some u→okc e σ b off→okc e' σ' b off∧w'.cell? ⟨b,off,none⟩=some u) {x:PV} {v:Value} (h:VRel G e σ w x v) (hb:PM.bnd n x=true):VRel G e' σ' w' (cleanN x) v:=by
 induction h with
 | d x v h=>exact .d _ _ (h.mono hp)
 | undef v=>exact .undef _
 | ptr b off h =>
  simp only [PM.bnd,Nat.ble_eq] at hb;rw [← hβ b (by omega)];exact .ptr b off (by omega)
 | asl b off m h =>
  simp only [PM.bnd,Nat.ble_eq] at hb;rw [← hβ b (by omega)];exact .asl b off m (by omega)
 | elem r off b o u hc ho hu=>exact .elem r off b o u (fun j hj=>(hp b _ _ (hc j hj) (ho j hj)).2) (fun j hj=>(hp b _ _ (hc j hj) (ho j hj)).1) (fun j x hx=>(hu j x hx).mono hp)
 | sl t el rows v hn hd ht=>exact .d _ _ (hd.mono hp)
 | nils el=>exact .nils el
 | func f a c va vc ha hc h1 h2 ih1 ih2=>exact VRel.clean hn hβ hp (.func f a c va vc ha hc h1 h2) hb
 | iface t x v h ih=>exact VRel.clean hn hβ hp (.iface t x v h) hb
 | agg cs vs hs _ h1 ih=>exact .agg _ vs (by rw [ZaF];exact hs) (fun i y u hy hu=>by obtain ⟨x,hx,rfl⟩:=Zek i y hy;exact ih i x u hx hu (J6 hb i x hx)) h1
 | tuple cs vs hs h ih=>exact VRel.clean hn hβ hp (.tuple cs vs hs h) hb
 | raw v=>exact .raw _
end
theorem FRel.clean {G:GE} {e e':Env} {σ σ':St} {w w':World} {f:Frame} {tm:Array Value} (hF:FRel G e σ w f tm) (hL:Later e σ w e' σ' w'):FRel G e' σ' w' (Jk f) tm :=
 fun i=>VRel.clean hL.len hL.beta hL.pres (hF i) (hF i).bnd
def Zwn (G:GE) (e:Env) (σ:St) (w:World):PExit→Exit→Prop
 | .normal,x=>x=.normal
 | .exit id,x=>x=.exit id
 | .goto l,x=>x=.goto l
 | .ret,x=>x=.ret
 | .panic p,x=>∃v,x=.panic [{ v:=v,recovered:=false }]∧VRel G e σ w p v
def Yb (G:GE) (e0:Env) (σ0:St) (w0:World) (ds:Nat×List Deferred×Bool) (n:Nat) (Z:Array Value→Prop) (Q:PQ):Exit→Act→World→Prop:=fun x a w =>
 ∃pe f e σ,Q pe f σ∧Zwn G e σ w pe x∧SRel G e σ w∧FRel G e σ w f a.tmps∧Later e0 σ0 w0 e σ w∧a.tmps.size=n∧Marks ds e σ w a.defers∧Z a.tmps
def KRel (G:GE) (e0:Env) (σ0:St) (w0:World) (ds:Nat×List Deferred×Bool) (n:Nat) (Z:Array Value→Prop) (K:Frame→St→Prop):Act→World→Prop:=fun a w =>
 ∃f e σ,K f σ∧SRel G e σ w∧FRel G e σ w f a.tmps∧Later e0 σ0 w0 e σ w∧a.tmps.size=n∧Marks ds e σ w a.defers∧Z a.tmps
theorem Uo:∀(n:Nat) (K:Nat→Prop),Xf n K=K n
 | 0,K=>rfl
 | n+1,K=>by simp only [Xf,Uo n]
theorem Zoq (v:PV) (K:PV→Prop):Zn9 v K=K v:=by cases v <;> simp only [Zn9,Uo]
theorem Zcq:∀(l:List PV) (K:List PV→Prop),UM l K=K l
 | [],_=>rfl
 | v::l,K=>by simp only [UM,Zoq,Zcq l]
theorem Zid (v:PV) (K:PV→Prop):Zlu v K=K v:=by cases v <;> simp only [Zlu,Uo,Zcq]
theorem Zgf:∀(l:List PV) (K:List PV→Prop),ZgU l K=K l
 | [],_=>rfl
 | v::l,K=>by simp only [ZgU,Zid,Zgf l]
theorem Yl (v:PV) (K:PV→Prop):ZaR v K=K v:=by cases v <;> simp only [ZaR,Uo,Zcq,Zid,Zgf]
theorem Zie:∀(l:List PV) (K:List PV→Prop),Zlv l K=K l
 | [],_=>rfl
 | v::l,K=>by simp only [Zlv,Yl,Zie l]
theorem Zbw:∀(l:List Box) (K:List Box→Prop),Zc8 l K=K l
 | [],_=>rfl
 | .cells t cs::l,K=>by simp only [Zc8,Zie,Zbw l]
 | .iter s p::l,K=>by simp only [Zc8,Zbw l]
 | .loop st pd r::l,K=>by simp only [Zc8,Zbw l]
theorem Wy:∀(l:List Nat) (K:List Nat→Prop),Zed l K=K l
 | [],_=>rfl
 | t::l,K=>by simp only [Zed,Uo,Wy l]
theorem Wf (σ:St) (K:St→Prop):Jy σ K=K σ:=by simp only [Jy,Zbw,Wy,Uo]
theorem Y1 (f:Frame) (d:Option Nat) (v:PV) (K:Frame→Prop):ZjX f d v K=K (YC f d v):=by
 cases d with
 | none=>rfl
 | some i=>simp only [ZjX,Yl];rfl
theorem JB {f:Frame} {s:Nat} {v:PV} (h:f s=v):Zay f s v=f:=by
 funext j
 by_cases hj:s=j
 ·subst hj;rw [YW,h]
 ·rw [X4 f v hj]
theorem Y4 (a:Act) (d:Option Nat) (v:Value):(a.put d v).tmps.size=a.tmps.size:=by cases d <;> simp [Act.put]
theorem ZlA {N:Nat} {Z:Array Value→Prop} {a:Act} {d:Option Nat} {v:Value} (hd:∀i,d=some i→i<N∧∀t v,Z t→Z (t.setIfInBounds i v)) (hZ:Z a.tmps):Z (a.put d v).tmps:=by
 cases d with
 | none=>exact hZ
 | some i=>exact (hd i rfl).2 _ _ hZ
theorem Wg (a:Act) (d:Option Nat) (v:Value):(a.put d v).defers=a.defers:=by cases d <;> rfl
section
variable {G:GE} {C:Cx} {e0 e:Env} {σ0 σ:St} {w0 w:World} {a:Act} {f:Frame} {Q:PQ} {K:Frame→St→Prop} {ro:Option Nat} {n:Nat} {ds:Nat×List Deferred×Bool} {N:Nat} {Z:Array Value→Prop}
theorem KRel.put {e1:Env} {σ1:St} {w1:World} {o:Oper} {pv:PV} {v:Value} (hF:FRel G e σ w f a.tmps) (hL:Later e0 σ0 w0 e σ w) (hN:a.tmps.size=N) (hds:Marks ds e σ w a.defers) (hZ:Z a.tmps) (hd:∀d,o.dst=some d→d<N∧∀t v,Z t→Z (t.setIfInBounds d v))
  (hK:ZjX f o.dst pv fun f=>K f σ1) (hst:Stepped e σ w e1 σ1 w1) (hS1:SRel G e1 σ1 w1) (hr:VRel G e1 σ1 w1 pv v):KRel G e0 σ0 w0 ds N Z K (a.put o.dst v) w1:=by
 rw [Y1] at hK;exact ⟨_,e1,σ1,hK,hS1,(hF.step hst).put hr (by rw [hN];exact fun d h=>(hd d h).1),hL.trans hst.toLater,by rw [Y4];exact hN,by rw [Wg];exact hds.later hst.toLater,ZlA hd hZ⟩
theorem ZdQ {args:Array Operand} (hρ:∀x,VRel G e σ w (ev f x) (a.eval x)):ArgsRel G e σ w (args.toList.map (ev f)) (args.map a.eval):=by
 refine ⟨by simp,fun i x u hx hu=>?_⟩;rw [TL] at hx;rw [Array.getElem?_map] at hu
 cases hq:args[i]? with
 | none=>rw [hq] at hu;cases hu
 | some q =>
  exact m174
theorem ArgsRel.append {x y:List PV} {vx vy:Array Value} (h1:ArgsRel G e σ w x vx) (h2:ArgsRel G e σ w y vy):ArgsRel G e σ w (x++y) (vx++vy):=by
 refine ⟨by rw [Array.size_append,Tb,h1.1,h2.1],fun i p u hp hu=>?_⟩
 by_cases hi:i<x.length
 ·rw [TF hi] at hp;rw [Array.getElem?_append_left (by rw [h1.1];exact hi)] at hu;exact h1.2 i p u hp hu
 ·rw [TQ (by omega)] at hp;rw [Array.getElem?_append_right (by rw [h1.1];omega),h1.1] at hu;exact h2.2 _ p u hp hu
theorem Zor {G:GE} {C:Cx} {e e':Env} {σ σ':St} {w w':World} {f:Frame} {tm:Array Value} (hF:FRel G e σ w f tm) (hL:Later e σ w e' σ' w'):FRel G e' σ' w' (C.pf f) tm:=by
 unfold Cx.pf
 split
 ·exact hF.clean hL
 ·exact fun i=>.undef _
theorem ZaX (hC:CxOK G C ro e0 σ0 w0) (hS:SRel G e σ w) (hF:FRel G e σ w f a.tmps) (hL:Later e0 σ0 w0 e σ w) (hN:a.tmps.size=N) (hds:Marks ds e σ w a.defers) (hZ:Z a.tmps) {o:Oper} (hd:∀d,o.dst=some d→d<N∧∀t v,Z t→Z (t.setIfInBounds d v))
  (h:Uf C o f σ Q K):o.wpIn (fw ro) n G.P a w (KRel G e0 σ0 w0 ds N Z K) (Yb G e0 σ0 w0 ds N Z Q):=by
 have hρ:∀x,VRel G e σ w (ev f x) (a.eval x):=fun x=>ZaB hF x
 refine ⟨fun _ _=>trivial,?_⟩;unfold Uf at h
 simp only [Wf,Yl] at h;split at h
 ·rename_i hE
  have hnd:∀c,o.op≠.defer c:=fun c hc=>by rw [hc] at h;exact h
  rw [show (fw ro).round=ro from rfl,Oper.semAt_eq _ _ _ hnd];obtain ⟨pv,v,w1,hK,hg,hr,hrun⟩:=ZmX hC.tab hS hρ o h;rw [hrun];exact KRel.put hF hL hN hds hZ hd hK (hg.stepped e σ) (hS.grow hg) hr
 ·rename_i hE
  have hnd:∀c,o.op≠.defer c:=fun c hc=>by rw [hc] at hE;cases hE
  rw [show (fw ro).round=ro from rfl,Oper.semAt_eq _ _ _ hnd];split at h
  ·rename_i x args at' ho
   have hx:=hρ x;have hres:∀(next:World→Ending→World→Prop),True:=fun _=>trivial
   unfold Zh6 at h
   split at h
   ·rename_i g first caps heq
    rw [heq] at hx;generalize hv:a.eval x=v at hx
    cases hx with
    | func g first caps va vc ha hc h1 h2 =>
     obtain ⟨hent,hcall⟩:=hC.call _ _ _ _ h;have hargs:ArgsRel G e σ w (first++args.toList.map (ev f)++caps) (va++args.map a.eval++vc):=(ArgsRel.append (ArgsRel.append ⟨ha,h1⟩ (ZdQ hρ)) ⟨hc,h2⟩)
     have hrun:(execOp a.eval o).run G.P w=.ok (.enter g (va++args.map a.eval++vc)) w:=by
      unfold execOp
      simp only [ho,resolve,hv,Deferred.ofValue,Sem.run_bind,Sem.run_pure,Result.andThen,invoke];exact hent _ _
     rw [hrun,Oper.uponIn_enter];refine ⟨fun h=>by simp [fw] at h,(hcall ro (n - 1) e w _ hS hargs).mono fun en w' hA=>?_⟩;obtain ⟨pe,σ',e',hK,hE',hS',hst⟩:=hA
     cases pe with
     | ret pv =>
      obtain ⟨u,rfl,hr⟩:=hE';exact KRel.put hF hL hN hds hZ hd hK hst hS' hr
     | panic pv =>
      obtain ⟨u,rfl,hr⟩:=hE';exact ⟨.panic pv,_,e',σ',hK,⟨u,rfl,hr⟩,hS',Zor hF hst.toLater,hL.trans hst.toLater,hN,hds.later hst.toLater,hZ⟩
   ·rename_i v heq
    rw [heq] at hx;generalize hv:a.eval x=v' at hx
    cases hx with
    | raw v =>
     obtain ⟨l,rfl,hraw⟩:=hC.raw _ _ _ _ h;obtain ⟨fn,tmps,asg,body,hy,hround⟩:=hraw ro (n - 1) e w _ hS hL (ZdQ hρ);have hrun:(execOp a.eval o).run G.P w=.ok (.round l fn tmps asg body) w:=by
      unfold execOp
      simp only [ho,resolve,hv,Deferred.ofValue,Sem.run_bind,Sem.run_pure,Result.andThen,invoke,Array.empty_append,hy]
     rw [hrun,Oper.uponIn_round];refine ⟨fun h=>by simp [fw] at h,hround.mono fun en w' hA=>?_⟩;obtain ⟨pe,σ',e',hK,hE',hS',hst⟩:=hA
     cases pe with
     | ret pv =>
      obtain ⟨u,rfl,hr⟩:=hE';simp only at hK;rw [Y1] at hK;exact ⟨_,e',σ',hK,hS',(hF.clean hst).put hr (by rw [hN];exact fun d h=>(hd d h).1),hL.trans hst,by rw [Y4];exact hN,by rw [Wg];exact hds.later hst,ZlA hd hZ⟩
     | panic pv =>
      obtain ⟨u,rfl,hr⟩:=hE';exact ⟨.panic pv,_,e',σ',hK,⟨u,rfl,hr⟩,hS',Zor (hF.clean (Later.refl _ _ _)) hst,hL.trans hst,hN,hds.later hst,hZ⟩
   ·exact h.elim
  ·rename_i x ho
   have hx:=hρ x;split at h
   ·rename_i t pv heq
    rw [heq] at hx;generalize hv:a.eval x=v at hx
    cases hx with
    | iface _ _ u hu =>
     have hrun:(execOp a.eval o).run G.P w=.halt (.panic (.iface t u)) w:=by
      unfold execOp
      simp only [ho,hv,Instr.panic];rfl
     rw [hrun];exact ⟨.panic (.iface t pv),_,e,σ,h,⟨.iface t u,rfl,.iface t pv u hu⟩,hS,Zor hF (Later.refl _ _ _),hL,hN,hds,hZ⟩
   ·exact h.elim
  ·obtain ⟨pv,σ1,v,w1,e1,hK,hcomes,hst,hS1,hr⟩:=Zoo hC.tab hS hρ o h;rcases hcomes with hrun | ⟨hrun,rfl⟩
   ·rw [hrun];exact KRel.put hF hL hN hds hZ hd hK hst hS1 hr
   ·rw [hrun];exact KRel.put hF hL hN hds hZ hd hK hst hS1 hr
theorem UT (hC:CxOK G C ro e0 σ0 w0) (hS:SRel G e σ w) (hF:FRel G e σ w f a.tmps) (hL:Later e0 σ0 w0 e σ w) (hN:a.tmps.size=N) (hds:Marks ds e σ w a.defers) (hZ:Z a.tmps) {ops:Array Oper} {o:Oper} (hd:∀d,o.dst=some d→d<N∧∀t v,Z t→Z (t.setIfInBounds d v))
  (h:Zav C ops.toList Q o f σ K) :
  if Region.wanted o (yielded ops a.tmps)=true then o.wpIn (fw ro) n G.P a w (KRel G e0 σ0 w0 ds N Z K) (Yb G e0 σ0 w0 ds N Z Q)
  else KRel G e0 σ0 w0 ds N Z K (a.put o.dst Go.undef) w:=by
 unfold Zav at h
 split at h
 ·rename_i hg
  have:Region.wanted o (yielded ops a.tmps)=true:=by simp [Region.wanted,hg]
  rw [Tf this];exact ZaX hC hS hF hL hN hds hZ hd h
 ·rename_i j want hg
  split at h
  ·rename_i s hs
   have hslot:(ops[j]?).bind (·.dst)=some s:=by
    unfold Ug at hs
    rw [Tx] at hs
    cases hoj:ops[j]? with
    | none=>rw [hoj] at hs;cases hs
    | some oj=>rw [hoj] at hs;exact hs
   have hFs:=hF s;split at h
   ·rename_i t hft
    rw [hft] at hFs;have hv:=hFs.dbool;have hy:yielded ops a.tmps j=some t:=by
     unfold yielded
     rw [hslot];have:a.tmps[s]?=some (.bool t):=by
      rw [Array.getD_eq_getD_getElem?] at hv
      cases h2:a.tmps[s]? with
      | none=>rw [h2] at hv;cases hv
      | some u=>rw [h2] at hv;simp at hv;rw [hv]
     simp [this]
    have hwant:Region.wanted o (yielded ops a.tmps)=(t == want):=by simp [Region.wanted,hg,hy]
    rw [hwant]
    cases t <;> cases want <;> simp only [CondP] at h
    ·rw [JB hft] at h;simp only [beq_self_eq_true,if_true];exact ZaX hC hS hF hL hN hds hZ hd h
    ·rw [JB hft] at h;rw [Tc (by decide)];exact KRel.put hF hL hN hds hZ hd h (.refl _ _ _) hS (.raw _)
    ·rw [JB hft] at h;rw [Tc (by decide)];exact KRel.put hF hL hN hds hZ hd h (.refl _ _ _) hS (.raw _)
    ·rw [JB hft] at h;simp only [beq_self_eq_true,if_true];exact ZaX hC hS hF hL hN hds hZ hd h
   ·rename_i vs hft
    rw [hft] at hFs;generalize hv:a.tmps.getD s Go.undef=v at hFs
    cases hFs
    have hy:yielded ops a.tmps j=none:=by
     unfold yielded
     rw [hslot];rw [Array.getD_eq_getD_getElem?] at hv
     cases h2:a.tmps[s]? with
     | none=>simp [h2]
     | some u=>rw [h2] at hv;simp at hv;subst hv;simp [h2]
    have hwant:Region.wanted o (yielded ops a.tmps)=false:=by simp [Region.wanted,hg,hy]
    rw [hwant,Tc (by simp)];exact KRel.put hF hL hN hds hZ hd h (.refl _ _ _) hS (.raw _)
   ·exact h.elim
  ·exact h.elim
theorem Zdc (hC:CxOK G C ro e0 σ0 w0) (hS:SRel G e σ w) (hF:FRel G e σ w f a.tmps) (hL:Later e0 σ0 w0 e σ w) (hN:a.tmps.size=N) (hds:Marks ds e σ w a.defers) (hZ:Z a.tmps) {ops:Array Oper} {o:Oper} (hd:∀d,o.dst=some d→d<N∧∀t v,Z t→Z (t.setIfInBounds d v))
  (h:Zoa C ops.toList Q o f σ K) :
  if Region.wanted o (yielded ops a.tmps)=true then o.wpIn (fw ro) n G.P a w (KRel G e0 σ0 w0 ds N Z K) (Yb G e0 σ0 w0 ds N Z Q)
  else KRel G e0 σ0 w0 ds N Z K (a.put o.dst Go.undef) w:=by
 unfold Zoa at h
 split at h
 ·rename_i hb
  have hg:o.guard=none:=by
   unfold Ztj at hb
   split at hb
   ·split at hb
    ·assumption
    ·cases hb
   ·cases hb
  have:Region.wanted o (yielded ops a.tmps)=true:=by simp [Region.wanted,hg]
  rw [Tf this];simp only [Wf] at h;have hnd:∀c,o.op≠.defer c:=fun c hc=>by rw [hc] at h;exact h
  refine ⟨fun _ _=>trivial,?_⟩;rw [show (fw ro).round=ro from rfl,Oper.semAt_eq _ _ _ hnd];obtain ⟨pv,σ1,v,w1,e1,hK,hrun,hst,hS1,hr⟩:=ZmW hC.tab hS (fun x=>ZaB hF x) o h;rw [hrun];exact KRel.put hF hL hN hds hZ hd hK hst hS1 hr
 ·exact UT hC hS hF hL hN hds hZ hd h
theorem Zgg (hC:CxOK G C ro e0 σ0 w0) {ops:Array Oper} (hd:∀o,o∈ops→∀d,o.dst=some d→d<N∧∀t v,Z t→Z (t.setIfInBounds d v)):∀(l:List Oper) (k:Nat),(∀j,l[j]?=ops[k+j]?)→∀{e:Env} {σ:St} {w:World} {a:Act} {f:Frame},
  SRel G e σ w→FRel G e σ w f a.tmps→Later e0 σ0 w0 e σ w→a.tmps.size=N→Marks ds e σ w a.defers→Z a.tmps→Ztk C ops.toList Q l f σ →
  wpOpsIn (fw ro) n G.P ops (Yb G e0 σ0 w0 ds N Z Q) (List.range' k l.length) a w
 | [],k,_,e,σ,w,a,f,hS,hF,hL,hN,hds,hZ,h=>⟨.normal,f,e,σ,h,rfl,hS,hF,hL,hN,hds,hZ⟩
 | o::l,k,hl,e,σ,w,a,f,hS,hF,hL,hN,hds,hZ,h=>by
  have h0:ops[k]?=some o:=by simpa using (hl 0).symm
  have hstep:=Zdc (ro:=ro) (n:=n) hC hS hF hL hN hds hZ (ops:=ops) (hd o (T8 h0)) h;have next:∀a' w',KRel G e0 σ0 w0 ds N Z (Ztk C ops.toList Q l) a' w'→wpOpsIn (fw ro) n G.P ops (Yb G e0 σ0 w0 ds N Z Q) (List.range' (k+1) l.length) a' w':=fun a' w' ⟨f',e',σ',h1,h2,h3,h4,h5,h6,h7⟩ =>
   Zgg hC hd l (k+1) (fun j=>by have:=hl (j+1);simpa [Sb,Nat.add_comm 1 j] using this) h2 h3 h4 h5 h6 h7 h1
  rw [Td,List.range'_succ];simp only [wpOpsIn,h0];split at hstep
  ·rename_i hw
   rw [Tf hw];exact Oper.wpIn_mono next hstep
  ·rename_i hw
   rw [Tc hw];exact ⟨fun _ _=>trivial,next _ _ hstep⟩
end
end Go.PM
end

section
namespace Go.PM
theorem ZdR {k:IntKind} {n:Int} {K:PV→Prop} (h:Zeb k n K):∃v,K v∧∀K':PV→Prop,K' v→Zeb k n K':=by
 rcases h with ⟨h1,h2⟩ | h
 ·exact ⟨_,h2,fun K' h'=>.inl ⟨h1,h'⟩⟩
 ·exact ⟨_,h,fun K' h'=>.inr h'⟩
theorem Zt4 {op:BinOp} {k:IntKind} {a b:Int} {K:PV→Prop} (h:Zwa op k a b K):∃v,K v∧∀K':PV→Prop,K' v→Zwa op k a b K':=by
 cases op <;> simp only [Zwa] at h <;> first
  | exact h.elim
  | exact ZdR h
  | exact ⟨_,h,fun K' h'=>h'⟩
  | (obtain ⟨v,h1,h2⟩:=ZdR h.2;exact ⟨v,h1,fun K' h'=>⟨h.1,h2 K' h'⟩⟩)
  | exact ⟨_,h.2,fun K' h'=>⟨h.1,h'⟩⟩
theorem UU {T:Tab}:∀{fs:List (Nat×Nat)} {i:Nat} {xs ys:List PV} {K:Bool→Prop},Xo T i fs xs ys K→∃v,K v∧∀K':Bool→Prop,K' v→Xo T i fs xs ys K'
 | [],i,xs,ys,K,h=>by cases xs <;> cases ys <;> first | exact ⟨_,h,fun K' h'=>h'⟩ | exact h.elim
 | (o,t)::fs,i,[],ys,K,h=>h.elim
 | (o,t)::fs,i,x::xs,[],K,h=>h.elim
 | (o,t)::fs,i,x::xs,y::ys,K,h=>by
  simp only [Xo] at h;split at h
  ·rename_i h1 h2
   split at h
   ·rename_i h3
    obtain ⟨v,g1,g2⟩:=UU h;exact ⟨_,g1,fun K' h'=>by simp only [Xo,h1,h2,h3];exact g2 (fun r=>K' _) h'⟩
   ·exact h.elim
  ·exact m153
  ·exact m153
  ·exact h.elim
theorem Zwo {T:Tab} {t:TypeId} {x y:Operand} {px py:PV} {K:Bool→Prop} (h:peq T t x y px py K):∃v,K v∧∀K':Bool→Prop,K' v→peq T t x y px py K':=by
 unfold peq at h
 split at h
 case h_6 =>
  rename_i hk
  split at h
  ·rename_i he
   split at h
   ·obtain ⟨v,g1,g2⟩:=UU h;exact ⟨v,g1,fun K' h'=>by simp only [peq,hk,he];exact g2 K' h'⟩
   ·exact h.elim
  ·exact h.elim
 all_goals (repeat' split at h) <;> first
  | exact h.elim
  | exact ⟨_,h,fun K' h'=>by simp only [peq, *];exact h'⟩
  | exact ⟨_,h,fun K' h'=>by simp only [peq, *]⟩
theorem Zt5 {T:Tab} {op:BinOp} {t:TypeId} {x y:Operand} {px py:PV} {K:PV→Prop} (h:Zti T op t x y px py K):∃v,K v∧∀K':PV→Prop,K' v→Zti T op t x y px py K':=by
 unfold Zti at h
 split at h
 ·split at h
  ·obtain ⟨v,h1,h2⟩:=ZdR h.2;exact ⟨_,h1,fun K' h'=>⟨h.1,h2 K' h'⟩⟩
  ·exact ⟨_,h.2,fun K' h'=>⟨h.1,h'⟩⟩
  ·rename_i h1 h2
   split at h
   ·rename_i hk
    obtain ⟨v,g1,g2⟩:=Zt4 h;refine ⟨v,g1,fun K' h'=>?_⟩
    cases op <;> first
     | exact absurd rfl h1
     | exact absurd rfl h2
     | (simp only [Zti,hk];exact g2 K' h')
   ·exact h.elim
 ·cases op <;> simp only at h <;> first
   | exact h.elim
   | exact ⟨_,h,fun K' h'=>h'⟩
   | exact ⟨_,h.2,fun K' h'=>⟨h.1,h'⟩⟩
 ·rename_i h1 h2
  cases op <;> simp only at h <;> first
   | exact h.elim
   | (obtain ⟨v, g1, g2⟩ := Zwo h
      refine ⟨_,g1,fun K' h'=>?_⟩;unfold Zti
      split
      ·exact absurd rfl (h1 _ _ _ _ rfl)
      ·exact absurd rfl (h2 _ _ rfl)
      ·exact g2 _ h')
theorem Zel {lo hi:Option PV} {n:Nat} {K:Nat→Nat→Prop} (h:UN lo hi n K):∃a b,K a b∧∀K':Nat→Nat→Prop,K' a b→UN lo hi n K':=by
 unfold UN at h
 split at h
 ·exact ⟨_,_,h,fun K' h'=>h'⟩
 ·split at h
  ·exact ⟨_,_,h.2.2,fun K' h'=>⟨h.1,h.2.1,h'⟩⟩
  ·exact h.elim
 ·split at h
  ·exact ⟨_,_,h.2.2,fun K' h'=>⟨h.1,h.2.1,h'⟩⟩
  ·exact h.elim
 ·split at h
  ·exact ⟨_,_,h.2.2.2,fun K' h'=>⟨h.1,h.2.1,h.2.2.1,h'⟩⟩
  ·exact h.elim
theorem ZdS {T:Tab} {t:TypeId} {x:PV} {bx:List Box} {K:PV→Prop} (h:Zcn T t x bx K):∃v,K v∧∀K':PV→Prop,K' v→Zcn T t x bx K':=by
 unfold Zcn at h
 (repeat' split at h) <;> first
  | exact h.elim
  | exact ⟨_,h,fun K' h'=>by simp only [Zcn, *];exact h'⟩
  | exact ⟨_,h,fun K' h'=>by simp_all [Zcn]⟩
theorem Zos {T:Tab} {t:TypeId} {x:PV} {lo hi:Option PV} {K:PV→Prop} (h:Zaz T t x lo hi K):∃v,K v∧∀K':PV→Prop,K' v→Zaz T t x lo hi K':=by
 unfold Zaz at h
 split at h
 ·rename_i hk
  split at h
  ·obtain ⟨a,b,h1,h2⟩:=Zel h;exact ⟨_,h1,fun K' h'=>by simp only [Zaz,hk];exact h2 (fun a b=>K' _) h'⟩
  ·exact h.elim
 ·rename_i el hk
  split at h
  ·exact h.elim
  ·rename_i hk2
   split at h
   ·rename_i rows hrows
    obtain ⟨hw,h⟩:=h;obtain ⟨a,b,h1,h2⟩:=Zel h;refine ⟨_,h1,fun K' h'=>?_⟩;unfold Zaz
    rw [hk];dsimp only
    cases hk3:(T.get el).kind
    case other=>exact absurd hk3 hk2
    all_goals (dsimp only;rw [hrows];exact ⟨hw,h2 (fun a b=>K' _) h'⟩)
   ·exact h.elim
 ·rename_i n el hk
  split at h
  ·exact h.elim
  ·rename_i hk2
   split at h
   ·refine ⟨_,h,fun K' h'=>?_⟩;unfold Zaz
    rw [hk];dsimp only
    cases hk3:(T.get el).kind
    case other=>exact absurd hk3 hk2
    all_goals exact h'
   ·rename_i hlo hhi
    obtain ⟨g1,g2,h⟩:=h;refine ⟨_,h,fun K' h'=>?_⟩;unfold Zaz
    rw [hk];dsimp only
    cases hk3:(T.get el).kind
    case other=>exact absurd hk3 hk2
    all_goals exact ⟨g1,g2,h'⟩
   ·exact h.elim
 ·exact h.elim
theorem Zka {T:Tab} {fs:List (Nat×Nat)} {ρ:Operand→PV}:∀{ps:List (Nat×Operand)} {cs:List PV} {K:List PV→Prop},YV T fs ρ ps cs K→∃v,K v∧∀K':List PV→Prop,K' v→YV T fs ρ ps cs K'
 | [],cs,K,h=>⟨cs,h,fun K' h'=>h'⟩
 | (i,x)::ps,cs,K,h=>by
  simp only [YV] at h;split at h
  ·split at h
   ·exact h.elim
   ·obtain ⟨v,h1,h2⟩:=Zka h;exact ⟨v,h1,fun K' h'=>by have:=h2 K' h';simp only [YV, *]⟩
   ·exact h.elim
  ·exact h.elim
theorem Zwp {T:Tab} {o:Op} {ty:TypeId} {ρ:Operand→PV} {bx:List Box} {K:PV→Prop} (h:qop T o ty ρ bx K):∃v,K v∧∀K':PV→Prop,K' v→qop T o ty ρ bx K':=by
 unfold qop at h
 split at h
 case h_5=>obtain ⟨v,h1,h2⟩:=ZdS h;exact ⟨v,h1,fun K' h'=>h2 K' h'⟩
 case h_7=>obtain ⟨v,h1,h2⟩:=Zt5 h;exact ⟨v,h1,fun K' h'=>h2 K' h'⟩
 case h_14=>obtain ⟨v,h1,h2⟩:=Zos h;exact ⟨v,h1,fun K' h'=>h2 K' h'⟩
 case h_4 =>
  split at h
  ·rename_i fs hk;obtain ⟨v,h1,h2⟩:=Zka h;exact ⟨_,h1,fun K' h'=>by simp only [qop,hk];exact h2 (fun cs=>K' (.agg cs)) h'⟩
  ·rename_i n el hk
   split at h
   ·exact h.elim
   ·rename_i hk2
    split at h
    ·rename_i hb1
     obtain ⟨v,h1,h2⟩:=Zka h;refine ⟨_,h1,fun K' h'=>?_⟩;have h3:=h2 (fun cs=>K' (.agg cs)) h';simp only [qop,hk]
     cases hk5:(T.get el).kind
     case other=>exact absurd hk5 hk2
     all_goals (simp only [hb1];exact h3)
    ·exact h.elim
  ·exact h.elim
 case h_3 =>
  split at h
  ·rename_i t heq
   cases t
   ·exact ⟨_,h,fun K' h'=>by simp only [qop,heq];exact h'⟩
   ·exact ⟨_,h,fun K' h'=>by simp only [qop,heq];exact h'⟩
  ·exact h.elim
 all_goals (repeat' split at h) <;> first
  | exact h.elim
  | exact ⟨_,h,fun K' h'=>by first | (simp only [qop, *];exact h') | (simp only [qop, *])⟩
  | (obtain ⟨v,h1,h2⟩:=ZdR h;exact ⟨_,h1,fun K' h'=>by first | (simp only [qop, *];exact h2 K' h') | (simp only [qop, *])⟩)
  | (obtain ⟨h1,h2⟩:=h;exact ⟨_,h2,fun K' h'=>by simp only [qop, *];exact ⟨h1,h'⟩⟩)
  | (obtain ⟨h0,h1,h2⟩:=h;exact ⟨_,h2,fun K' h'=>by first | (simp only [qop, *];exact ⟨h0,h1,h'⟩) | (simp only [qop, *];exact ⟨trivial,trivial,h'⟩)⟩)
  | skip
 ·rename_i h1 _ h2 _ h3 _ rows h4
  obtain ⟨l,hl,hK⟩:=h;exact ⟨_,hK,fun K' h'=>by simp only [qop,h1,h2,h3,h4];exact ⟨l,hl,h'⟩⟩
 ·rename_i h1 _ h2 _ s h3
  obtain ⟨h4,h5,hK⟩:=h;exact ⟨_,hK,fun K' h'=>by simp only [qop,h1,h2,h3];exact ⟨h4,h5,h'⟩⟩
 ·rename_i hi _ m el hk _ cs hx _ ha _ l hl
  obtain ⟨h4,h5,hK⟩:=h;exact ⟨_,hK,fun K' h'=>by simp only [qop,hi,hk,hx,ha,hl];exact ⟨h4,h5,h'⟩⟩
 ·rename_i hi _ m el hk _ cs hx _ ha _ ho _ hs _ v hv
  obtain ⟨h4,h5,hK⟩:=h;refine ⟨_,hK,fun K' h'=>?_⟩;simp only [qop,hi,hk,hx,ha]
  cases hk3:(T.get el).kind
  case other=>exact absurd hk3 ho
  all_goals (simp only [hs,hv];exact ⟨h4,h5,h'⟩)
 ·rename_i hi _ el hk _ ho _ b off m hx
  exact m121
 ·rename_i hi _ el hk _ ho _ hne _ rows hr
  obtain ⟨r,h4,h5,h6⟩:=h;split at h6
  ·rename_i h7
   refine ⟨_,h6,fun K' h'=>?_⟩;simp only [qop,hi,hk]
   cases hk3:(T.get el).kind
   case other=>exact absurd hk3 ho
   all_goals
    split
    ·rename_i hx2;rw [hr] at hx2;cases hx2;exact ⟨r,h4,h5,by simp only [h7];exact h'⟩
    ·rename_i hx2;exact (hx2 _ hr).elim
  ·exact h6.elim
 ·rename_i hi _ m el hk _ ho _ b off hx
  exact m121
theorem ZmY {T:Tab} {o:Op} {ty:TypeId} {ρ:Operand→PV} {bx:List Box} {K:PV→Prop} (h1:ZmO T o=none) (h2:∀t n ps,o=.buildSlice t n ps→False) (h3:∀t l c,o=.makeSlice t l c→False):Zh5 T o ty ρ bx K=qop T o ty ρ bx K:=by
 unfold Zh5
 rw [h1]
 cases o <;> first | rfl | exact (h2 _ _ _ rfl).elim | exact (h3 _ _ _ rfl).elim
theorem Zot {T:Tab} {o:Op} {ty:TypeId} {ρ:Operand→PV} {bx:List Box} {K:PV→Prop} (h:Zh5 T o ty ρ bx K):∃v,K v∧∀K':PV→Prop,K' v→Zh5 T o ty ρ bx K':=by
 unfold Zh5 at h
 split at h
 ·rename_i x hx
  split at h
  ·rename_i s heq
   exact ⟨_,h,fun K' h'=>by unfold Zh5;rw [hx];simp only [heq];exact h'⟩
  ·exact h.elim
 ·rename_i hx
  split at h
  ·rename_i t n ps
   exact m170
  ·rename_i t l c
   exact m170
  ·rename_i hno hno2
   obtain ⟨v,h1,h2⟩:=Zwp h;exact ⟨v,h1,fun K' h'=>by rw [ZmY hx hno hno2];exact h2 K' h'⟩
theorem Zkb {bx bx':List Box} {b off n:Nat} (h:XJ bx b off n=XJ bx' b off n) {t:TypeId} {cs:List PV} (hb:bx[b]?=some (.cells t cs)) :
  ∃t' cs',bx'[b]?=some (.cells t' cs')∧(cs.drop off).take n=(cs'.drop off).take n:=by
 unfold XJ at h
 rw [hb] at h;simp only at h;split at h
 ·rename_i t' cs' hb';exact ⟨t',cs',hb',Option.some.inj h⟩
 ·cases h
theorem Zem {α:Type}:∀{n:Nat} {l m:List α},l.take n=m.take n→Jt n l=Jt n m
 | 0,_,_,_=>rfl
 | n+1,[],[],_=>rfl
 | n+1,[],y::m,h=>by simp at h
 | n+1,x::l,[],h=>by simp at h
 | n+1,x::l,y::m,h=>by
  simp only [List.take_succ_cons,List.cons.injEq] at h;obtain ⟨rfl,h⟩:=h;simp only [Jt,Zem h]
theorem Zkc {T:Tab} {t:TypeId} {x:PV} {bx bx':List Box} {K:PV→Prop} (hpos:(T.get t).kind≠.other→(T.get t).kind.isAgg=false→(T.get t).size=1) (hl:∀b off,x=.ptr b off→XJ bx b off (T.get t).size=XJ bx' b off (T.get t).size)
  (h:Zcn T t x bx K):Zcn T t x bx' K:=by
 unfold Zcn at h ⊢
 split at h
 ·rename_i b off
  have hc:=hl b off rfl;split at h
  ·rename_i ty cs hb
   obtain ⟨t',cs',hb',htake⟩:=Zkb hc hb;simp only [hb'];split at h
   ·rename_i hk
    rw [← Zem htake];exact h
   ·rename_i hk
    have h1:(T.get t).kind≠.other→cs[off]?=cs'[off]?:=fun ho=>by
     have hp:=hpos ho hk;have:=congrArg (·[0]?) htake
     simpa [List.getElem?_take,hp] using this
    cases hk2:(T.get t).kind <;> rw [hk2] at h <;> simp only at h ⊢ <;> first | exact h.elim | (rw [← h1 (by rw [hk2];simp)];exact h)
  ·exact h.elim
 ·exact h
 ·exact h.elim
theorem Zou {T:Tab} {o:Op} {ty:TypeId} {ρ ρ':Operand→PV} {bx bx':List Box} {K:PV→Prop} (hρ:∀x,x∈o.operands→ρ x=ρ' x)
  (hpos:∀t,(T.get t).kind≠.other→(T.get t).kind.isAgg=false→(T.get t).size=1)
  (hl:∀t a b off,o=.load t a→ρ a=.ptr b off→XJ bx b off (T.get t).size=XJ bx' b off (T.get t).size) (h:qop T o ty ρ bx K):qop T o ty ρ' bx' K:=by
 cases o with
 | load t a =>
  have ha:ρ a=ρ' a:=hρ a (by simp [Op.operands]);simp only [qop] at h ⊢;rw [← ha];exact Zkc (hpos t) (fun b off hx=>hl t a b off rfl hx) h
 | build t ps =>
  simp only [qop] at h ⊢;have fillC:∀fs (l:List (Nat×Operand)),(∀p∈l,ρ p.2=ρ' p.2)→∀cs (K:List PV→Prop),YV T fs ρ l cs K→YV T fs ρ' l cs K:=by
    intro fs l
    induction l with
    | nil=>intro _ cs K h;exact h
    | cons p l ih =>
     intro hp cs K h
     obtain ⟨i,x⟩:=p;simp only [YV] at h ⊢;rw [← hp (i,x) (by simp)];split at h
     ·rename_i h1 h2
      split at h
      ·exact h.elim
      ·rename_i h3 h4 h5
       simp only [h1,h2,h3,h4]
       cases hk5:(T.get _).kind
       case other=>exact absurd hk5 h5
       all_goals exact ih (fun q hq=>hp q (by simp [hq])) _ _ h
      ·exact h.elim
     ·exact h.elim
  have hps:∀p∈ps.toList,ρ p.2=ρ' p.2:=fun p hp=>hρ p.2 (by simp only [Op.operands];exact TH.2 (by simp only [Sy];exact ⟨p,hp,rfl⟩))
  split at h
  ·exact fillC _ ps.toList hps _ _ h
  ·rename_i n el hk
   split at h
   ·exact h.elim
   ·rename_i hk2
    split at h
    ·rename_i hb1
     cases hk5:(T.get el).kind
     case other=>exact absurd hk5 hk2
     all_goals (exact fillC _ ps.toList hps _ _ h)
    ·exact h.elim
  ·exact h.elim
 | slice t x lo hi mx =>
  cases mx with
  | some _=>exact h
  | none =>
   simp only [qop] at h ⊢;have h1:ρ x=ρ' x:=hρ x (by simp [Op.operands]);have h2:lo.map ρ=lo.map ρ':=by cases lo with | none=>rfl | some a=>simp [hρ a (by simp [Op.operands])]
   have h3:hi.map ρ=hi.map ρ':=by cases hi with | none=>rfl | some a=>simp [hρ a (by simp [Op.operands])]
   rw [← h1,← h2,← h3];exact h
 | makeFunc fn a c =>
  cases fn with
  | func g =>
   simp only [qop] at h ⊢;have h1:a.toList.map ρ=a.toList.map ρ':=Sq fun x hx=>hρ x (by simp only [Op.operands,Array.mem_append];exact .inl (TH.2 hx))
   have h2:c.toList.map ρ=c.toList.map ρ':=Sq fun x hx=>hρ x (by simp only [Op.operands,Array.mem_append];exact .inr (TH.2 hx))
   rw [← h1,← h2];exact h
  | _=>exact h
 | call c =>
  obtain ⟨callee,args,argTypes⟩:=c
  cases callee with
  | builtin b =>
   simp only [qop] at h ⊢;exact m137
  | _=>exact h
 | move x=>simp only [qop] at h ⊢;rw [← hρ x (by simp [Op.operands])];exact h
 | assign x=>simp only [qop] at h ⊢;rw [← hρ x (by simp [Op.operands])];exact h
 | pick c a b=>simp only [qop] at h ⊢;rw [← hρ c (by simp [Op.operands]),← hρ a (by simp [Op.operands]),← hρ b (by simp [Op.operands])];exact h
 | nilCheck x=>simp only [qop] at h ⊢;rw [← hρ x (by simp [Op.operands])];exact h
 | binOp op t x y yt=>simp only [qop] at h ⊢;rw [← hρ x (by simp [Op.operands]),← hρ y (by simp [Op.operands])];exact h
 | unOp op t x=>simp only [qop] at h ⊢;rw [← hρ x (by simp [Op.operands])];exact h
 | convert s d x=>simp only [qop] at h ⊢;rw [← hρ x (by simp [Op.operands])];exact h
 | fieldAddr s x i=>simp only [qop] at h ⊢;rw [← hρ x (by simp [Op.operands])];exact h
 | field s x i=>simp only [qop] at h ⊢;rw [← hρ x (by simp [Op.operands])];exact h
 | index t x i=>simp only [qop] at h ⊢;rw [← hρ x (by simp [Op.operands]),← hρ i (by simp [Op.operands])];exact h
 | indexAddr t x i=>simp only [qop] at h ⊢;rw [← hρ x (by simp [Op.operands]),← hρ i (by simp [Op.operands])];exact h
 | extract x i=>simp only [qop] at h ⊢;rw [← hρ x (by simp [Op.operands])];exact h
 | makeInterface t x=>simp only [qop] at h ⊢;rw [← hρ x (by simp [Op.operands])];exact h
 | typeAssert x xt t b=>cases b <;> simp only [qop] at h ⊢ <;> first | exact h.elim | (rw [← hρ x (by simp [Op.operands])];exact h)
 | _=>exact h
theorem Zg0 {T:Tab} {o:Op} {x:Operand} (h:ZmO T o=some x):x∈o.operands∧∀t a,o≠.load t a:=by
 unfold ZmO at h
 split at h
 ·(repeat' split at h) <;> first | cases h;done | (cases h;exact ⟨by simp [Op.operands],fun t a hh=>by cases hh⟩)
 ·cases h
theorem ZaG {w:Nat} {ρ ρ':Operand→PV}:∀{ps:List (Nat×Operand)} (_:∀p∈ps,ρ p.2=ρ' p.2) (rows:List (List D)),Vd w ρ ps rows=Vd w ρ' ps rows
 | [],_,_=>rfl
 | (i,x)::ps,h,rows=>by
  simp only [Vd];rw [← h (i,x) (by simp)]
  cases Zj5 (ρ x) with
  | none=>rfl
  | some r =>
   have ih:=ZaG (w:=w) (ρ:=ρ) (ρ':=ρ') (ps:=ps) (fun p hp=>h p (Tw _ hp)) (rows.set i r);simp only [ih]
theorem Zgh {T:Tab} {o:Op} {ty:TypeId} {ρ ρ':Operand→PV} {bx bx':List Box} {K:PV→Prop} (hρ:∀x,x∈o.operands→ρ x=ρ' x)
  (hpos:∀t,(T.get t).kind≠.other→(T.get t).kind.isAgg=false→(T.get t).size=1)
  (hl:∀t a b off,o=.load t a→ρ a=.ptr b off→XJ bx b off (T.get t).size=XJ bx' b off (T.get t).size) (h:Zh5 T o ty ρ bx K):Zh5 T o ty ρ' bx' K:=by
 unfold Zh5 at h ⊢
 split at h
 ·rename_i x hx
  rw [← hρ x (Zg0 hx).1];exact h
 ·rename_i hx
  split at h
  ·rename_i t n ps
   have:∀w rows,Vd w ρ ps.toList rows=Vd w ρ' ps.toList rows:=fun w rows=>ZaG (fun p hp=>hρ p.2 (by simp only [Op.operands];exact TH.2 (by simp only [Sy];exact ⟨p,hp,rfl⟩))) rows
   simp only [Zec,this] at h ⊢;exact h
  ·rename_i t l c
   rw [← hρ l (by simp [Op.operands]),← hρ c (by simp [Op.operands])];exact h
  ·exact Zou hρ hpos hl h
theorem Zov {T:Tab} {o:Op} {ρ ρ':Operand→PV} {σ:St} {K:PV→St→Prop} (hρ:∀x,x∈o.operands→ρ x=ρ' x) (h:eop T o ρ σ K):eop T o ρ' σ K:=by
 cases o with
 | box e x=>simp only [eop] at h ⊢;rw [← hρ x (by simp [Op.operands])];exact h
 | store t a x=>simp only [eop] at h ⊢;rw [← hρ a (by simp [Op.operands]),← hρ x (by simp [Op.operands])];exact h
 | range t x=>simp only [eop] at h ⊢;rw [← hρ x (by simp [Op.operands])];exact h
 | next x b=>cases b <;> simp only [eop] at h ⊢ <;> first | exact h | (rw [← hρ x (by simp [Op.operands])];exact h)
 | call c =>
  obtain ⟨callee,args,argTypes⟩:=c
  cases callee with
  | builtin b =>
   cases b with
   | append =>
    simp only [eop] at h ⊢;exact m137
   | _=>exact h
  | _=>exact h
 | _=>exact h
end Go.PM
end

section
namespace Go.PM
def XS (all:List Oper) (o:Oper) (f:Frame):Option Bool:=match o.guard with
 | none=>some true
 | some (j,want)=>match Ug all j with
  | some s=>match f s with
   | .d (.bool t)=>some (t == want)
   | .raw (.tuple _)=>some false
   | _=>none
  | none=>none
theorem X6 (C:Cx) (all:List Oper) (Q:PQ) (o:Oper) (f:Frame) (σ:St) (K:Frame→St→Prop) :
  Zav C all Q o f σ K↔match XS all o f with
   | some true=>Uf C o f σ Q K
   | some false=>K (YC f o.dst (.raw Go.undef)) σ
   | none=>False:=by
 unfold Zav XS
 cases hg:o.guard with
 | none=>exact Iff.rfl
 | some p =>
  obtain ⟨j,want⟩:=p;simp only
  cases hs:Ug all j with
  | none=>exact Iff.rfl
  | some s =>
   simp only
   cases hf:f s with
   | d x =>
    cases x with
    | bool t=>cases t <;> cases want <;> simp only [CondP,JB hf,Y1] <;> exact Iff.rfl
    | _=>exact Iff.rfl
   | raw v=>cases v <;> simp only [Y1] <;> exact Iff.rfl
   | _=>exact Iff.rfl
structure CxMono (C:Cx):Prop where
 one:∀t,(C.T.get t).kind≠.other→(C.T.get t).kind.isAgg=false→(C.T.get t).size=1
 call:∀g args σ (K K':PEnd→St→Prop),(∀e σ,K e σ→K' e σ)→C.call g args σ K→C.call g args σ K'
 raw:∀v args σ (K:PEnd→St→Prop),¬C.raw v args σ K
 quiet:C.pk=false
theorem Zen {T:Tab} {o:Op} {ty:TypeId} {ρ:Operand→PV} {bx:List Box} {K K':PV→Prop} (hK:∀v,K v→K' v) (h:Zh5 T o ty ρ bx K):Zh5 T o ty ρ bx K' :=
 let ⟨v,h1,h2⟩:=Zot h;h2 K' (hK v h1)
theorem ZmZ {t:Bool} {X Y X' Y':Prop} (h1:X→X') (h2:Y→Y') (h:CondP t X Y):CondP t X' Y':=by cases t;exact h2 h;exact h1 h
theorem Zg1 {T:Tab} {o:Op} {ρ:Operand→PV} {σ:St} {K K':PV→St→Prop} (hK:∀v σ,K v σ→K' v σ) (h:eop T o ρ σ K):eop T o ρ σ K':=by
 unfold eop at h ⊢
 (repeat' split at h) <;> first
  | exact h.elim
  | exact hK _ _ h
  | exact ZmZ (hK _ _) (hK _ _) h
  | exact ⟨h.1,h.2.1,h.2.2.1,hK _ _ h.2.2.2⟩
  | (rename_i hk;exfalso;simp_all;done)
section
variable {C:Cx} {all:List Oper} {Q:PQ} {f:Frame} {σ:St} {K K':Frame→St→Prop}
theorem Zm0 (hM:CxMono C) {o:Oper} (hK:∀f σ,K f σ→K' f σ) (h:Uf C o f σ Q K):Uf C o f σ Q K':=by
 unfold Uf at h ⊢
 simp only [Wf,Yl] at h ⊢;split at h
 ·exact Zen (fun v hv=>by rw [Y1] at hv ⊢;exact hK _ _ hv) h
 ·split at h
  ·unfold Zh6 at h ⊢
   split at h
   ·refine hM.call _ _ _ _ _ (fun e σ he=>?_) h
    cases e with
    | ret v=>simp only at he ⊢;rw [Y1] at he ⊢;exact hK _ _ he
    | panic v=>exact he
   ·exact (hM.raw _ _ _ _ h).elim
   ·exact h
  ·exact h
  ·exact Zg1 (fun v σ hv=>by rw [Y1] at hv ⊢;exact hK _ _ hv) h
theorem Zcr (hM:CxMono C) {o:Oper} (hK:∀f σ,K f σ→K' f σ) (h:Zav C all Q o f σ K):Zav C all Q o f σ K':=by
 rw [X6] at h ⊢;split at h
 ·exact Zm0 hM hK h
 ·exact hK _ _ h
 ·exact h
def looks (all:List Oper) (o:Oper):List Nat :=
 (o.op.operands.toList.filterMap fun | .tmp t=>some t | _=>none)++(match o.guard with | some (j,_)=>(Ug all j).toList | none=>[])
theorem Zkd {f f':Frame} {o:Oper} (h:∀d,d∈looks all o→f d=f' d) {x:Operand} (hx:x∈o.op.operands):ev f x=ev f' x:=by
 cases x with
 | tmp t =>
  refine h t ?_;unfold looks
  refine TT.2 (.inl (List.mem_filterMap.2 ⟨.tmp t,TH.1 hx,rfl⟩))
 | _=>rfl
theorem Zcs {f f':Frame} {o:Oper} (h:∀d,d∈looks all o→f d=f' d):XS all o f=XS all o f':=by
 unfold XS
 cases hg:o.guard with
 | none=>rfl
 | some p =>
  obtain ⟨j,want⟩:=p;simp only
  cases hs:Ug all j with
  | none=>rfl
  | some s =>
   simp only;rw [h s (by unfold looks;rw [hg];simp only [hs];simp)]
theorem Zgi {d d':Option Nat} (h:∀i,d=some i→d'≠some i) (f:Frame) (v u:PV):YC (YC f d v) d' u=YC (YC f d' u) d v:=by
 cases d with
 | none=>rfl
 | some i =>
  cases d' with
  | none=>rfl
  | some j =>
   have hij:i≠j:=fun e=>h i rfl (by rw [e])
   funext k
   simp only [YC]
   by_cases h1:j=k
   ·subst h1;rw [YW,X4 _ _ hij,YW]
   ·rw [X4 _ _ h1]
    by_cases h2:i=k
    ·subst h2;rw [YW,YW]
    ·rw [X4 _ _ h2,X4 _ _ h2,X4 _ _ h1]
theorem Zbx {d:Option Nat} {v:PV} {k:Nat} (h:∀i,d=some i→i≠k):YC f d v k=f k:=by
 cases d with
 | none=>rfl
 | some i=>exact X4 f v (h i rfl)
theorem calls_operands {x:Operand} {args:Array Operand} {at':Array TypeId} {y:Operand}:y∈(Op.call { callee:=.value x,args,argTypes:=at' }).operands↔y=x∨y∈args:=by
 simp [Op.operands,Call.operands]
theorem Zow (hM:CxMono C) {o:Oper} {d:Option Nat} {v:PV} (h1:∀i,d=some i→i∉looks all o) (h2:∀i,d=some i→o.dst≠some i) (h:Uf C o (YC f d v) σ Q K) :
  Uf C o f σ Q (fun f' σ'=>K (YC f' d v) σ'):=by
 have hsame:∀k,k∈looks all o→YC f d v k=f k:=fun k hk=>Zbx fun i hi e=>h1 i hi (e ▸ hk)
 have hev:∀x,x∈o.op.operands→ev (YC f d v) x=ev f x:=fun x hx=>Zkd hsame hx
 have hcomm:∀u,YC (YC f d v) o.dst u=YC (YC f o.dst u) d v:=fun u=>Zgi h2 f v u
 unfold Uf at h ⊢
 simp only [Wf,Yl,Cx.pf,hM.quiet] at h ⊢;split at h
 ·refine Zen (fun u hu=>?_) (Zgh hev hM.one (fun _ _ _ _ _ _=>rfl) h);rw [Y1] at hu ⊢;rw [hcomm] at hu;exact hu
 ·split at h
  ·rename_i x args at' ho
   have hx:ev (YC f d v) x=ev f x:=hev x (by rw [ho];exact calls_operands.2 (.inl rfl));have hargs:args.toList.map (ev (YC f d v))=args.toList.map (ev f):=Sq fun y hy=>hev y (by rw [ho];exact calls_operands.2 (.inr (TH.2 hy)))
   rw [hx,hargs] at h;have hk:∀(e:PEnd) (σ':St),(match e with | .ret u=>ZjX (YC f d v) o.dst u fun f=>K f σ' | .panic v=>Q (.panic v) (fun _=>.undef) σ':Prop)→(match e with | .ret u=>ZjX f o.dst u fun f=>K (YC f d v) σ' | .panic v=>Q (.panic v) (fun _=>.undef) σ':Prop):=fun e σ' he=>by
    cases e with
    | ret u=>simp only at he ⊢;rw [Y1] at he ⊢;rw [hcomm] at he;exact he
    | panic v=>exact he
   unfold Zh6 at h ⊢
   split at h
   ·exact hM.call _ _ _ _ _ hk h
   ·exact (hM.raw _ _ _ _ h).elim
   ·exact h
  ·rename_i x ho
   rw [hev x (by rw [ho];simp [Op.operands])] at h;exact h
  ·refine Zg1 (fun u σ' hu=>?_) (Zov (fun x hx=>hev x hx) h);rw [Y1] at hu ⊢;rw [hcomm] at hu;exact hu
theorem Zke (hM:CxMono C) {o:Oper} (hK:∀u σ',(XZ o.op=false→σ'=σ)→K (YC f o.dst u) σ'→K' (YC f o.dst u) σ') (h:Uf C o f σ Q K):Uf C o f σ Q K':=by
 unfold Uf at h ⊢
 simp only [Wf,Yl] at h ⊢;split at h
 ·rename_i hE
  exact Zen (fun v hv=>by rw [Y1] at hv ⊢;exact hK _ _ (fun _=>rfl) hv) h
 ·rename_i hE
  have hE':∀σ',XZ o.op=false→σ'=σ:=fun σ' h=>by rw [hE] at h;cases h
  split at h
  ·unfold Zh6 at h ⊢
   split at h
   ·refine hM.call _ _ _ _ _ (fun e σ he=>?_) h
    cases e with
    | ret v=>simp only at he ⊢;rw [Y1] at he ⊢;exact hK _ _ (hE' _) he
    | panic v=>exact he
   ·exact (hM.raw _ _ _ _ h).elim
   ·exact h
  ·exact h
  ·exact Zg1 (fun v σ hv=>by rw [Y1] at hv ⊢;exact hK _ _ (hE' _) hv) h
theorem Zkf (hM:CxMono C) {o:Oper} (hK:∀u σ',(XZ o.op=false→σ'=σ)→K (YC f o.dst u) σ'→K' (YC f o.dst u) σ') (h:Zav C all Q o f σ K):Zav C all Q o f σ K':=by
 rw [X6] at h ⊢;split at h
 ·exact Zke hM hK h
 ·exact hK _ _ (fun _=>rfl) h
 ·exact h
theorem Zox (hM:CxMono C) {o:Oper} {d:Option Nat} {v:PV} (h1:∀i,d=some i→i∉looks all o) (h2:∀i,d=some i→o.dst≠some i) (h:Zav C all Q o (YC f d v) σ K) :
  Zav C all Q o f σ (fun f' σ'=>K (YC f' d v) σ'):=by
 rw [X6] at h ⊢;rw [Zcs (f':=f) (fun k hk=>Zbx fun i hi e=>h1 i hi (e ▸ hk))] at h;split at h
 ·exact Zow hM h1 h2 h
 ·rw [Zgi h2] at h;exact h
 ·exact h
theorem Zkg (hM:CxMono C) {o:Oper} (hE:XZ o.op=false) (h:Zav C all Q o f σ K):∃v,K (YC f o.dst v) σ∧∀f' σ',(∀d,d∈looks all o→f d=f' d) →
  (∀t a b off,o.op=.load t a→ev f a=.ptr b off→XJ σ.bx b off (C.T.get t).size=XJ σ'.bx b off (C.T.get t).size)→∀K':Frame→St→Prop,K' (YC f' o.dst v) σ'→Zav C all Q o f' σ' K':=by
 rw [X6] at h;split at h
 ·rename_i hg
  unfold Uf at h
  simp only [hE] at h;obtain ⟨v,hv,hall⟩:=Zot h;rw [Y1] at hv;refine ⟨v,hv,fun f' σ' hf hl K' hK'=>?_⟩;rw [X6,← Zcs hf,hg];simp only [Uf,hE];refine Zgh (fun x hx=>Zkd hf hx) hM.one hl (hall _ ?_);rw [Y1];exact hK'
 ·rename_i hg
  refine ⟨_,h,fun f' σ' hf hl K' hK'=>?_⟩;rw [X6,← Zcs hf,hg];exact hK'
 ·exact h.elim
theorem chkL_iff {ms:List Nat} {j:Nat} {pre post:List Box} {X:Prop}:∀{l:List Ld},Zq7 ms j pre post l X↔(∀d,d∈l→anc ms d.i j=false→XJ pre d.b d.off d.n=XJ post d.b d.off d.n)∧X
 | []=>by simp [Zq7]
 | d::l=>by
  obtain ⟨di,db,doff,dn⟩:=d;simp only [Zq7]
  cases hd:anc ms di j with
  | true=>simp only [chkL_iff,Tt,forall_eq_or_imp,hd,Bool.true_eq_false,false_implies,true_and]
  | false=>simp only [chkL_iff,Tt,forall_eq_or_imp,hd,true_implies,and_assoc]
theorem Zct {o:Oper} {f':Frame} (h:∀d,d∈looks all o→f d=f' d) (T:Tab) (i:Nat) (ctx:List Ld):UP T o i f ctx=UP T o i f' ctx:=by
 unfold UP
 split
 ·rename_i t a ho
  rw [Zkd h (by rw [ho];simp [Op.operands]:a∈o.op.operands)]
 ·rfl
theorem Zoy {o:Oper} {ctx ctx':List Ld} (h:∀d,d∈ctx'→d∈ctx) (T:Tab) (i:Nat):∀d,d∈UP T o i f ctx'→d∈UP T o i f ctx:=by
 unfold UP
 split
 ·split
  ·intro d hd;rcases Tt.1 hd with rfl | hd
   ·simp
   ·exact Tw _ (h d hd)
  ·exact h
 ·exact h
theorem Zoz {o:Oper} {ctx:List Ld} (T:Tab) (i:Nat):∀d,d∈ctx→d∈UP T o i f ctx:=by
 unfold UP
 split
 ·split
  ·intro d hd;exact Tw _ hd
  ·exact fun _ h=>h
 ·exact fun _ h=>h
theorem ZoA {o o':Oper} {f':Frame} {ctx:List Ld} (T:Tab) (i i':Nat):∀d,d∈UP T o i f (UP T o' i' f' ctx)→d∈UP T o' i' f' (UP T o i f ctx):=by
 have key:∀(o:Oper) (i:Nat) (f:Frame),∃l,∀c,UP T o i f c=l++c:=fun o i f=>by
  unfold UP
  split
  ·split
   ·exact ⟨[_],fun c=>rfl⟩
   ·exact ⟨[],fun c=>rfl⟩
  ·exact ⟨[],fun c=>rfl⟩
 obtain ⟨l,hl⟩:=key o i f;obtain ⟨l',hl'⟩:=key o' i' f';intro d hd
 rw [hl,hl'] at hd;rw [hl',hl];simp only [TT] at hd ⊢;rcases hd with h | h | h
 ·exact .inr (.inl h)
 ·exact .inl h
 ·exact .inr (.inr h)
theorem Zeo (hM:CxMono C) {ms:List Nat} {i:Nat} {o:Oper} {ctx ctx':List Ld} {K:List Ld→Frame→St→Prop} (hs:∀d,d∈ctx'→d∈ctx) (hK:∀c c' f σ,(∀d,d∈c'→d∈c)→K c f σ→K c' f σ)
  (h:Ui C all ms Q i o ctx f σ K):Ui C all ms Q i o ctx' f σ K:=by
 unfold Ui at h ⊢
 refine Zcr hM (fun f' σ' hk=>?_) h
 cases hE:XZ o.op with
 | true=>simp only [hE] at hk ⊢;rw [chkL_iff] at hk ⊢;exact ⟨fun d hd=>hk.1 d (hs d hd),hK _ _ _ _ hs hk.2⟩
 | false=>simp only [hE] at hk ⊢;exact hK _ _ _ _ (Zoy hs _ _) hk
theorem Zif (hM:CxMono C) {ms:List Nat}:∀(l:List (Nat×Oper)) (c c':List Ld) (f:Frame) (σ:St),(∀d,d∈c'→d∈c)→Uj C all ms Q l c f σ→Uj C all ms Q l c' f σ
 | [],_,_,_,_,_,h=>h
 | (i,o)::l,c,c',f,σ,hs,h=>Zeo hM hs (fun c c' f σ=>Zif hM l c c' f σ) h
def Zdd (all:List Oper) (x y:Oper):Bool :=
 (match x.dst with | some d=>!(ZjY d (looks all y)) && (match y.dst with | some d'=>!(Nat.beq d d') | none=>true) | none=>true) &&
 (match y.dst with | some d=>!(ZjY d (looks all x)) | none=>true)
theorem Zkh {x y:Oper} (h:Zdd all x y=true):(∀i,x.dst=some i→i∉looks all y)∧(∀i,x.dst=some i→y.dst≠some i)∧(∀i,y.dst=some i→i∉looks all x):=by
 unfold Zdd at h
 rw [Tl] at h;refine ⟨fun i hi=>?_,fun i hi=>?_,fun i hi=>?_⟩
 ·have:=h.1;rw [hi] at this;simp only [Tl,TV] at this;intro hm;rw [(Y3 _ _).2 hm] at this;cases this.1
 ·have:=h.1;rw [hi] at this;simp only [Tl,TV] at this;intro hm;rw [hm] at this;simp at this
 ·have:=h.2;rw [hi] at this;simp only [TV] at this;intro hm;rw [(Y3 _ _).2 hm] at this;cases this
theorem Zyd (hM:CxMono C) {ms:List Nat} {ix iy:Nat} {x y:Oper} {ctx:List Ld} {K0:List Ld→Frame→St→Prop} (hK:∀c c' f σ,(∀d,d∈c'→d∈c)→K0 c f σ→K0 c' f σ)
  (hE:XZ x.op=false) (hap:Zdd all x y=true) (hanc:anc ms ix iy=false) (h:Ui C all ms Q ix x ctx f σ (fun c f σ=>Ui C all ms Q iy y c f σ K0)) :
  Ui C all ms Q iy y ctx f σ (fun c f σ=>Ui C all ms Q ix x c f σ K0):=by
 obtain ⟨ha,hb,hc⟩:=Zkh hap;unfold Ui at h
 simp only [hE] at h;obtain ⟨v,hv,hall⟩:=Zkg hM hE h;have hsame:∀u d,d∈looks all x→f d=YC f y.dst u d:=fun u d hd=>(Zbx fun i hi e=>hc i hi (e ▸ hd)).symm
 have hv:=Zox hM ha hb hv;unfold Ui
 refine Zkf hM (fun u σ' hq hk=>?_) hv
 cases hEy:XZ y.op with
 | true =>
  simp only [hEy] at hk ⊢;rw [chkL_iff] at hk ⊢;refine ⟨fun d hd hda=>hk.1 d (Zoz _ _ d hd) hda,?_⟩;simp only [hE];refine hall _ _ (hsame u) (fun t a b off ho ha=>?_) _ ?_
  ·exact hk.1 ⟨ix,b,off,(C.T.get t).size⟩ (by simp [UP,ho,ha]) hanc
  ·rw [← Zct (hsame u)];exact hk.2
 | false =>
  simp only [hEy] at hk ⊢;simp only [hE];obtain rfl:=hq hEy;refine hall _ _ (hsame u) (fun t a b off ho ha=>rfl) _ ?_;rw [← Zct (hsame u)];refine hK _ _ _ _ ?_ hk;rw [← Zct (f:=f) (f':=YC f x.dst v) (o:=y) (fun d hd=>(Zbx fun i hi e=>ha i hi (e ▸ hd)).symm)];exact ZoA _ _ _
theorem Zki (hM:CxMono C) {ms:List Nat} {i:Nat} {o:Oper} {post:List (Nat×Oper)}:∀(pre:List (Nat×Oper)),(∀p,p∈pre→XZ p.2.op=false∧Zdd all p.2 o=true∧anc ms p.1 i=false)→∀(ctx:List Ld) (f:Frame) (σ:St),
  Uj C all ms Q (pre++(i,o)::post) ctx f σ→Ui C all ms Q i o ctx f σ (Uj C all ms Q (pre++post))
 | [],_,_,_,_,h=>h
 | (ix,x)::pre,hp,ctx,f,σ,h=>by
  obtain ⟨h1,h2,h3⟩:=hp (ix,x) (by simp);refine Zyd hM (Zif hM _) h1 h2 h3 ?_;have h':Ui C all ms Q ix x ctx f σ (Uj C all ms Q (pre++(i,o)::post)):=h;unfold Ui at h' ⊢
  refine Zcr hM (fun f' σ' hk=>?_) h'
  cases hE:XZ x.op with
  | true=>rw [hE] at h1;cases h1
  | false=>simp only [hE] at hk ⊢;exact Zki hM pre (fun p hp'=>hp p (Tw _ hp')) _ _ _ hk
end
end Go.PM
end

section
namespace Go.PM
def Zg2 (n i:Nat):List Edge→Bool
 | []=>true
 | e::l=>(match Region.binds .any e with | true=>Nat.ble (e.on+1) n && !(Nat.beq e.on i) | false=>true) && Zg2 n i l
def ZdT (j:Nat):List Edge→Bool
 | []=>true
 | e::l=>(match Region.binds .any e with | true=>!(Nat.beq e.on j) | false=>true) && ZdT j l
def ZlB (all:List Oper) (ms:List Nat) (i:Nat) (o:Oper):List (Nat×Oper)→Bool
 | []=>true
 | (j,p)::l=>!(Nat.beq i j) && ZdT j o.after.toList && (anc ms i j || (!(XZ o.op) && Zdd all o p)) && ZlB all ms i o l
def Zig (all:List Oper) (ms:List Nat) (n:Nat):List (Nat×Oper)→Bool
 | []=>true
 | (i,o)::l=>ZlB all ms i o l && Zg2 n i o.after.toList && Zig all ms n l
def Zih (cs:List (Nat×Oper)):Nat→Bool
 | 0=>true
 | n+1=>cs.any (fun p=>Nat.beq p.1 n) && Zih cs n
def Zcu (ms:List Nat):List (Nat×Oper)→Bool
 | []=>true
 | (i,o)::l=>Nat.beq (ms.getD i 0) (ZaA ms o.after.toList 0) && Zcu ms l
def ZoB (ops:List Oper):Bool :=
 let ms:=Uh ops []
 let cs:=Zh7 ops
 Nat.beq cs.length ops.length && Zig ops ms ops.length cs && Zih cs ops.length && Zcu ms cs
theorem Zde {n i:Nat}:∀{l:List Edge},Zg2 n i l=true→∀e∈l,Region.binds .any e=true→e.on<n∧e.on≠i
 | [],_,e,he,_=>by cases he
 | x::l,h,e,he,hb=>by
  simp only [Zg2,Tl] at h;rcases Tt.1 he with rfl | he
  ·have h1:=h.1;rw [hb] at h1;simp only [Tl,Nat.ble_eq,TV] at h1;exact ⟨h1.1,fun e=>by rw [e] at h1;simp at h1⟩
  ·exact Zde h.2 e he hb
theorem Zby {j:Nat}:∀{l:List Edge},ZdT j l=true→∀e∈l,Region.binds .any e=true→e.on≠j
 | [],_,e,he,_=>by cases he
 | x::l,h,e,he,hb=>by
  simp only [ZdT,Tl] at h;rcases Tt.1 he with rfl | he
  ·have h1:=h.1;rw [hb] at h1;simp only [TV] at h1;exact fun e=>by rw [e] at h1;simp at h1
  ·exact Zby h.2 e he hb
def Zrd (all:List Oper) (ms:List Nat) (x y:Nat×Oper):Prop :=
 x.1≠y.1∧(∀e∈x.2.after.toList,Region.binds .any e=true→e.on≠y.1)∧(anc ms x.1 y.1=true∨(XZ x.2.op=false∧Zdd all x.2 y.2=true))
theorem Zep {all:List Oper} {ms:List Nat} {i:Nat} {o:Oper}:∀{l:List (Nat×Oper)},ZlB all ms i o l=true→∀p∈l,Zrd all ms (i,o) p
 | [],_,p,hp=>by cases hp
 | (j,x)::l,h,p,hp=>by
  simp only [ZlB,Tl,T9,TV] at h;rcases Tt.1 hp with rfl | hp
  ·exact ⟨fun (e:i=j)=>by have:=h.1.1.1;rw [e] at this;simp at this,Zby h.1.1.2,h.1.2⟩
  ·exact Zep h.2 p hp
theorem Vq {all:List Oper} {ms:List Nat} {n:Nat}:∀{l:List (Nat×Oper)},Zig all ms n l=true→l.Pairwise (Zrd all ms)∧∀p∈l,∀e∈p.2.after.toList,Region.binds .any e=true→e.on<n∧e.on≠p.1
 | [],_=>⟨List.Pairwise.nil,fun p hp=>by cases hp⟩
 | (i,o)::l,h=>by
  simp only [Zig,Tl] at h;obtain ⟨h1,h2⟩:=Vq h.2;refine ⟨List.Pairwise.cons (Zep h.1.1) h1,fun p hp=>?_⟩;rcases Tt.1 hp with rfl | hp
  ·exact Zde h.1.2
  ·exact h2 p hp
theorem ZaY {cs:List (Nat×Oper)}:∀{n:Nat},Zih cs n=true→∀k,k<n→∃p∈cs,p.1=k
 | 0,_,k,hk=>by omega
 | n+1,h,k,hk=>by
  simp only [Zih,Tl,List.any_eq_true] at h
  by_cases hkn:k=n
  ·obtain ⟨p,hp,hb⟩:=h.1;exact ⟨p,hp,by rw [hkn];exact Tm hb⟩
  ·exact ZaY h.2 k (by omega)
theorem VN {ms:List Nat}:∀{l:List (Nat×Oper)},Zcu ms l=true→∀p∈l,ms.getD p.1 0=ZaA ms p.2.after.toList 0
 | [],_,p,hp=>by cases hp
 | (i,o)::l,h,p,hp=>by
  simp only [Zcu,Tl] at h;rcases Tt.1 hp with rfl | hp
  ·exact Tm h.1
  ·exact VN h.2 p hp
theorem Up {ms:List Nat} {x:Nat}:∀{l:List Edge} {s:Nat},(ZaA ms l s).testBit x=true→s.testBit x=true∨∃e∈l,Region.binds .any e=true∧(e.on=x∨anc ms x e.on=true)
 | [],s,h=>.inl h
 | e::l,s,h=>by
  unfold ZaA at h
  cases hb:Region.binds .any e with
  | true =>
   rw [hb] at h;rcases Up h with h1 | ⟨e',he',h1⟩
   ·rw [Nat.testBit_or,Nat.testBit_or,T9,T9] at h1;rcases h1 with (h1 | h1) | h1
    ·exact .inl h1
    ·rw [Nat.testBit_two_pow] at h1;exact .inr ⟨e,by simp,hb,.inl (by simpa using h1)⟩
    ·exact .inr ⟨e,by simp,hb,.inr h1⟩
   ·exact .inr ⟨e',Tw _ he',h1⟩
  | false =>
   rw [hb] at h;rcases Up h with h1 | ⟨e',he',h1⟩
   ·exact .inl h1
   ·exact .inr ⟨e',Tw _ he',h1⟩
theorem Zii {left:List (Nat×Oper)}:∀{l:List (Nat×Oper)} {p:Nat×Oper},ZgV left l=some p→p∈l
 | [],p,h=>by cases h
 | (i,o)::l,p,h=>by
  unfold ZgV at h
  split at h
  ·cases h;simp
  ·exact Tw _ (Zii h)
theorem YX {i:Nat}:∀{l:List (Nat×Oper)} {p:Nat×Oper},p∈YP i l→p∈l
 | [],p,h=>by cases h
 | (j,o)::l,p,h=>by
  unfold YP at h
  split at h
  ·exact Tw _ h
  ·rcases Tt.1 h with rfl | h
   ·simp
   ·exact Tw _ (YX h)
theorem J7:∀{n:Nat} {l:List (Nat×Oper)} {p:Nat×Oper},p∈Jl n l→p∈l
 | 0,l,p,h=>h
 | n+1,[],p,h=>by cases h
 | n+1,x::l,p,h=>by
  unfold Jl at h
  split at h
  ·rename_i i o hp
   rcases Tt.1 h with rfl | h
   ·exact Zii hp
   ·exact YX (J7 h)
  ·rcases Tt.1 h with rfl | h
   ·simp
   ·exact Tw _ (J7 h)
theorem Wz:∀{l:List Oper} {i:Nat} {p:Nat×Oper},p∈ZV i l→i≤p.1∧l[p.1 - i]?=some p.2
 | [],i,p,h=>by cases h
 | o::l,i,p,h=>by
  unfold ZV at h
  rcases Tt.1 h with rfl | h
  ·simp
  ·obtain ⟨h1,h2⟩:=Wz h;refine ⟨by omega,?_⟩;rw [show p.1 - i=(p.1 - (i+1))+1 by omega];simpa using h2
theorem ZoC {ops:List Oper} {p:Nat×Oper} (h:p∈Zh7 ops):ops[p.1]?=some p.2:=by
 have:=Wz (J7 h);simpa using this.2
section
variable {G:GE} {C:Cx} {e0 e:Env} {σ0 σ:St} {w0 w:World} {a:Act} {f:Frame} {Q:PQ} {ro:Option Nat} {n:Nat} {ds:Nat×List Deferred×Bool} {N:Nat} {Z:Array Value→Prop}
theorem Zij (hC:CxOK G C ro e0 σ0 w0) (hM:CxMono C) {ops:Array Oper} (hd:∀o,o∈ops→∀d,o.dst=some d→d<N∧∀t v,Z t→Z (t.setIfInBounds d v)) {ms:List Nat} (hms:∀i o,ops[i]?=some o→ms.getD i 0=ZaA ms o.after.toList 0) :
  ∀(k:Nat) (l:List (Nat×Oper)),l.length=k→(∀p∈l,ops[p.1]?=some p.2)→l.Pairwise (Zrd ops.toList ms)→(∀p∈l,∀e∈p.2.after.toList,Region.binds .any e=true→e.on<ops.size∧e.on≠p.1) →
  ∀{listed:Array Bool},listed.size=ops.size→(∀k,k<ops.size→(listed.getD k false=true↔∀p∈l,p.1≠k))→(∀j,(∀p∈l,p.1≠j)→∀p∈l,anc ms p.1 j=false) →
  ∀{ctx:List Ld} {e:Env} {σ:St} {w:World} {a:Act} {f:Frame},SRel G e σ w→FRel G e σ w f a.tmps→Later e0 σ0 w0 e σ w→a.tmps.size=N→Marks ds e σ w a.defers→Z a.tmps→Uj C ops.toList ms Q l ctx f σ →
  wpAnyIn (fw ro) n G.P .any ops (Yb G e0 σ0 w0 ds N Z Q) k listed a w
 | 0,l,hl,hget,hp,hed,listed,hsz,hli,hdown,ctx,e,σ,w,a,f,hS,hF,hL,hN,hds,hZ,h=>by
  have hl0:l=[]:=Sw.1 hl;exact m69
 | k+1,l,hl,hget,hp,hed,listed,hsz,hli,hdown,ctx,e,σ,w,a,f,hS,hF,hL,hN,hds,hZ,h=>by
  have hgd:∀i b,i<ops.size→listed.getD i b=listed.getD i false:=fun i b hi=>by
   exact m94
  refine ⟨fun hr=>?_,fun i hi=>?_⟩
  ·cases l with
   | nil=>simp at hl
   | cons x l =>
    exfalso;have hx:=hget x (by simp);have hlt:=(Tp.1 hx).1;have:x.1∈Region.ready .any ops listed:=by
     refine mem_ready.2 ⟨?_,x.2,hx,fun ed hed' hb=>?_⟩
     ·rw [hgd _ _ hlt]
      cases hv:listed.getD x.1 false with
      | false=>rfl
      | true=>exact absurd rfl ((hli x.1 hlt).1 hv x (by simp))
     ·have h1:=hed x (by simp) ed (TH.1 hed') hb;refine (hli ed.on h1.1).2 fun p hp'=>?_
      exact m151
    rw [hr] at this;cases this
  ·obtain ⟨h1,o,ho,hall⟩:=mem_ready.1 hi;have hlt:=(Tp.1 ho).1;rw [hgd _ _ hlt] at h1;have hmem:∃p∈l,p.1=i:=by
    exact m164
   obtain ⟨p,hpl,rfl⟩:=hmem;have hpo:p.2=o:=by have:=hget p hpl;rw [ho] at this;exact (Option.some.inj this).symm
   obtain ⟨pre,post,rfl⟩:=List.append_of_mem hpl;obtain ⟨i,o'⟩:=p;dsimp only at hpo ho hlt h1 hi;subst hpo;have hpw:=List.pairwise_append.1 hp;have hpost:=(List.pairwise_cons.1 hpw.2.1)
   have hnotanc:∀x∈pre++(i,o')::post,anc ms x.1 i=false:=fun x hx=>by
    cases hax:anc ms x.1 i with
    | false=>rfl
    | true =>
     exfalso;unfold anc at hax
     rw [hms i o' ho] at hax;rcases Up hax with h2 | ⟨ed,hed',hb,h2⟩
     ·simp at h2
     ·have hlst:=hall ed (TH.2 hed') hb;have hne:=(hli ed.on (hed _ hpl ed hed' hb).1).1 hlst;rcases h2 with h2 | h2
      ·exact hne x hx h2.symm
      ·rw [hdown ed.on hne x hx] at h2;cases h2
   have hfront:=Zki hM pre (fun x hx=>by
    have hA:=hpw.2.2 x hx (i,o') (by simp);have hna:=hnotanc x (by simp [hx]);rcases hA.2.2 with h2 | h2
    ·rw [hna] at h2;cases h2
    ·exact ⟨h2.1,h2.2,hna⟩) ctx f σ h
   have hstep:=UT (ro:=ro) (n:=n) hC hS hF hL hN hds hZ (ops:=ops) (hd o' (T8 ho)) hfront;have hne':∀x∈pre++post,x.1≠i:=fun x hx=>by
    exact m176
   have hsub:∀x,x∈pre++post→x∈pre++(i,o')::post:=fun x hx=>by
    rcases TT.1 hx with hx | hx <;> simp [hx]
   have next:∀a' w',KRel G e0 σ0 w0 ds N Z (fun f' σ'=>∃c,Uj C ops.toList ms Q (pre++post) c f' σ') a' w'→wpAnyIn (fw ro) n G.P .any ops (Yb G e0 σ0 w0 ds N Z Q) k (listed.setIfInBounds i true) a' w':=fun a' w' ⟨f',e',σ',⟨c,hk1⟩,h2,h3,h4,h5,h6,h7⟩=>by
    refine Zij hC hM hd hms k (pre++post) (by simp at hl ⊢;omega) (fun x hx=>hget x (hsub x hx)) (List.pairwise_append.2 ⟨hpw.1,hpost.2,fun x hx y hy=>hpw.2.2 x hx y (Tw _ hy)⟩)
     (fun x hx=>hed x (hsub x hx)) (by simpa using hsz) (fun k hk=>?_) (fun j hj x hx=>?_) h2 h3 h4 h5 h6 h7 hk1
    ·by_cases hki:k=i
     ·subst hki;have hlt':k<listed.size:=by rw [hsz];exact hlt
      have:(listed.setIfInBounds k true).getD k false=true:=by simp [Array.getD,hlt']
      simp only [this,true_iff];exact hne'
     ·have:(listed.setIfInBounds i true).getD k false=listed.getD k false:=getD_set_ne false (Ne.symm hki);rw [this,hli k hk]
      constructor
      ·exact fun hh x hx=>hh x (hsub x hx)
      ·intro hh x hx
       rcases TT.1 hx with hx | hx
       ·exact hh x (by simp [hx])
       ·rcases Tt.1 hx with rfl | hx
        ·exact fun e=>hki e.symm
        ·exact hh x (by simp [hx])
    ·by_cases hji:j=i
     ·subst hji;exact hnotanc x (hsub x hx)
     ·refine hdown j (fun y hy=>?_) x (hsub x hx);exact m147
   have hK:∀a' w',KRel G e0 σ0 w0 ds N Z (fun f' σ'=>match XZ o'.op with | true=>Zq7 ms i σ.bx σ'.bx ctx (Uj C ops.toList ms Q (pre++post) ctx f' σ') | false=>Uj C ops.toList ms Q (pre++post) (UP C.T o' i f ctx) f' σ') a' w' →
     KRel G e0 σ0 w0 ds N Z (fun f' σ'=>∃c,Uj C ops.toList ms Q (pre++post) c f' σ') a' w':=fun a' w' ⟨f',e',σ',hk,hrest⟩=>by
    refine ⟨f',e',σ',?_,hrest⟩
    cases hE:XZ o'.op with
    | true=>rw [hE] at hk;exact ⟨_,(chkL_iff.1 hk).2⟩
    | false=>rw [hE] at hk;exact ⟨_,hk⟩
   exact m95
theorem Zm1 (hC:CxOK G C ro e0 σ0 w0) (hM:CxMono C) {ops:Array Oper} (hd:∀o,o∈ops→∀d,o.dst=some d→d<N∧∀t v,Z t→Z (t.setIfInBounds d v)) (hok:ZoB ops.toList=true)
  (hS:SRel G e σ w) (hF:FRel G e σ w f a.tmps) (hL:Later e0 σ0 w0 e σ w) (hN:a.tmps.size=N) (hds:Marks ds e σ w a.defers) (hZ:Z a.tmps) (h:Uj C ops.toList (Uh ops.toList []) Q (Zh7 ops.toList) [] f σ) :
  wpAnyIn (fw ro) n G.P .any ops (Yb G e0 σ0 w0 ds N Z Q) ops.size (Array.replicate ops.size false) a w:=by
 simp only [ZoB,Tl] at hok;obtain ⟨⟨⟨h1,h2⟩,h3⟩,h4⟩:=hok;have hlen:(Zh7 ops.toList).length=ops.size:=by simpa using Tm h1
 have hcov:∀k,k<ops.size→∃p∈Zh7 ops.toList,p.1=k:=fun k hk=>ZaY h3 k (by simpa using hk)
 have hget:∀p∈Zh7 ops.toList,ops[p.1]?=some p.2:=fun p hp=>by have:=ZoC hp;simpa using this
 refine Zij hC hM hd (ms:=Uh ops.toList []) (fun i o ho=>?_) _ (Zh7 ops.toList) hlen hget (Vq h2).1 (fun p hp e he hb=>by have:=(Vq h2).2 p hp e he hb;simpa using this) (by simp) (fun k hk=>?_) (fun j hj p hp=>?_) hS hF hL hN hds hZ h
 ·obtain ⟨p,hp,rfl⟩:=hcov i (Tp.1 ho).1;have:=hget p hp;rw [ho] at this
  cases this
  exact VN h4 p hp
 ·exact m126
 ·by_cases hj':j<ops.size
  ·obtain ⟨q,hq,he⟩:=hcov j hj';exact absurd he (hj q hq)
  ·exact m78
end
end Go.PM
end
