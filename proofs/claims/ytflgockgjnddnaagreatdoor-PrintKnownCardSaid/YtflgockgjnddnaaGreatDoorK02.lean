/- A part of the proof: plain logic, contracts and laws over the given program. -/
import Derived.Deep.AppendSrc
import Derived.Deep.Upon
import Derived.Lib.OthersKept
import Derived.Lib.ConvBytes
import Derived.OrdersIn
import Derived.Test.YtflgockgjnddnaaGreatDoorK01
set_option linter.unusedVariables false
set_option linter.unusedSimpArgs false
set_option linter.all false
set_option maxRecDepth 100000
set_option maxHeartbeats 16000000
section
namespace Go.PM
section
variable {G:GE} {e:Env} {σ:St} {w:World} {T:Tab}
structure Grows (w w1:World):Prop where
 os:w1.os=w.os
 tape:w1.tape=w.tape
 output:w1.output=w.output
 size:w.heap.size≤w1.heap.size
 old:∀b,b<w.heap.size→w1.heap[b]?=w.heap[b]?
theorem Grows.refl (w:World):Grows w w:=⟨rfl,rfl,rfl,Tp _,fun _ _=>rfl⟩
theorem Grows.trans {a b c:World} (h:Grows a b) (k:Grows b c):Grows a c :=
 ⟨k.os.trans h.os,k.tape.trans h.tape,k.output.trans h.output,Sc h.size k.size,fun i hi=>(k.old i (TB hi h.size)).trans (h.old i hi)⟩
theorem Grows.alloc (w:World) (o:Obj):Grows w (w.alloc o):=⟨rfl,rfl,rfl,by simp only [World.alloc,Array.size_push];omega,fun i hi=>heap_alloc_old w o i hi⟩
theorem Grows.drew (w:World):Grows w w.drew:=⟨rfl,rfl,rfl,Tp _,fun _ _=>rfl⟩
theorem Grows.cell {w w1:World} (h:Grows w w1) {b off:Nat} (hb:b<w.heap.size):w1.cell? ⟨b,off,none⟩=w.cell? ⟨b,off,none⟩:=by simp [World.cell?,h.old b hb]
theorem Grows.stepped {w1:World} (h:Grows w w1) (e:Env) (σ:St):Stepped e σ w e σ w1 where
 len:=Tp _
 beta:=fun _ _=>rfl
 X:=rfl
 pres:=fun b off u hc ho=>⟨ho,(h.cell (VM hc)).trans hc⟩
 blocks:=fun b hb _ _=>h.old b hb
 size:=h.size
 os:=h.os
 tape:=h.tape
 output:=h.output
 fresh:=fun i h1 h2=>by omega
 ftok:=fun t ht p hp=>.inr ⟨t,ht,p,hp,rfl⟩
 nx:=Tp _
 toks:=fun _ _ ht=>⟨ht,rfl⟩
 own:=fun _ _ _ _ _ hp=>h.old _ hp
theorem SRel.grow (hS:SRel G e σ w) {w1:World} (h:Grows w w1):SRel G e σ w1 where
 inj:=hS.inj
 box:=fun i x hx=>(hS.box i x hx).step (h.stepped e σ) (h.old _ (hS.lt (Tg.1 hx).1))
 low:=hS.low
 tkn:=hS.tkn
 own:=fun t ht p hp=>by
  obtain ⟨h1,h2,cs,ty,fz,h3⟩:=hS.own t ht p hp
  exact ⟨h1,h2,cs,ty,fz,(h.old _ (Tn.1 h3).1).trans h3⟩
 dis:=hS.dis
 xown:=hS.xown
 xlt:=fun b off hx=>TB (hS.xlt b off hx) h.size
 glob:=fun b hb=>(h.old b (TB hb hS.big)).trans (hS.glob b hb)
 big:=Sc hS.big h.size
def Env.more (e:Env) (n b:Nat):Env:={ e with β:=fun i=>if i=n then b else e.β i }
theorem Zyy (σ:St) (x:Box):(σ.new x).bx.length=σ.bx.length+1:=by simp [St.new]
theorem Zck (hS:SRel G e σ w) (x:Box) (ob:Obj) (hob:∀e1 σ1 w1,Stepped e σ w e1 σ1 w1→w1.heap[w.heap.size]?=some ob→BRel G e1 σ1 w1 x w.heap.size) :
  Stepped e σ w (e.more σ.bx.length w.heap.size) (σ.new x) (w.alloc ob)∧SRel G (e.more σ.bx.length w.heap.size) (σ.new x) (w.alloc ob) ∧
   VRel G (e.more σ.bx.length w.heap.size) (σ.new x) (w.alloc ob) (.ptr σ.bx.length 0) (.pointer (some ⟨w.heap.size,0,none⟩)):=by
 have hg:=Grows.alloc w ob
 have hβ:∀i,i<σ.bx.length→(e.more σ.bx.length w.heap.size).β i=e.β i:=fun i hi=>by simp only [Env.more];rw [Te (by omega)]
 have hβn:(e.more σ.bx.length w.heap.size).β σ.bx.length=w.heap.size:=by simp [Env.more]
 have hst:Stepped e σ w (e.more σ.bx.length w.heap.size) (σ.new x) (w.alloc ob):={
  len:=by rw [Zyy];omega
  beta:=hβ
  X:=rfl
  pres:=fun b off u hc ho=>⟨⟨ho.1,fun i hi=>by
    have hb:=VM hc
    rw [Zyy] at hi
    by_cases h:i=σ.bx.length
    ·rw [h,hβn];omega
    ·rw [hβ i (by omega)];exact ho.2.1 i (by omega),ho.2.2⟩,(hg.cell (VM hc)).trans hc⟩
  blocks:=fun b hb _ _=>hg.old b hb
  size:=hg.size
  os:=rfl
  tape:=rfl
  output:=rfl
  fresh:=fun i h1 h2=>by
   rw [Zyy] at h2
   rw [show i=σ.bx.length by omega,hβn];exact Tp _
  ftok:=fun t ht p hp=>.inr ⟨t,ht,p,hp,rfl⟩
  nx:=Tp _
  toks:=fun _ _ ht=>⟨ht,rfl⟩
  own:=fun _ _ _ _ _ hp=>hg.old _ hp }
 refine ⟨hst,?_,?_⟩
 ·exact {
   inj:=fun i j hi hj hij=>by
    rw [Zyy] at hi hj
    by_cases h1:i=σ.bx.length <;> by_cases h2:j=σ.bx.length
    ·omega
    ·rw [h1,hβn,hβ j (by omega)] at hij
     have:=hS.lt (i:=j) (by omega);omega
    ·rw [h2,hβn,hβ i (by omega)] at hij
     have:=hS.lt (i:=i) (by omega);omega
    ·rw [hβ i (by omega),hβ j (by omega)] at hij
     exact hS.inj i j (by omega) (by omega) hij
   box:=fun i y hy=>by
    have hi:=(Tg.1 hy).1
    rw [Zyy] at hi
    by_cases h1:i=σ.bx.length
    ·subst h1
     rw [hβn]
     simp [St.new] at hy
     subst hy
     exact hob _ _ _ hst (heap_alloc_new w ob)
    ·have hi':i<σ.bx.length:=by omega
     rw [hβ i hi']
     simp only [St.new,TG hi'] at hy
     exact (hS.box i y hy).step hst (hg.old _ (hS.lt hi'))
   low:=fun i hi=>by
    rw [Zyy] at hi
    by_cases h1:i=σ.bx.length
    ·rw [h1,hβn];exact hS.big
    ·rw [hβ i (by omega)];exact hS.low i (by omega)
   tkn:=hS.tkn
   own:=fun t ht p hp=>by
    obtain ⟨h1,h2,cs,ty,fz,h3⟩:=hS.own t ht p hp
    have hlt:=(Tn.1 h3).1
    refine ⟨h1,fun i hi=>?_,cs,ty,fz,(hg.old _ hlt).trans h3⟩
    rw [Zyy] at hi
    by_cases h4:i=σ.bx.length
    ·rw [h4,hβn];omega
    ·rw [hβ i (by omega)];exact h2 i (by omega)
   dis:=hS.dis
   xown:=hS.xown
   xlt:=fun b off hx=>TB (hS.xlt b off hx) hg.size
   glob:=fun b hb=>(hg.old b (TB hb hS.big)).trans (hS.glob b hb)
   big:=Sc hS.big hg.size }
 ·have:=VRel.ptr (G:=G) (e:=e.more σ.bx.length w.heap.size) (σ:=σ.new x) (w:=w.alloc ob) σ.bx.length 0 (by rw [Zyy];omega)
  rwa [hβn] at this
theorem Zcl (hS:SRel G e σ w) (t:TypeId) (cs:List PV) (vs:Array Value) (hs:vs.size=cs.length) (hr:∀(i:Nat) (x:PV) (u:Value),cs[i]?=some x→vs[i]?=some u→VRel G e σ w x u∧u.oneCell'=true) :
  Stepped e σ w (e.more σ.bx.length w.heap.size) (σ.new (.cells t cs)) (w.alloc (.cells vs t))∧SRel G (e.more σ.bx.length w.heap.size) (σ.new (.cells t cs)) (w.alloc (.cells vs t)) ∧
   VRel G (e.more σ.bx.length w.heap.size) (σ.new (.cells t cs)) (w.alloc (.cells vs t)) (.ptr σ.bx.length 0) (.pointer (some ⟨w.heap.size,0,none⟩)) :=
 Zck hS (.cells t cs) (.cells vs t) (fun _ _ _ hst hh=>⟨vs,hh,hs,fun i x u hx hu=>⟨(hr i x u hx hu).1.step hst,(hr i x u hx hu).2⟩⟩)
def Zo7 (P:Program) (ρ':Operand→Value) (o:Oper) (w:World) (v:Value) (w1:World):Prop :=
 (execOp ρ' o).run P w=.ok (.value v) w1∨((execOp ρ' o).run P w=.ok .skip w1∧v=Go.undef)
theorem Xb (b:Nat):∀(vs:List Value) (o:Nat) (w:World) (cs:Array Value) (ty:TypeId) (fz:Nat×Nat),w.heap[b]?=some (.cells cs ty fz) →
  ∃cs',(w.setCells b o vs).heap[b]?=some (.cells cs' ty fz)∧cs'.size=cs.size∧∀i,cs'[i]?=if o≤i∧i<o+vs.length∧i<cs.size then vs[i - o]? else cs[i]?
 | [],o,w,cs,ty,fz,h=>⟨cs,h,rfl,fun i=>by rw [Te];simp;omega⟩
 | v::vs,o,w,cs,ty,fz,h=>by
  have h1:(w.setCell ⟨b,o,none⟩ v).heap[b]?=some (.cells (cs.setIfInBounds o v) ty fz):=by
   simp [World.setCell,Array.getElem?_modify,h]
  obtain ⟨cs',h2,h3,h4⟩:=Xb b vs (o+1) _ _ ty fz h1
  refine ⟨cs',h2,by rw [h3];simp,fun i=>?_⟩
  rw [h4]
  simp only [Array.size_setIfInBounds,Tc,TX]
  by_cases hi:o+1≤i∧i<o+1+vs.length∧i<cs.size
  ·rw [Ti hi,Ti ⟨by omega,by omega,by omega⟩,show i - o=(i - (o+1))+1 by omega,T3]
  ·rw [Te hi]
   by_cases h5:o=i
   ·subst h5
    by_cases h6:o<cs.size
    ·rw [Ti rfl,Ti h6,Ti ⟨by omega,by omega,h6⟩];simp
    ·rw [Ti rfl,Te h6,Te (by omega)];simp [h6]
   ·rw [Te h5,Te (by omega)]
theorem Yr (b:Nat):∀(vs:List Value) (o:Nat) (w:World),(w.setCells b o vs).heap.size=w.heap.size
 | [],_,_=>rfl
 | v::vs,o,w=>by
  show ((w.setCell ⟨b,o,none⟩ v).setCells b (o+1) vs).heap.size=_
  rw [Yr b vs]
  simp [World.setCell]
theorem YW (b:Nat):∀(vs:List Value) (o:Nat) (w:World),(w.setCells b o vs).os=w.os∧(w.setCells b o vs).tape=w.tape∧(w.setCells b o vs).output=w.output∧∀k,k≠b→(w.setCells b o vs).heap[k]?=w.heap[k]?
 | [],_,_=>⟨rfl,rfl,rfl,fun _ _=>rfl⟩
 | v::vs,o,w=>by
  obtain ⟨h1,h2,h3,h4⟩:=YW b vs (o+1) (w.setCell ⟨b,o,none⟩ v)
  exact ⟨h1,h2,h3,fun k hk=>(h4 k hk).trans (RowKit.Below.heap_setCell w ⟨b,o,none⟩ v k hk)⟩
theorem Ju (hT:TabOK T G.P) (hS:SRel G e σ w) {t:TypeId} {b off:Nat} {x:PV} {v:Value} {l cs:List PV} {ty:TypeId} (hb:σ.bx[b]?=some (.cells ty cs)) (hx:VRel G e σ w x v) (hl:x.cells=some l)
  (hlen:l.length=(T.get t).size) (hfit:off+l.length≤cs.length) (hk:(T.get t).kind≠.other) :
  ∃w1,(Instr.storeAt t (.pointer (some ⟨e.β b,off,none⟩)) v).run G.P w=.ok () w1∧Stepped e σ w e (σ.set b (.cells ty (ZJ cs off l))) w1∧SRel G e (σ.set b (.cells ty (ZJ cs off l))) w1:=by
 obtain ⟨i,d,z,hi,hd,hs,hby,hkd,hz,hz2,_⟩:=(hT.get hk).ex
 have hbl:b<σ.bx.length:=(Tg.1 hb).1
 obtain ⟨vs,hv1,hv2,hv3⟩:=hS.box b _ hb
 obtain ⟨hc1,hc2⟩:=Vm hx hl
 have hvc:v.cells.toList.length=l.length:=by simpa using hc1
 have hone:∀u∈v.cells.toList,u.oneCell'=true:=fun u hu=>by
  exact m131
 have hrun:=run_storeCells_cells (P:=G.P) (e.β b) off v.cells.toList 0 w (fun j hj=>by
   have:off+j<vs.size:=by omega
   simp [World.cell?,hv1,this]) (fun j hj=>by simp [World.frozen?,hv1]) hone
 simp only [SC] at hrun
 obtain ⟨r1,r2,r3,r4⟩:=YW (e.β b) v.cells.toList off w
 obtain ⟨cs',h1,h2,h3⟩:=Xb (e.β b) v.cells.toList off w vs ty (0,0) hv1
 have hsl:(σ.set b (.cells ty (ZJ cs off l))).bx.length=σ.bx.length:=by simp [St.set]
 have hst:Stepped e σ w e (σ.set b (.cells ty (ZJ cs off l))) (w.setCells (e.β b) off v.cells.toList):={
  len:=by rw [hsl];exact Tp _
  beta:=fun _ _=>rfl
  X:=rfl
  pres:=fun k o u hk ho=>⟨⟨ho.1,fun j hj=>ho.2.1 j (by rw [hsl] at hj;exact hj),ho.2.2⟩,by simpa [World.cell?,r4 k (fun h=>ho.2.1 b hbl h.symm)] using hk⟩
  blocks:=fun k hk hnb _=>r4 k (fun h=>hnb b hbl h.symm)
  size:=by rw [Yr];exact Tp _
  os:=r1
  tape:=r2
  output:=r3
  fresh:=fun i h1 h2=>by rw [hsl] at h2;omega
  ftok:=fun t ht p hp=>.inr ⟨t,ht,p,hp,rfl⟩
  nx:=Tp _
  toks:=fun _ _ ht=>⟨ht,rfl⟩
  own:=fun t' hn ht p hp hlt=>r4 _ (fun h=>(hS.own t' ht p hp).2.1 b hbl h.symm) }
 refine ⟨_,?_,hst,?_⟩
 ·have h1':v.cells.size=i.size:=by rw [hc1,hlen,hs]
  exact m67
 ·exact {
   inj:=fun i j hi hj=>hS.inj i j (by rw [hsl] at hi;exact hi) (by rw [hsl] at hj;exact hj)
   box:=fun k y hy=>by
    by_cases hkb:k=b
    ·subst hkb
     have:y=.cells ty (ZJ cs off l):=by
      exact m109
     subst this
     refine ⟨cs',h1,by rw [h2,hv2,Xt],fun j x u hx' hu=>?_⟩
     rw [WX] at hx'
     rw [h3,hvc] at hu
     by_cases hin:off≤j∧j<off+l.length∧j<cs.length
     ·rw [Ti hin] at hx'
      rw [Ti ⟨hin.1,hin.2.1,by omega⟩,Tu] at hu
      obtain ⟨q1,q2⟩:=hc2 _ x u hx' hu
      exact ⟨q1.step hst,q2⟩
     ·rw [Te hin] at hx'
      rw [Te (by omega)] at hu
      obtain ⟨q1,q2⟩:=hv3 j x u hx' hu
      exact ⟨q1.step hst,q2⟩
    ·have hy':σ.bx[k]?=some y:=by
      simp only [St.set] at hy
      rwa [List.getElem?_set_ne (fun h=>hkb h.symm)] at hy
     have hkl:=(Tg.1 hy').1
     exact (hS.box k y hy').step hst (r4 _ (fun h=>hkb (hS.inj k b hkl hbl h)))
   low:=fun i hi=>hS.low i (by rw [hsl] at hi;exact hi)
   tkn:=hS.tkn
   own:=fun t' ht p hp=>by
    obtain ⟨q1,q2,cs2,ty2,fz2,q3⟩:=hS.own t' ht p hp
    refine ⟨q1,fun i hi=>q2 i (by rw [hsl] at hi;exact hi),cs2,ty2,fz2,(r4 _ (fun h=>q2 b hbl h.symm)).trans q3⟩
   dis:=hS.dis
   xown:=hS.xown
   xlt:=fun k o hx=>by rw [Yr];exact hS.xlt k o hx
   glob:=fun k hk=>(r4 k (fun h=>by have:=hS.low b hbl;omega)).trans (hS.glob k hk)
   big:=by rw [Yr];exact hS.big }
theorem ZjF (hS:SRel G e σ w) {b:Nat} {s:List UInt8} {pos:Nat} (hb:σ.bx[b]?=some (.iter s pos)) (ty:TypeId) {K:PV→St→Prop}
  (h:CondP (decide (pos<s.length)) (K (.tuple [.d (.bool true),.d (.int .i64 pos),.d (.int .i32 (decodeL s pos).1)]) (σ.set b (.iter s (pos+(decodeL s pos).2)))) (K (.tuple [.d (.bool false)]) σ)) :
  ∃pv σ1 v w1,K pv σ1∧(Instr.next (.pointer (some ⟨e.β b,0,none⟩)) true ty).run G.P w=.ok v w1∧Stepped e σ w e σ1 w1∧SRel G e σ1 w1∧VRel G e σ1 w1 pv v:=by
 have hbl:b<σ.bx.length:=(Tg.1 hb).1
 have hit:w.heap[e.β b]?=some (.stringIter ⟨s.toArray⟩ pos):=hS.box b _ hb
 by_cases hp:pos<s.length
 ·have:decide (pos<s.length)=true:=by simp [hp]
  rw [this] at h
  refine ⟨_,_,_,_,h,Lib.run_next_any_at w (e.β b) ⟨s.toArray⟩ pos ty hit hp,?_⟩
  have hsl:(σ.set b (.iter s (pos+(decodeL s pos).2))).bx.length=σ.bx.length:=by simp [St.set]
  have hoth:∀k,k≠e.β b→(w.iterAt (e.β b) ⟨s.toArray⟩ (pos+(Utf8.decode ⟨s.toArray⟩ pos).2)).heap[k]?=w.heap[k]?:=fun k hk=>Lib.iterAt_other w (e.β b) k _ _ hk
  have hst:Stepped e σ w e (σ.set b (.iter s (pos+(decodeL s pos).2))) (w.iterAt (e.β b) ⟨s.toArray⟩ (pos+(Utf8.decode ⟨s.toArray⟩ pos).2)):={
   len:=by rw [hsl];exact Tp _
   beta:=fun _ _=>rfl
   X:=rfl
   pres:=fun k o u hk ho=>⟨⟨ho.1,fun j hj=>ho.2.1 j (by rw [hsl] at hj;exact hj),ho.2.2⟩,by simpa [World.cell?,hoth k (fun h=>ho.2.1 b hbl h.symm)] using hk⟩
   blocks:=fun k hk hnb _=>hoth k (fun h=>hnb b hbl h.symm)
   size:=by rw [Lib.iterAt_size];exact Tp _
   os:=rfl
   tape:=rfl
   output:=rfl
   fresh:=fun i h1 h2=>by rw [hsl] at h2;omega
   ftok:=fun t ht p hp=>.inr ⟨t,ht,p,hp,rfl⟩
   nx:=Tp _
   toks:=fun _ _ ht=>⟨ht,rfl⟩
   own:=fun t' hn ht p hp hlt=>hoth _ (fun h=>(hS.own t' ht p hp).2.1 b hbl h.symm) }
  refine ⟨hst,?_,?_⟩
  ·exact {
    inj:=fun i j hi hj=>hS.inj i j (by rw [hsl] at hi;exact hi) (by rw [hsl] at hj;exact hj)
    box:=fun k y hy=>by
     by_cases hkb:k=b
     ·subst hkb
      have:y=.iter s (pos+(decodeL s pos).2):=by
       exact m109
      subst this
      exact Lib.iterAt_heap w (e.β k) _ pos _ hit
     ·exact m84
    low:=fun i hi=>hS.low i (by rw [hsl] at hi;exact hi)
    tkn:=hS.tkn
    own:=fun t' ht p hp=>by
     exact m104
    dis:=hS.dis
    xown:=hS.xown
    xlt:=fun k o hx=>by rw [Lib.iterAt_size];exact hS.xlt k o hx
    glob:=fun k hk=>(hoth k (fun h=>by have:=hS.low b hbl;omega)).trans (hS.glob k hk)
    big:=by rw [Lib.iterAt_size];exact hS.big }
  ·refine .tuple _ _ rfl (fun i x u hx hu=>?_)
   match i with
   | 0=>cases hx;cases hu;exact .mkbool
   | 1=>cases hx;cases hu;exact .mkint
   | 2=>cases hx;cases hu;exact .mkint
   | n+3=>cases hx
 ·have:decide (pos<s.length)=false:=by simp [hp]
  rw [this] at h
  refine ⟨_,_,_,_,h,Lib.run_next_end_at w (e.β b) ⟨s.toArray⟩ pos ty hit hp,.refl _ _ _,hS,.tuple _ _ rfl (fun i x u hx hu=>?_)⟩
  match i with
  | 0=>cases hx;cases hu;exact .mkbool
  | n+1=>cases hx
structure Flat (ok:Nat→Nat→Prop) (w:World) (rows:List (List D)) (sz:Nat) (xs:List Value):Prop where
 len:xs.length=rows.length * sz
 wid:∀r∈rows,r.length=sz
 rel:∀(a b:Nat) (y:D) (u:Value),b<sz→(rows[a]?.bind (·[b]?))=some y→xs[a * sz+b]?=some u→DRel ok w y u
theorem Flat.mono {ok ok':Nat→Nat→Prop} {w w':World} {rows:List (List D)} {sz:Nat} {xs:List Value} (h:Flat ok w rows sz xs) (hp:∀(y:D) (u:Value),DRel ok w y u→DRel ok' w' y u):Flat ok' w' rows sz xs :=
 ⟨h.len,h.wid,fun a b y u hb hy hu=>hp y u (h.rel a b y u hb hy hu)⟩
theorem Flat.nil (ok:Nat→Nat→Prop) (w:World) (sz:Nat):Flat ok w [] sz []:=⟨by simp,fun r h=>(by cases h),fun a b y u _ hy=>by simp at hy⟩
theorem Flat.append {ok:Nat→Nat→Prop} {w:World} {r1 r2:List (List D)} {sz:Nat} {x1 x2:List Value} (h1:Flat ok w r1 sz x1) (h2:Flat ok w r2 sz x2):Flat ok w (r1++r2) sz (x1++x2):=by
 refine ⟨by rw [Ta,Ta,h1.len,h2.len,Sh],fun r hr=>?_,fun a b y u hb hy hu=>?_⟩
 ·rcases TU.1 hr with h | h
  ·exact h1.wid r h
  ·exact h2.wid r h
 ·by_cases ha:a<r1.length
  ·rw [TG ha] at hy
   have hlt:a * sz+b<x1.length:=by
    rw [h1.len]
    calc a * sz+b<a * sz+sz:=by omega
     _=(a+1) * sz:=by rw [Sh,Nat.one_mul]
     _≤r1.length * sz:=TW _ ha
   rw [TG hlt] at hu
   exact h1.rel a b y u hb hy hu
  ·have ha':r1.length≤a:=by omega
   rw [TZ ha'] at hy
   have hge:x1.length≤a * sz+b:=by
    rw [h1.len]
    exact Sc (TW _ ha') (Nat.le_add_right _ _)
   rw [TZ hge,h1.len] at hu
   refine h2.rel (a - r1.length) b y u hb hy ?_
   rw [← hu]
   congr 1
   rw [Nat.sub_mul]
   have:=TW sz ha'
   omega
theorem ZyB {ok:Nat→Nat→Prop} {w:World} {rows:List (List D)} {b off cap sz:Nat} (hsz:∀r∈rows,r.length=sz) (hpos:0<sz) (h:DRel ok w (.sl rows) (.slice (some ⟨b,off,none⟩) rows.length cap)) :
  ∃xs,Flat ok w rows sz xs∧(∀(k:Nat) (u:Value),xs[k]?=some u→w.cell? ⟨b,off+k,none⟩=some u)∧(∀k,k<xs.length→ok b (off+k))∧∀u∈xs,u.oneCell'=true:=by
 cases h with
 | slz=>exact ⟨[],.nil _ _ _,fun k u h=>by simp at h,fun k h=>by simp at h,fun u h=>by cases h⟩
 | sl rows b off cap sz' u hcap hsz' hc ho hu =>
  by_cases hr:rows=[]
  ·subst hr;exact ⟨[],.nil _ _ _,fun k u h=>by simp at h,fun k h=>by simp at h,fun u h=>by cases h⟩
  ·have hss:sz'=sz:=by
    cases rows with
    | nil=>exact absurd rfl hr
    | cons r l=>rw [← hsz' r (by simp),hsz r (by simp)]
   subst hss
   have hk:∀k,k<rows.length * sz'→k / sz'<rows.length∧k % sz'<sz'∧k / sz' * sz'+k % sz'=k:=fun k hk =>
    ⟨(Nat.div_lt_iff_lt_mul hpos).2 hk,Nat.mod_lt _ hpos,by rw [Nat.mul_comm];exact Nat.div_add_mod k sz'⟩
   have hrel:∀k,k<rows.length * sz'→∃y,(rows[k / sz']?.bind (·[k % sz']?))=some y∧DRel ok w y (u (k / sz') (k % sz')):=fun k h=>by
    obtain ⟨h1,h2,h3⟩:=hk k h
    have h4:(rows[k / sz']).length=sz':=hsz' _ (TE _)
    have h5:(rows[k / sz']?.bind (·[k % sz']?))=some ((rows[k / sz'])[k % sz']):=by
     rw [Th h1];simp only [Option.bind_some];rw [Th (by omega)]
    exact ⟨_,h5,hu _ _ _ h5⟩
   refine ⟨(List.range (rows.length * sz')).map fun k=>u (k / sz') (k % sz'),⟨by simp,hsz',fun a b' y v hb hy hv=>?_⟩,fun k v hv=>?_,fun k h=>?_,fun v hv=>?_⟩
   ·rw [TH] at hv
    have ha:a<rows.length:=by
     rcases Nat.lt_or_ge a rows.length with h | h
     ·exact h
     ·rw [Si h] at hy;cases hy
    have hlt:a * sz'+b'<rows.length * sz':=by
     calc a * sz'+b'<a * sz'+sz':=by omega
      _=(a+1) * sz':=by rw [Sh,Nat.one_mul]
      _≤rows.length * sz':=TW _ ha
    rw [List.getElem?_range hlt] at hv
    have hd:(a * sz'+b') / sz'=a:=by rw [Nat.mul_comm,Nat.mul_add_div hpos,Nat.div_eq_of_lt hb];omega
    have hm:(a * sz'+b') % sz'=b':=by rw [Nat.mul_comm,Nat.mul_add_mod,Nat.mod_eq_of_lt hb]
    simp only [So,hd,hm] at hv
    cases hv
    exact hu a b' y hy
   ·rw [TH] at hv
    by_cases hlt:k<rows.length * sz'
    ·rw [List.getElem?_range hlt] at hv
     cases hv
     obtain ⟨h1,h2,h3⟩:=hk k hlt
     have:=hc _ _ h1 h2
     rwa [Sg,h3] at this
    ·rw [Si (by simpa using hlt)] at hv;cases hv
   ·simp only [Tf,List.length_range] at h
    obtain ⟨h1,h2,h3⟩:=hk k h
    have:=ho _ _ h1 h2
    rwa [Sg,h3] at this
   ·obtain ⟨k,hk',rfl⟩:=Sx.1 hv
    obtain ⟨y,_,hy⟩:=hrel k (List.mem_range.1 hk')
    exact hy.one
theorem Flat.to_sl {ok:Nat→Nat→Prop} {w:World} {rows:List (List D)} {sz:Nat} {xs:List Value} (h:Flat ok w rows sz xs) (b off cap:Nat) (hcap:rows.length≤cap)
  (hc:∀(k:Nat) (u:Value),xs[k]?=some u→w.cell? ⟨b,off+k,none⟩=some u) (ho:∀k,k<xs.length→ok b (off+k)):DRel ok w (.sl rows) (.slice (some ⟨b,off,none⟩) rows.length cap):=by
 have hlt:∀i j,i<rows.length→j<sz→i * sz+j<xs.length:=fun i j hi hj=>by
  rw [h.len]
  calc i * sz+j<i * sz+sz:=by omega
   _=(i+1) * sz:=by rw [Sh,Nat.one_mul]
   _≤rows.length * sz:=TW _ hi
 refine .sl rows b off cap sz (fun i j=>xs.getD (i * sz+j) Go.undef) hcap h.wid (fun i j hi hj=>?_) (fun i j hi hj=>?_) (fun i j x hx=>?_)
 ·have h1:=hlt i j hi hj
  rw [Sg]
  exact hc _ _ (by simp [List.getD,Th h1])
 ·rw [Sg];exact ho _ (hlt i j hi hj)
 ·have hi:i<rows.length:=by
   rcases Nat.lt_or_ge i rows.length with h | h
   ·exact h
   ·rw [Si h] at hx;cases hx
  have hj:j<sz:=by
   rw [Th hi] at hx
   have:=(Tg.1 hx).1
   rwa [h.wid _ (TE _)] at this
  exact h.rel i j x _ hj hx (by simp [List.getD,Th (hlt i j hi hj)])
theorem Zo8 (hT:TabOK T G.P) {tx el:Nat} {px:PV} {vx:Value} {more:List (List D)} {sz:Nat} (hm:VK T tx el px=some more) (hx:VRel G e σ w px vx) (hsz:∀r∈more,r.length=sz) (hpos:0<sz)
  (hel:sz=(T.get el).size):∃news,Src G.P sz tx vx more.length news w∧Flat (okc e σ) w more sz news:=by
 unfold VK at hm
 split at hm
 ·rename_i hk
  obtain ⟨i,d,z,hi,hd,hs,hby,hkd,hz,hz2,_⟩:=(hT.get (t:=tx) (by rw [hk];simp)).ex
  rw [hk] at hkd;cases hkd
  split at hm
  ·rename_i hk2
   split at hm
   ·rename_i s
    cases hm
    have hv:=hx.dstr
    subst hv
    have hlen:(s.map fun b:UInt8=>[D.int .u8 b.toNat]).length=(⟨s.toArray⟩:ByteArray).size:=by simp;rfl
    have hflat:∀sz',sz'=1→Flat (okc e σ) w (s.map fun b:UInt8=>[D.int .u8 b.toNat]) sz' (byteCells ⟨s.toArray⟩):=by
     rintro _ rfl
     refine ⟨by rw [byteCells_length,hlen,Nat.mul_one],fun r hr=>?_,fun a b y u hb hy hu=>?_⟩
     ·obtain ⟨_,_,rfl⟩:=Sx.1 hr;rfl
     ·have hb0:b=0:=by omega
      subst hb0
      simp only [Nat.mul_one,SC,byteCells,TH] at hu
      rw [TH] at hy
      cases hq:s[a]? with
      | none=>rw [hq] at hy;cases hy
      | some q =>
       rw [hq] at hy
       simp at hy hu
       rw [hq] at hu
       simp at hu
       subst hy;subst hu
       exact .int _ _
    by_cases hs0:s=[]
    ·subst hs0
     refine ⟨[],⟨.inr hd,fun _=>rfl,?_,?_,by simp,fun u h=>by cases h⟩,.nil _ _ _⟩
     ·simp [Builtin.firstCells]
     ·simp [Builtin.firstCells]
    ·have h1:sz=1:=by
      cases s with
      | nil=>exact absurd rfl hs0
      | cons b l=>exact (hsz [.int .u8 b.toNat] (by simp)).symm
     subst h1
     rw [hlen]
     exact ⟨byteCells ⟨s.toArray⟩,Src.ofString w hd _,hflat 1 rfl⟩
   ·cases hm
  ·cases hm
 ·rename_i e' hk
  obtain ⟨i,d,z,hi,hd,hs,hby,hkd,hz,hz2,_⟩:=(hT.get (t:=tx) (by rw [hk];simp)).ex
  rw [hk] at hkd;cases hkd
  split at hm
  ·rename_i rows hrows
   cases hm
   have hD:=VN hrows hx
   generalize hg:D.sl more=dd at hD
   cases hD with
   | slnil=>cases hg;exact ⟨[],Src.ofNil w hd 0,.nil _ _ _⟩
   | slz ad=>cases hg;exact ⟨[],Src.ofSlice w hd ad 0 0 [] (by simp) (fun j u hj=>by cases hj) (fun u h=>by cases h),.nil _ _ _⟩
   | sl rows b off cap sz' u hcap hsz' hc ho hu =>
    cases hg
    obtain ⟨xs,h1,h2,h3,h4⟩:=ZyB hsz hpos (DRel.sl more b off cap sz' u hcap hsz' hc ho hu)
    exact ⟨xs,Src.ofSlice w hd ⟨b,off,none⟩ more.length cap xs h1.len (fun j u hj=>by rw [Z4];exact h2 j u hj) h4,h1⟩
   | _=>cases hg
  ·cases hm
 ·cases hm
theorem Yz (t:Nat):∀(l:List Nat),Zhd t l=true↔t∈l
 | []=>by simp [Zhd]
 | x::l=>by
  unfold Zhd
  split
  ·rename_i h;have:=Tm h;simp [this]
  ·rename_i h
   rw [Yz t l]
   have:x≠t:=fun h'=>by subst h';simp at h
   simp [Ne.symm this]
theorem WY (t x:Nat):∀(l:List Nat),x∈J0 t l↔x∈l∧x≠t
 | []=>by simp [J0]
 | y::l=>by
  unfold J0
  split
  ·rename_i h
   have:=Tm h;subst this
   rw [WY y x l]
   constructor
   ·exact fun h=>⟨Tr _ h.1,h.2⟩
   ·rintro ⟨h1,h2⟩
    rcases Tq.1 h1 with h | h
    ·exact absurd h h2
    ·exact ⟨h,h2⟩
  ·rename_i h
   have hne:y≠t:=fun h'=>by subst h';simp at h
   rw [Tq,Tq,WY t x l]
   constructor
   ·rintro (rfl | h)
    ·exact ⟨.inl rfl,hne⟩
    ·exact ⟨.inr h.1,h.2⟩
   ·rintro ⟨rfl | h1,h2⟩
    ·exact .inl rfl
    ·exact .inr ⟨h1,h2⟩
def Env.own (e:Env) (t:Nat) (p:Option (Nat×Nat)):Env:={ e with M:=fun i=>if i=t then p else e.M i }
theorem Zd9 (hT:TabOK T G.P) (hS:SRel G e σ w) {t tx el ty:Nat} (hkt:(T.get t).kind=.slice el) (hkel:(T.get el).kind≠.other) (hpos:0<(T.get el).size)
  {rows more:List (List D)} {v vx:Value} {news:List Value} (hD:DRel (okc e σ) w (.sl rows) v)
  (hrw:∀r∈rows,r.length=(T.get el).size)
  (hO : (v = .slice none 0 0 ∧ rows = []) ∨ ∃ b off cap cs ty fz, v = .slice (some ⟨b, off, none⟩) rows.length cap ∧ G.nG ≤ b ∧ rows.length ≤ cap ∧ w.heap[b]? = some (.cells cs ty fz) ∧ (off + cap * (T.get el).size ≤ cs.size ∧ off = 0 ∧ ty = el ∧ 0 < cap) ∧
     (fz.1≤fz.2∧∀o,off+rows.length * (T.get el).size≤o→fz.1≤o→fz.2≤o)∧(∀i,i<σ.bx.length→e.β i≠b))
  (hsrc:Src G.P (T.get el).size tx vx more.length news w) (hnews:Flat (okc e σ) w more (T.get el).size news)
  (hbytes:(rows.length+more.length) * (T.get el).bytes≤2 ^ 47) (hlen:rows.length+more.length≤2 ^ 47) :
  ∃v' w1,(Builtin.append_ #[t,tx] ty #[v,vx]).run G.P w=.ok v' w1∧w1.os=w.os∧w1.tape=w.tape∧w1.output=w.output∧w.heap.size≤w1.heap.size ∧
   (∀b off u,w.cell? ⟨b,off,none⟩=some u→okc e σ b off→w1.cell? ⟨b,off,none⟩=some u∨∃a o c,v=.slice (some ⟨a,o,none⟩) rows.length c∧b=a∧o+rows.length * (T.get el).size≤off) ∧
   (∀b,b<w.heap.size→(∀a o c,v=.slice (some ⟨a,o,none⟩) rows.length c→b≠a)→w1.heap[b]?=w.heap[b]?) ∧
   ((v'=.slice none 0 0∧rows++more=[])∨∃b off cap cs ty fz,v'=.slice (some ⟨b,off,none⟩) (rows++more).length cap∧G.nG≤b∧(rows++more).length≤cap∧w1.heap[b]?=some (.cells cs ty fz)∧(off+cap * (T.get el).size≤cs.size∧off=0∧ty=el∧0<cap) ∧
    (fz.1≤fz.2∧∀o,off+rows.length * (T.get el).size≤o→fz.1≤o→fz.2≤o) ∧
    ((∃c,v=.slice (some ⟨b,off,none⟩) rows.length c)∨w.heap.size≤b) ∧
    ∃xs,Flat (okc e σ) w (rows++more) (T.get el).size xs∧∀(k:Nat) (u:Value),xs[k]?=some u→w1.cell? ⟨b,off+k,none⟩=some u):=by
 obtain ⟨ti,td,tz,hti,htd,_,_,hkd,_,_,_⟩:=(hT.get (t:=t) (by rw [hkt];simp)).ex
 rw [hkt] at hkd;cases hkd
 obtain ⟨i,d,z,hi,hd,hs,hby,hkd2,hz,hz2,hzl,_⟩:=(hT.get hkel).ex
 have hzc:z.cells.size=(T.get el).size:=by
  have:=(Ww (G:=G) (e:=e) (σ:=σ) (w:=w) hz2).1
  rw [← hzl,← this];simp
 rw [← hs] at hsrc
 have hsm:((rows.length+more.length:Nat):Int)≤9223372036854775807:=by omega
 have hby2:(rows.length+more.length) * i.bytes≤140737488355328:=by rw [hby];omega
 have grow:∀(base:Option Addr) (cap:Nat) (olds:List Value),(Builtin.firstCells i.size rows.length (.slice base rows.length cap)).run G.P w.drew=.ok olds.toArray w.drew→Flat (okc e σ) w rows (T.get el).size olds→cap<rows.length+more.length →
   ∃v' w1,(Builtin.append_ #[t,tx] ty #[.slice base rows.length cap,vx]).run G.P w=.ok v' w1∧Grows w w1 ∧
    ∃b off cap cs ty fz,v'=.slice (some ⟨b,off,none⟩) (rows++more).length cap∧G.nG≤b∧(rows++more).length≤cap∧w1.heap[b]?=some (.cells cs ty fz)∧(off+cap * (T.get el).size≤cs.size∧off=0∧ty=el∧0<cap) ∧
     (fz.1≤fz.2∧∀o,off+rows.length * (T.get el).size≤o→fz.1≤o→fz.2≤o)∧w.heap.size≤b ∧
     ∃xs,Flat (okc e σ) w (rows++more) (T.get el).size xs∧∀(k:Nat) (u:Value),xs[k]?=some u→w1.cell? ⟨b,off+k,none⟩=some u:=by
  intro base cap olds hold hflat hlt
  have hr:=run_append_grow_src w t tx ty el i z htd hi hz base rows.length cap olds hold vx more.length news hsrc hlt hsm (growslice_fits hlt hby2)
  refine ⟨_,_,hr,(Grows.drew w).trans (Grows.alloc _ _),w.heap.size,0,grownCap w (rows.length+more.length) cap el,_,el,(0,0),by rw [Ta],hS.big,by rw [Ta];exact grownCap_ge w _ _ _,heap_alloc_new w.drew _,⟨?_,rfl,rfl,by have:=grownCap_ge w (rows.length+more.length) cap el;omega⟩,⟨Tp _,fun o _ _=>T4 _⟩,Tp _,olds++news,hflat.append hnews,fun k u hk=>?_⟩
  ·have hge:=grownCap_ge w (rows.length+more.length) cap el
   simp only [Array.size_append,List.size_toArray,Ta,size_zeroCells,hzc,hflat.len,hnews.len,Sf,← Sh]
   exact TW _ (by omega)
  ·have h1:k<(olds++news).length:=(Tg.1 hk).1
   simp only [Sf,World.cell?]
   rw [show (w.drew.alloc _).heap[w.heap.size]?=_ from heap_alloc_new w.drew _]
   simp only [Option.isSome_none,To,if_false]
   rw [Array.getElem?_append_left (by simpa using h1)]
   simpa using hk
 rcases hO with ⟨rfl,rfl⟩ | ⟨b,off,cap,cs,tyb,fz,rfl,hb,hc,hh,hcs,hfz,hnb⟩
 ·by_cases hm:more.length=0
  ·have hmn:more=[]:=TQ hm
   subst hmn
   have hn0:news=[]:=TQ (by rw [hnews.len];simp)
   subst hn0
   exact ⟨_,w,run_append_nothing w t tx ty el i htd hi none 0 0 (Tp _) vx hsrc,rfl,rfl,rfl,Tp _,fun _ _ _ h _=>.inl h,fun _ _ _=>rfl,.inl ⟨rfl,rfl⟩⟩
  ·obtain ⟨v',w1,hr,hg,b,off,cap,cs,ty',fz,h1,h2,h3,h4,h5,h6,h7,h8⟩:=grow none 0 [] (run_firstCells_none w.drew i.size 0 0 0) (.nil _ _ _) (by simp;omega)
   exact ⟨v',w1,hr,hg.os,hg.tape,hg.output,hg.size,fun b' o' u hu _=>.inl ((hg.cell (VM hu)).trans hu),fun b' hb' _=>hg.old b' hb',.inr ⟨b,off,cap,cs,ty',fz,h1,h2,h3,h4,h5,h6,.inr h7,h8⟩⟩
 ·obtain ⟨olds,ho1,ho2,ho3,ho4⟩:=ZyB hrw hpos hD
  by_cases hroom:rows.length+more.length≤cap
  ·have hfit:rows.length * (T.get el).size+news.length≤cap * (T.get el).size:=by
    rw [hnews.len,← Sh];exact TW _ hroom
   have hcell:∀k,k<cs.size→(w.cell? ⟨b,k,none⟩).isSome=true:=fun k hk=>by simp [World.cell?,hh,hk]
   have hr:=run_append_room_src w t tx ty el i htd hi b off rows.length cap vx more.length news hsrc hroom (fun j hj=>hcell _ (by have:=hcs.1;rw [hs];omega)) (fun j hj=>by
    simp only [World.frozen?,hh]
    have h1:=hfz.2 (off+rows.length * i.size+j) (by rw [hs];omega)
    by_cases h2:fz.1≤off+rows.length * i.size+j
    ·have:=h1 h2
     simp;intro _;omega
    ·simp;omega)
   rw [hs] at hr
   obtain ⟨r1,r2,r3,r4⟩:=YW b news (off+rows.length * (T.get el).size) w
   obtain ⟨cs',q1,q2,q3⟩:=Xb b news (off+rows.length * (T.get el).size) w cs tyb fz hh
   refine ⟨_,_,hr,r1,r2,r3,by rw [Yr];exact Tp _,fun b' o' u hu ho=>?_,fun b' hb' hn=>r4 b' (hn b off cap rfl),.inr ⟨b,off,cap,cs',tyb,fz,by rw [Ta],hb,by rw [Ta];exact hroom,q1,⟨by rw [q2];exact hcs.1,hcs.2.1,hcs.2.2.1,hcs.2.2.2⟩,hfz,.inl ⟨cap,rfl⟩,olds++news,ho1.append hnews,fun k u hk=>?_⟩⟩
   ·by_cases hbb:b'=b
    ·subst hbb
     by_cases hoo:off+rows.length * (T.get el).size≤o'
     ·exact .inr ⟨b',off,cap,rfl,rfl,hoo⟩
     ·left
      rw [World.cell?_setCells_out b' news _ w ⟨b',o',none⟩ (fun _ _=>.inl (by show o'<_;omega))]
      exact hu
    ·left;simpa [World.cell?,r4 b' hbb] using hu
   ·by_cases hk1:k<olds.length
    ·rw [TG hk1] at hk
     rw [World.cell?_setCells_out b news _ w ⟨b,off+k,none⟩ (fun _ _=>.inl (by show off+k<_;rw [← ho1.len];omega))]
     exact ho2 k u hk
    ·rw [TZ (by omega)] at hk
     have hkn:=(Tg.1 hk).1
     have:=World.cell?_setCells_in b news (off+rows.length * (T.get el).size) w (fun j hj=>hcell _ (by have:=hcs.1;omega)) (k - olds.length) hkn
     exact m121
  ·obtain ⟨v',w1,hr,hg,b2,off2,cap2,cs2,ty2,fz2,h1,h2,h3,h4,h5,h6,h7,h8⟩:=grow (some ⟨b,off,none⟩) cap olds (run_firstCells_some w.drew i.size rows.length ⟨b,off,none⟩ rows.length cap olds (by rw [ho1.len,hs]) (fun j u hj=>by rw [Z4];exact ho2 j u hj)) ho1 (by omega)
   exact ⟨v',w1,hr,hg.os,hg.tape,hg.output,hg.size,fun b' o' u hu _=>.inl ((hg.cell (VM hu)).trans hu),fun b' hb' _=>hg.old b' hb',.inr ⟨b2,off2,cap2,cs2,ty2,fz2,h1,h2,h3,h4,h5,h6,.inr h7,h8⟩⟩
theorem UQ (hT:TabOK T G.P) (hS:SRel G e σ w) {el:Nat} (hkel:(T.get el).kind≠.other) (hpos:0<(T.get el).size)
  {rows more:List (List D)} {v v':Value} {w1:World} (hD:DRel (okc e σ) w (.sl rows) v) (tk0:List Nat) (hsub:∀x,x∈tk0→x∈σ.tk) (hrw:∀r∈rows,r.length=(T.get el).size) (hw:∀r∈more,r.length=(T.get el).size)
  (htok:∀a o c,v=.slice (some ⟨a,o,none⟩) rows.length c→∃tok,tok∈σ.tk∧tok∉tk0∧e.M tok=some (a,o+rows.length * (T.get el).size))
  (hos:w1.os=w.os) (htape:w1.tape=w.tape) (hout:w1.output=w.output) (hsize:w.heap.size≤w1.heap.size)
  (hcell:∀b off u,w.cell? ⟨b,off,none⟩=some u→okc e σ b off→w1.cell? ⟨b,off,none⟩=some u∨∃a o c,v=.slice (some ⟨a,o,none⟩) rows.length c∧b=a∧o+rows.length * (T.get el).size≤off)
  (hblk:∀b,b<w.heap.size→(∀a o c,v=.slice (some ⟨a,o,none⟩) rows.length c→b≠a)→w1.heap[b]?=w.heap[b]?)
  (hres:(v'=.slice none 0 0∧rows++more=[])∨∃b off cap cs ty fz,v'=.slice (some ⟨b,off,none⟩) (rows++more).length cap∧G.nG≤b∧(rows++more).length≤cap∧w1.heap[b]?=some (.cells cs ty fz)∧(off+cap * (T.get el).size≤cs.size∧off=0∧ty=el∧0<cap) ∧
    (fz.1≤fz.2∧∀o,off+rows.length * (T.get el).size≤o→fz.1≤o→fz.2≤o) ∧
    ((∃c,v=.slice (some ⟨b,off,none⟩) rows.length c)∨w.heap.size≤b) ∧
    ∃xs,Flat (okc e σ) w (rows++more) (T.get el).size xs∧∀(k:Nat) (u:Value),xs[k]?=some u→w1.cell? ⟨b,off+k,none⟩=some u) :
  ∃e1,Stepped e σ w e1 { σ with tk:=σ.nx::tk0,nx:=σ.nx+1 } w1∧SRel G e1 { σ with tk:=σ.nx::tk0,nx:=σ.nx+1 } w1 ∧
   VRel G e1 { σ with tk:=σ.nx::tk0,nx:=σ.nx+1 } w1 (.sl σ.nx el (rows++more)) v':=by
 obtain ⟨i,d,z,hi,hd,hs,hby,hkd2,hz,hz2,hzl,_⟩:=(hT.get hkel).ex
 have hkeep:∀b off u,w.cell? ⟨b,off,none⟩=some u→okc e σ b off→w1.cell? ⟨b,off,none⟩=some u:=fun b off u hu ho=>by
  rcases hcell b off u hu ho with h | ⟨a,o,c,hv,rfl,hle⟩
  ·exact h
  ·obtain ⟨tok,ht1,_,hmm⟩:=htok _ o c hv
   have:=ho.2.2 tok ht1 _ hmm rfl
   simp only at this
   omega
 have hbase:∀b,b<w.heap.size→(∀t,t∈σ.tk→t∉tk0→∀p,e.M t=some p→p.1≠b)→w1.heap[b]?=w.heap[b]?:=fun b hb hn=>hblk b hb fun a o c hv h=>by
  obtain ⟨tok,ht1,ht2,hmm⟩:=htok a o c hv
  exact hn tok ht1 ht2 _ hmm h.symm
 obtain ⟨p,hp,hown,hpn⟩:∃p:Option (Nat×Nat),(p=none∨∃b k,p=some (b,k)∧G.nG≤b∧(∃cs ty fz,w1.heap[b]?=some (.cells cs ty fz))∧((∃a o c,v=.slice (some ⟨a,o,none⟩) rows.length c∧a=b∧o+rows.length * (T.get el).size≤k)∨w.heap.size≤b)) ∧
   (∀e1:Env,e1.M σ.nx=p→Owned G e1 w1 σ.nx el (rows++more) v') ∧
   (∀b k,p=some (b,k)→True):=by
  rcases hres with ⟨rfl,hnil⟩ | ⟨b,off,cap,cs,tyb,fz,rfl,hb,hc,hh,hcs,hfz,hor,hxs⟩
  ·refine ⟨none,.inl rfl,fun e1 he=>.inl ⟨rfl,hnil,he⟩,fun _ _ _=>trivial⟩
  ·refine ⟨some (b,off+(rows++more).length * (T.get el).size),.inr ⟨b,_,rfl,hb,⟨cs,tyb,fz,hh⟩,?_⟩,fun e1 he=>.inr ⟨i.size,by rw [hi];rfl,by omega,fun r hr=>?_,b,off,cap,cs,tyb,fz,rfl,hb,hc,hh,by rw [hs];exact hcs,⟨hfz.1,fun o ho=>hfz.2 o (by rw [hs] at ho;rw [Ta,Sh] at ho;omega)⟩,by rw [hs];exact he⟩,fun _ _ _=>trivial⟩
   ·rcases hor with ⟨c,hv⟩ | h
    ·refine .inl ⟨b,off,c,hv,rfl,?_⟩
     rw [Ta,Sh];omega
    ·exact .inr h
   ·rw [hs]
    rcases TU.1 hr with h | h
    ·exact hrw r h
    ·exact hw r h
 have hM0:∀x,x∈tk0→(e.own σ.nx p).M x=e.M x:=fun x hx=>by
  have:=hS.tkn x (hsub x hx)
  simp only [Env.own];rw [Te (by omega)]
 have hMn:(e.own σ.nx p).M σ.nx=p:=by simp [Env.own]
 have hokc:∀b off,b<w.heap.size→okc e σ b off→okc (e.own σ.nx p) { σ with tk:=σ.nx::tk0,nx:=σ.nx+1 } b off:=fun b off hb ho=>by
  refine ⟨ho.1,ho.2.1,fun x hx q hq hqb=>?_⟩
  rcases Tq.1 hx with rfl | hx
  ·rw [hMn] at hq
   rcases hp with h | ⟨b2,k,h,_,_,hor⟩
   ·rw [h] at hq;cases hq
   ·rw [h] at hq;cases hq
    simp only at hqb
    subst hqb
    rcases hor with ⟨a,o,c,hv,rfl,hle⟩ | hge
    ·obtain ⟨tok,ht1,_,hmm⟩:=htok _ o c hv
     have:=ho.2.2 tok ht1 _ hmm rfl
     simp only at this ⊢
     omega
    ·omega
  ·rw [hM0 x hx] at hq
   exact ho.2.2 x (hsub x hx) q hq hqb
 have hst:Stepped e σ w (e.own σ.nx p) { σ with tk:=σ.nx::tk0,nx:=σ.nx+1 } w1:={
  len:=Tp _
  beta:=fun _ _=>rfl
  X:=rfl
  pres:=fun b off u hu ho=>⟨hokc b off (VM hu) ho,hkeep b off u hu ho⟩
  blocks:=fun b hb _ hn=>hbase b hb fun t ht _ q hq=>hn t ht q hq
  size:=hsize
  os:=hos
  tape:=htape
  output:=hout
  fresh:=fun i h1 h2=>by simp only at h2;omega
  ftok:=fun x hx q hq=>by
   rcases Tq.1 hx with rfl | h
   ·rw [hMn] at hq
    rcases hp with h | ⟨b2,k,h,_,_,hor⟩
    ·rw [h] at hq;cases hq
    ·rw [h] at hq;cases hq
     rcases hor with ⟨a,o,c,hv,rfl,_⟩ | hge
     ·obtain ⟨tok,ht1,_,hmm⟩:=htok _ o c hv
      exact .inr ⟨tok,ht1,_,hmm,rfl⟩
     ·exact .inl hge
   ·rw [hM0 x h] at hq
    exact .inr ⟨x,hsub x h,q,hq,rfl⟩
  nx:=by show σ.nx≤σ.nx+1;omega
  toks:=fun x hx hm=>by
   rcases Tq.1 hm with rfl | h
   ·omega
   ·exact ⟨hsub x h,hM0 x h⟩
  own:=fun x hx hm q hq hlt=>by
   rcases Tq.1 hm with rfl | h
   ·omega
   ·refine hbase _ hlt fun t ht1 ht2 r hr=>?_
    exact hS.dis t x ht1 (hsub x h) (fun h'=>ht2 (h' ▸ h)) r q hr hq }
 have hlow:∀b k,p=some (b,k)→G.nG≤b∧(∀i,i<σ.bx.length→e.β i≠b)∧(∀x,x∈tk0→∀q,e.M x=some q→q.1≠b)∧(∀off,k≤off→¬e.X b off)∧∃cs ty fz,w1.heap[b]?=some (.cells cs ty fz):=fun b k hpk=>by
  rcases hp with h | ⟨b2,k2,h,hb,hcs,hor⟩
  ·rw [h] at hpk;cases hpk
  ·rw [h] at hpk;cases hpk
   refine ⟨hb,fun j hj h'=>?_,fun x hx q hq h'=>?_,fun off ho hX=>?_,hcs⟩
   ·rcases hor with ⟨a,o,c,hv,rfl,hle⟩ | hge
    ·obtain ⟨tok,ht1,_,hmm⟩:=htok _ o c hv
     exact (hS.own tok ht1 _ hmm).2.1 j hj h'
    ·have:=hS.lt hj;omega
   ·rcases hor with ⟨a,o,c,hv,rfl,hle⟩ | hge
    ·obtain ⟨tok,ht1,ht2,hmm⟩:=htok _ o c hv
     exact hS.dis tok x ht1 (hsub x hx) (fun h2=>ht2 (h2 ▸ hx)) _ q hmm hq h'.symm
    ·obtain ⟨_,_,cs,tyy,fz,hh⟩:=hS.own x (hsub x hx) q hq
     have:=(Tn.1 hh).1;omega
   ·rcases hor with ⟨a,o,c,hv,rfl,hle⟩ | hge
    ·obtain ⟨tok,ht1,_,hmm⟩:=htok _ o c hv
     exact hS.xown tok ht1 _ hmm off (by simp only;omega) hX
    ·have:=hS.xlt _ _ hX;omega
 refine ⟨e.own σ.nx p,hst,?_,?_⟩
 ·exact {
   inj:=hS.inj
   box:=fun k y hy=>by
    have hk:=(Tg.1 hy).1
    exact (hS.box k y hy).step hst (hbase _ (hS.lt hk) fun t ht _ q hq h=>(hS.own t ht q hq).2.1 k hk h.symm)
   low:=hS.low
   tkn:=fun x hx=>by
    rcases Tq.1 hx with rfl | h
    ·show σ.nx<σ.nx+1;omega
    ·have:=hS.tkn x (hsub x h);show x<σ.nx+1;omega
   own:=fun x hx q hq=>by
    rcases Tq.1 hx with rfl | h
    ·rw [hMn] at hq
     obtain ⟨h1,h2,_,_,h3⟩:=hlow q.1 q.2 hq
     exact ⟨h1,h2,h3⟩
    ·rw [hM0 x h] at hq
     obtain ⟨h1,h2,cs,tyy,fz,hh⟩:=hS.own x (hsub x h) q hq
     refine ⟨h1,h2,cs,tyy,fz,(hbase _ (Tn.1 hh).1 fun t ht1 ht2 r hr=>?_).trans hh⟩
     exact hS.dis t x ht1 (hsub x h) (fun h'=>ht2 (h' ▸ h)) r q hr hq
   dis:=fun x y hx hy hxy q r hq hr=>by
    rcases Tq.1 hx with rfl | h1 <;> rcases Tq.1 hy with rfl | h2
    ·exact absurd rfl hxy
    ·rw [hMn] at hq;rw [hM0 y h2] at hr
     exact fun h=>(hlow q.1 q.2 hq).2.2.1 y h2 r hr h.symm
    ·rw [hMn] at hr;rw [hM0 x h1] at hq
     exact fun h=>(hlow r.1 r.2 hr).2.2.1 x h1 q hq h
    ·rw [hM0 x h1] at hq;rw [hM0 y h2] at hr
     exact hS.dis x y (hsub x h1) (hsub y h2) hxy q r hq hr
   xlt:=fun b off hX=>TB (hS.xlt b off hX) hsize
   xown:=fun x hx q hq off ho=>by
    rcases Tq.1 hx with rfl | h
    ·rw [hMn] at hq
     exact (hlow q.1 q.2 hq).2.2.2.1 off ho
    ·rw [hM0 x h] at hq
     exact hS.xown x (hsub x h) q hq off ho
   glob:=fun b hb=>(hbase b (TB hb hS.big) fun t ht _ q hq h=>by have:=(hS.own t ht q hq).1;omega).trans (hS.glob b hb)
   big:=Sc hS.big hsize }
 ·refine .sl _ _ _ _ (by show σ.nx<σ.nx+1;omega) ?_ (fun _=>hown _ hMn)
  rcases hres with ⟨rfl,hnil⟩ | ⟨b,off,cap,cs,tyb,fz,rfl,hb,hc,hh,hcs,hfz,hor,xs,hxs1,hxs2⟩
  ·rw [hnil];exact .slnil
  ·have hflat:Flat (okc (e.own σ.nx p) { σ with tk:=σ.nx::tk0,nx:=σ.nx+1 }) w1 (rows++more) (T.get el).size xs:=hxs1.mono fun y u h=>h.later hst.toLater
   refine hflat.to_sl b off cap hc hxs2 fun k hk=>?_
   have hOwn:=hown (e.own σ.nx p) hMn
   rcases hOwn with ⟨h1,_⟩ | ⟨sz,hq1,hq2,hq3,b',off',cap',cs',ty',fz',h1,_,_,_,_,_,hm1⟩
   ·cases h1
   ·cases h1
    rw [hMn] at hm1
    rw [hi] at hq1
    simp only [So,Option.some.injEq] at hq1
    subst hq1
    obtain ⟨g1,g2,g3,g4,g5⟩:=hlow _ _ hm1
    rw [hxs1.len] at hk
    refine ⟨fun hX=>?_,g2,fun x hx q hq hqb=>?_⟩
    ·rcases hor with ⟨c,hv⟩ | hge
     ·obtain ⟨tok,ht1,_,hmm⟩:=htok _ off c hv
      by_cases hkk:k<rows.length * (T.get el).size
      ·subst hv
       obtain ⟨olds,ho1,ho2,ho3,ho4⟩:=ZyB hrw hpos hD
       exact (ho3 k (by rw [ho1.len];exact hkk)).1 hX
      ·exact hS.xown tok ht1 _ hmm (off+k) (by simp only;omega) hX
     ·have:=hS.xlt _ _ hX;omega
    ·rcases Tq.1 hx with rfl | h
     ·rw [hMn,hm1] at hq;cases hq
      simp only
      rw [hs];omega
     ·rw [hM0 x h] at hq
      exact absurd hqb (g3 x h q hq)
theorem Jv (hT:TabOK T G.P) (hS:SRel G e σ w) {el:Nat} (hkel:(T.get el).kind≠.other) {rows:List (List D)} {v:Value} (tk0:List Nat)
  (hO:(v=.slice none 0 0∧rows=[])∨∃tok,tok∈σ.tk∧tok∉tk0∧Owned G e w tok el rows v) :
  ((v = .slice none 0 0 ∧ rows = []) ∨ ∃ b off cap cs ty fz, v = .slice (some ⟨b, off, none⟩) rows.length cap ∧ G.nG ≤ b ∧ rows.length ≤ cap ∧ w.heap[b]? = some (.cells cs ty fz) ∧ (off + cap * (T.get el).size ≤ cs.size ∧ off = 0 ∧ ty = el ∧ 0 < cap) ∧
     (fz.1≤fz.2∧∀o,off+rows.length * (T.get el).size≤o→fz.1≤o→fz.2≤o)∧(∀i,i<σ.bx.length→e.β i≠b))∧(∀r∈rows,r.length=(T.get el).size) ∧
     (∀a o c,v=.slice (some ⟨a,o,none⟩) rows.length c→∃tok,tok∈σ.tk∧tok∉tk0∧e.M tok=some (a,o+rows.length * (T.get el).size)):=by
 obtain ⟨i,d,z,hi,hd,hs,hby,hkd2,hz,hz2,hzl,_⟩:=(hT.get hkel).ex
 rcases hO with ⟨rfl,rfl⟩ | ⟨tok,ht1,ht2,⟨rfl,rfl,_⟩ | ⟨sz,h1,h2,h3,b,off,cap,cs,tyb,fz,rfl,hb,hc,hh,hcs,hfz,hmm⟩⟩
 ·exact ⟨.inl ⟨rfl,rfl⟩,fun r h=>(by cases h),fun a o c h=>by simp at h⟩
 ·exact ⟨.inl ⟨rfl,rfl⟩,fun r h=>(by cases h),fun a o c h=>by simp at h⟩
 ·rw [hi] at h1
  simp only [So,Option.some.injEq] at h1
  subst h1
  rw [hs] at h3 hcs hfz hmm
  exact ⟨.inr ⟨b,off,cap,cs,tyb,fz,rfl,hb,hc,hh,hcs,hfz,(hS.own tok ht1 _ hmm).2.1⟩,h3,fun a o c hv=>by cases hv;exact ⟨tok,ht1,ht2,hmm⟩⟩
theorem Zea (hT:TabOK T G.P) (hS:SRel G e σ w) {t tx el ty:Nat} (hkt:(T.get t).kind=.slice el) (hkel:(T.get el).kind≠.other) (hpos:0<(T.get el).size)
  {rows more:List (List D)} {v vx:Value} {px:PV} (hD:DRel (okc e σ) w (.sl rows) v) (tk0:List Nat) (hsub:∀x,x∈tk0→x∈σ.tk)
  (hO:(v=.slice none 0 0∧rows=[])∨∃tok,tok∈σ.tk∧tok∉tk0∧Owned G e w tok el rows v)
  (hm:VK T tx el px=some more) (hx:VRel G e σ w px vx) (hw:∀r∈more,r.length=(T.get el).size)
  (hbytes:(rows.length+more.length) * (T.get el).bytes≤2 ^ 47) (hlen:rows.length+more.length≤2 ^ 47) :
  ∃v' w1 e1,(Builtin.append_ #[t,tx] ty #[v,vx]).run G.P w=.ok v' w1∧Stepped e σ w e1 { σ with tk:=σ.nx::tk0,nx:=σ.nx+1 } w1∧SRel G e1 { σ with tk:=σ.nx::tk0,nx:=σ.nx+1 } w1 ∧
   VRel G e1 { σ with tk:=σ.nx::tk0,nx:=σ.nx+1 } w1 (.sl σ.nx el (rows++more)) v':=by
 obtain ⟨i,d,z,hi,hd,hs,hby,hkd2,hz,hz2,hzl,_⟩:=(hT.get hkel).ex
 obtain ⟨news,hsrc,hnews⟩:=Zo8 hT hm hx hw hpos rfl
 obtain ⟨hO3,hrw,htok⟩:=Jv hT hS hkel tk0 hO
 obtain ⟨v',w1,hrun,hos,htape,hout,hsize,hcell,hblk,hres⟩:=Zd9 (ty:=ty) hT hS hkt hkel hpos hD hrw hO3 hsrc hnews hbytes hlen
 obtain ⟨e1,h1,h2,h3⟩:=UQ hT hS hkel hpos hD tk0 hsub hrw hw htok hos htape hout hsize hcell hblk hres
 exact ⟨v',w1,e1,hrun,h1,h2,h3⟩
theorem J2 {ok:Nat→Nat→Prop}:∀{l:List PV} {r:List D},Zno l=some r→r.length=l.length∧∀(i:Nat) (x:PV) (y:D),l[i]?=some x→r[i]?=some y→toD x=some y
 | [],r,h=>by cases h;exact ⟨rfl,fun i x y hx=>by simp at hx⟩
 | v::l,r,h=>by
  simp only [Zno] at h
  split at h
  ·rename_i d hd
   split at h
   ·rename_i r' hr
    cases h
    obtain ⟨h1,h2⟩:=J2 (ok:=ok) hr
    refine ⟨by simp [h1],fun i x y hx hy=>?_⟩
    cases i with
    | zero=>simp at hx hy;subst hx;subst hy;exact hd
    | succ i=>exact h2 i x y (by simpa using hx) (by simpa using hy)
   ·cases h
  ·cases h
theorem ZfV {ρ:Operand→PV} {ρ':Operand→Value} (hρ:∀x,VRel G e σ w (ρ x) (ρ' x)) {sz:Nat} (hpos:0<sz) :
  ∀(ps:List (Nat×Operand)) (rows rows':List (List D)) (vs:Array Value),Flat (okc e σ) w rows sz vs.toList→(∀u∈vs,u.oneCell'=true)→Wk sz ρ ps rows=some rows' →
   ∃vs':Array Value,Instr.fill (fun i=>some (i * sz,sz)) vs (ps.map fun p=>(p.1,ρ' p.2))=some vs'∧Flat (okc e σ) w rows' sz vs'.toList∧rows'.length=rows.length∧(∀u∈vs',u.oneCell'=true)
 | [],rows,rows',vs,hf,h1,h=>by cases h;exact ⟨vs,rfl,hf,rfl,h1⟩
 | (i,x)::ps,rows,rows',vs,hf,h1,h=>by
  simp only [Wk] at h
  split at h
  ·rename_i r hr
   split at h
   ·rename_i hlen hlt
    have e1:=Tm hlen
    have e2:=Tb hlt
    unfold Zhl at hr
    split at hr
    ·rename_i l hl
     obtain ⟨hc1,hc2⟩:=Vm (hρ x) hl
     obtain ⟨hd1,hd2⟩:=J2 (ok:=okc e σ) hr
     have hvs:vs.size=rows.length * sz:=by have:=hf.len;simpa using this
     have hsz:(ρ' x).cells.size=sz:=by rw [hc1,← hd1,e1]
     have hin:i * sz+sz≤rows.length * sz:=by
      calc i * sz+sz=(i+1) * sz:=by rw [Sh,Nat.one_mul]
       _≤rows.length * sz:=TW _ e2
     simp only [TA,Instr.fill]
     rw [Te (by rw [hsz,hvs];simp;omega)]
     rw [Zk5]
     have hget:∀k,((((ρ' x).cells.toList.zipIdx 0).foldl (fun cs (p:Value×Nat)=>cs.setIfInBounds (i * sz+p.2) p.1) vs))[k]?=if i * sz≤k∧k<i * sz+sz then (ρ' x).cells[k - i * sz]? else vs[k]?:=fun k=>by
      rw [Zcj]
      simp only [SC,Sk,hsz,Tu]
      by_cases hk:i * sz≤k∧k<i * sz+sz
      ·rw [Ti hk,Ti ⟨hk.1,hk.2,by omega⟩]
      ·rw [Te hk,Te (by omega)]
     have hsize:((((ρ' x).cells.toList.zipIdx 0).foldl (fun cs (p:Value×Nat)=>cs.setIfInBounds (i * sz+p.2) p.1) vs)).size=vs.size:=Zbp vs (i * sz) (ρ' x).cells.toList 0 vs
     generalize ((((ρ' x).cells.toList.zipIdx 0).foldl (fun cs (p:Value×Nat)=>cs.setIfInBounds (i * sz+p.2) p.1) vs))=vs2 at hget hsize ⊢
     have hF2:Flat (okc e σ) w (rows.set i r) sz vs2.toList:=by
      refine ⟨by rw [Sk,hsize,hvs,Sp],fun r' hr'=>?_,fun a b y u hb hy hu=>?_⟩
      ·rcases List.mem_or_eq_of_mem_set hr' with h' | rfl
       ·exact hf.wid r' h'
       ·exact e1
      ·rw [Tu,hget] at hu
       by_cases hai:a=i
       ·subst hai
        rw [Ti ⟨by omega,by omega⟩,show a * sz+b - a * sz=b by omega] at hu
        rw [List.getElem?_set_self (by omega)] at hy
        simp only [Option.bind_some] at hy
        have hbl:b<l.length:=by omega
        have:=hd2 b l[b] y (Th hbl) hy
        exact VN this (hc2 b l[b] u (Th hbl) hu).1
       ·rw [List.getElem?_set_ne (Ne.symm hai)] at hy
        have hne:¬(i * sz≤a * sz+b∧a * sz+b<i * sz+sz):=fun hh=>by
         rcases Nat.lt_or_gt_of_ne hai with h' | h'
         ·have:(a+1) * sz≤i * sz:=TW _ h'
          rw [Sh,Nat.one_mul] at this;omega
         ·have:(i+1) * sz≤a * sz:=TW _ h'
          rw [Sh,Nat.one_mul] at this;omega
        rw [Te hne] at hu
        exact hf.rel a b y u hb hy (by rw [Tu];exact hu)
     have hone2:∀u∈vs2,u.oneCell'=true:=by
      intro u hu
      obtain ⟨k,hk,rfl⟩:=Array.getElem_of_mem hu
      have h3:=hget k
      rw [Tx hk] at h3
      by_cases hk2:i * sz≤k∧k<i * sz+sz
      ·rw [Ti hk2] at h3
       have hbl:k - i * sz<l.length:=by omega
       exact (hc2 (k - i * sz) l[k - i * sz] _ (Th hbl) h3.symm).2
      ·rw [Te hk2] at h3
       exact h1 _ (T7 h3.symm)
     obtain ⟨vs',q1,q2,q3,q4⟩:=ZfV hρ hpos ps (rows.set i r) rows' vs2 hF2 hone2 h
     exact ⟨vs',q1,q2,by rw [q3,Sp],q4⟩
    ·cases hr
   ·cases h
  ·cases h
theorem Jc (hT:TabOK T G.P) {ρ:Operand→PV} {ρ':Operand→Value} (hρ:∀x,VRel G e σ w (ρ x) (ρ' x)) {t n el:Nat} {ps:Array (Nat×Operand)} {zero:List D} {rows:List (List D)}
  (hkt:(T.get t).kind=.slice el) (hkel:(T.get el).kind≠.other) (hzero:Zno (T.get el).zero=some zero) (hpos:1≤zero.length) (hbig:n * zero.length≤16777216) (hrows:Zch zero ρ n ps.toList=some rows) :
  ∃vs',(Instr.buildSlice t n (ps.map fun p=>(p.1,ρ' p.2))).run G.P w=.ok (.slice (some ⟨w.heap.size,0,none⟩) n n) (w.alloc (.cells vs' el))∧Flat (okc e σ) w rows zero.length vs'.toList∧rows.length=n∧zero.length=(T.get el).size:=by
 obtain ⟨ti,td,tz,hti,htd,_,_,hkd,_,_,_⟩:=(hT.get (t:=t) (by rw [hkt];simp)).ex
 rw [hkt] at hkd;cases hkd
 obtain ⟨i,d,z,hi,hd,hs,hby,hkd2,hz,hz2,hzl,_⟩:=(hT.get hkel).ex
 obtain ⟨hd1,hd2⟩:=J2 (ok:=okc e σ) hzero
 have hisz:i.size=zero.length:=by rw [hs,← hzl,hd1]
 obtain ⟨hz3,hz4⟩:=Ww (G:=G) (e:=e) (σ:=σ) (w:=w) hz2
 have hzc:z.cells.size=zero.length:=by rw [hd1,← hz3];simp
 have hsz:0<zero.length:=hpos
 have h0:Flat (okc e σ) w (List.replicate n zero) zero.length ((Array.range (n * zero.length)).map (fun k=>z.cells[k % z.cells.size]!)).toList:=by
  exact m26
 have h01:∀u∈(Array.range (n * zero.length)).map (fun k=>z.cells[k % z.cells.size]!),u.oneCell'=true:=fun u hu=>by
  obtain ⟨k,hk,rfl⟩:=Array.mem_map.1 hu
  have hm:k % z.cells.size<z.cells.size:=Nat.mod_lt _ (by omega)
  rw [getElem!_pos z.cells _ hm]
  have hbl:k % z.cells.size<(T.get el).zero.length:=by omega
  exact (hz4 _ _ _ (Th hbl) (by rw [Tu,Tx hm])).2
 obtain ⟨vs',q1,q2,q3,q4⟩:=ZfV hρ hsz ps.toList _ rows _ h0 h01 hrows
 rw [List.length_replicate] at q3
 have hrun:(Instr.buildSlice t n (ps.map fun p=>(p.1,ρ' p.2))).run G.P w=.ok (.slice (some ⟨w.heap.size,0,none⟩) n n) (w.alloc (.cells vs' el)):=by
  unfold Instr.buildSlice
  simp only [Sem.run_bind,Za htd,Result.andThen,Zp hi,hisz]
  rw [Te (by omega)]
  have hps:(ps.map fun p=>(p.1,ρ' p.2)).toList=ps.toList.map fun p=>(p.1,ρ' p.2):=by simp
  split
  ·rename_i h0'
   have hsame:(Array.range (n * zero.length)).map (fun k=>(#[]:Array Value)[k % (#[]:Array Value).size]!)=(Array.range (n * zero.length)).map (fun k=>z.cells[k % z.cells.size]!):=by
    rw [h0'];simp
   simp only [Sem.run_bind,Sem.run_pure,Result.andThen]
   rw [hsame,hps,q1]
   exact m91
  ·simp only [Sem.run_bind,Sem.run_pure,Result.andThen,zeroValue,Z3 hi,hz]
   rw [hps,q1]
   exact m91
 exact ⟨vs',hrun,q2,q3,by rw [← hisz,hs]⟩
theorem ZbS (hT:TabOK T G.P) (hS:SRel G e σ w) {ρ:Operand→PV} {ρ':Operand→Value} (hρ:∀x,VRel G e σ w (ρ x) (ρ' x)) {t n el:Nat} {ps:Array (Nat×Operand)} {zero:List D} {rows:List (List D)}
  (hkt:(T.get t).kind=.slice el) (hkel:(T.get el).kind≠.other) (hzero:Zno (T.get el).zero=some zero) (hpos:1≤zero.length) (hbig:n * zero.length≤16777216) (hrows:Zch zero ρ n ps.toList=some rows) :
  ∃v w1,(Instr.buildSlice t n (ps.map fun p=>(p.1,ρ' p.2))).run G.P w=.ok v w1∧Grows w w1∧DRel (okc e σ) w1 (.sl rows) v:=by
 obtain ⟨vs',hrun,q2,hlen,_⟩:=Jc (ρ':=ρ') hT hρ hkt hkel hzero hpos hbig hrows
 refine ⟨_,_,hrun,Grows.alloc w _,?_⟩
 have hg:=Grows.alloc w (.cells vs' el)
 have hst:=hg.stepped e σ
 have hflat:Flat (okc e σ) (w.alloc (.cells vs' el)) rows zero.length vs'.toList:=q2.mono fun y u h=>h.later hst.toLater
 have:=hflat.to_sl w.heap.size 0 n (by omega) (fun k u hk=>by
  simp only [World.cell?,Sf]
  rw [heap_alloc_new w (.cells vs' el)]
  simpa using hk) (fun k hk=>⟨fun hX=>by have:=hS.xlt _ _ hX;omega,fun j hj h=>by have:=hS.lt hj;omega,fun x hx q hq hqb=>by
   obtain ⟨_,_,cs,tyy,fz,hh⟩:=hS.own x hx q hq
   have:=(Tn.1 hh).1
   omega⟩)
 rwa [hlen] at this
theorem Zcm (hT:TabOK T G.P) (hS:SRel G e σ w) {t n el:Nat} {zero:List D}
  (hkt:(T.get t).kind=.slice el) (hkel:(T.get el).kind≠.other) (hzero:Zno (T.get el).zero=some zero) (hpos:1≤zero.length) (hbig:n * zero.length≤16777216) (hbb:n * (T.get el).bytes≤16777216) :
  ∃v w1,(Instr.makeSlice t (.int .i64 n) (.int .i64 n)).run G.P w=.ok v w1∧Grows w w1∧DRel (okc e σ) w1 (.sl (List.replicate n zero)) v:=by
 obtain ⟨ti,td,tz,hti,htd,_,_,hkd,_,_,_⟩:=(hT.get (t:=t) (by rw [hkt];simp)).ex
 rw [hkt] at hkd;cases hkd
 obtain ⟨i,d,z,hi,hd,hs,hby,hkd2,hz,hz2,hzl,_⟩:=(hT.get hkel).ex
 obtain ⟨hd1,hd2⟩:=J2 (ok:=okc e σ) hzero
 have hisz:i.size=zero.length:=by rw [hs,← hzl,hd1]
 obtain ⟨hz3,hz4⟩:=Ww (G:=G) (e:=e) (σ:=σ) (w:=w) hz2
 have hzc:z.cells.size=zero.length:=by rw [hd1,← hz3];simp
 have hsz:0<zero.length:=hpos
 have hn:n≤16777216:=Sc (Nat.le_mul_of_pos_right n hsz) hbig
 obtain ⟨V,hV⟩:∃V,(Array.range (n * zero.length)).map (fun k=>z.cells[k % z.cells.size]!)=V:=⟨_,rfl⟩
 have h0:Flat (okc e σ) w (List.replicate n zero) zero.length V.toList:=by
  rw [← hV]
  exact m26
 have hwr:IntKind.i64.wrap (n:Int)=n:=by
  unfold IntKind.wrap
  exact m129
 have hlarge:(decide ((n:Int)<0) || decide ((i.bytes:Int) * (n:Int)>2 ^ 48))=false:=by
  have:(i.bytes:Int) * (n:Int)=((n * (T.get el).bytes:Nat):Int):=by rw [hby];push_cast;exact Int.mul_comm _ _
  rw [this]
  simp only [Se,decide_eq_false_iff_not]
  exact ⟨by omega,by omega⟩
 have hrun:(Instr.makeSlice t (.int .i64 n) (.int .i64 n)).run G.P w=.ok (.slice (some ⟨w.heap.size,0,none⟩) n n) (w.alloc (.cells V el)):=by
  unfold Instr.makeSlice
  have ha:Sem.run G.P (asIntOf (.int .i64 (n:Int))) w=.ok (.i64,(n:Int)) w:=rfl
  have hl0:decide ((n:Int)<0)=false:=decide_eq_false (by omega)
  have hl1:decide ((n:Int)>(n:Int))=false:=decide_eq_false (by omega)
  have hl2:decide ((i.bytes:Int) * (n:Int)>2 ^ 48)=false:=by
   rw [Se] at hlarge;exact hlarge.2
  have hroom:(askRoom (n * i.bytes)).run G.P w=.ok () w:=by
   unfold askRoom
   rw [Te (by rw [hby];unfold roomBytes;omega)]
   rfl
  simp only [Sem.run_bind,Za htd,Result.andThen,asInt,Functor.map,Sem.run_pure,Z3 hi,ha,hwr,hl0,hl1,hl2,Sl,To,if_false,TF,hroom,Zp hi,hisz]
  split
  ·rename_i h0'
   have hsame:(Array.range (n * zero.length)).map (fun k=>(#[]:Array Value)[k % (#[]:Array Value).size]!)=V:=by
    rw [← hV,h0'];simp
   simp only [Sem.run_bind,Sem.run_pure,Result.andThen]
   rw [hsame]
   exact m91
  ·simp only [Sem.run_bind,Sem.run_pure,Result.andThen,zeroValue,Z3 hi,hz]
   rw [hV]
   exact m91
 refine ⟨_,_,hrun,Grows.alloc w _,?_⟩
 have hg:=Grows.alloc w (.cells V el)
 have hst:=hg.stepped e σ
 have hflat:Flat (okc e σ) (w.alloc (.cells V el)) (List.replicate n zero) zero.length V.toList:=h0.mono fun y u h=>h.later hst.toLater
 have:=hflat.to_sl w.heap.size 0 n (by rw [List.length_replicate];exact Tp _) (fun k u hk=>by
  simp only [World.cell?,Sf]
  rw [heap_alloc_new w (.cells V el)]
  simpa using hk) (fun k hk=>⟨fun hX=>by have:=hS.xlt _ _ hX;omega,fun j hj h=>by have:=hS.lt hj;omega,fun x hx q hq hqb=>by
   obtain ⟨_,_,cs,tyy,fz,hh⟩:=hS.own x hx q hq
   have:=(Tn.1 hh).1
   omega⟩)
 rwa [List.length_replicate] at this
theorem ZjG (hT:TabOK T G.P) (hS:SRel G e σ w) {K:PV→St→Prop} {ρ:Operand→PV} {ρ':Operand→Value} (hρ:∀x,VRel G e σ w (ρ x) (ρ' x)) (o:Oper) (h:ZwC T o.op ρ σ K) :
  ∃pv σ1 v w1 e1,K pv σ1∧(execOp ρ' o).run G.P w=.ok (.value v) w1∧Stepped e σ w e1 σ1 w1∧SRel G e1 σ1 w1∧VRel G e1 σ1 w1 pv v:=by
 unfold ZwC at h
 split at h
 ·rename_i t n ps ho
  split at h
  ·rename_i el hk
   split at h
   ·exact h.elim
   ·rename_i hk2
    split at h
    ·rename_i zero hzero
     split at h
     ·rename_i rows hpos hbig hn hrows
      have hn:=Tb hn
      obtain ⟨vs',hrun,hfl,hlen,hzs⟩:=Jc (ρ':=ρ') hT hρ hk (fun h0=>hk2 h0) hzero (Tb hpos) (Tb hbig) hrows
      rw [hzs] at hfl
      have hvs:vs'.size=n * (T.get el).size:=by have:=hfl.len;rw [hlen,Sk] at this;exact this
      obtain ⟨e1,h1,h2,h3⟩:=UQ (more:=rows) (v':=.slice (some ⟨w.heap.size,0,none⟩) n n) (w1:=w.alloc (.cells vs' el)) hT hS (fun h0=>hk2 h0) (by have:=Tb hpos;omega) (.slnil) σ.tk (fun _ h=>h) (fun r hr=>by cases hr) (fun r hr=>hfl.wid r hr)
       (fun a o c hv=>by simp at hv) rfl rfl rfl (Grows.alloc w _).size (fun b off u hu _=>.inl (by rw [(Grows.alloc w _).cell (VM hu)];exact hu)) (fun b hb _=>heap_alloc_old w _ b hb)
       (.inr ⟨w.heap.size,0,n,vs',el,(0,0),by simp [hlen],hS.big,by simp [hlen],heap_alloc_new w _,⟨by omega,rfl,rfl,by omega⟩,⟨Tp _,fun o _ _=>by simp⟩,.inr (Tp _),vs'.toList,by simpa using hfl,fun k u hk=>by
        simp only [World.cell?,Sf]
        rw [heap_alloc_new w (.cells vs' el)]
        simpa using hk⟩)
      refine ⟨_,_,_,_,e1,h,?_,h1,h2,h3⟩
      exact m107
     ·exact h.elim
    ·exact h.elim
  ·exact h.elim
 ·rename_i s d x ho
  have hx:=hρ x
  split at h
  ·rename_i el hk
   obtain ⟨i,ds,z,hi,hd,hs,hby,hkd,hz,hz2,_⟩:=(hT.get (t:=s) (by rw [hk];simp)).ex
   rw [hk] at hkd;cases hkd
   split at h
   ·rename_i b off n hk2 hk3 heqx
    obtain ⟨i2,dd,z2,hi2,hd2,hs2,hby2,hkd2,hz2,hz22,_⟩:=(hT.get (t:=d) (by rw [hk2];simp)).ex
    rw [hk2] at hkd2;cases hkd2
    obtain ⟨i3,de,z3,hi3,hd3,hs3,hby3,hkd3,hz3,hz33,_⟩:=(hT.get (t:=el) (by rw [hk3];simp)).ex
    rw [hk3] at hkd3;cases hkd3
    rw [heqx] at hx
    split at h
    ·rename_i tb cs hbx
     obtain ⟨l,hln,htk,hK⟩:=h
     generalize hv:ρ' x=vx at hx
     cases hx with
     | asl _ _ _ hb =>
      refine ⟨_,_,_,_,e,hK,?_,Stepped.refl e σ w,hS,.mkstr⟩
      unfold execOp
      simp only [ho,convert,Sem.run_bind,Za hd,Za hd2,Result.andThen,hv]
      simp only [Za hd3,Sem.run_bind,Result.andThen,Zk6 (hS.box b _ hbx) htk hln,Sem.run_pure]
    ·exact h.elim
   ·exact h.elim
  ·exact h.elim
 ·exact h.elim
theorem ZjH (hT:TabOK T G.P) (hS:SRel G e σ w) {K:PV→Prop} {ρ:Operand→PV} {ρ':Operand→Value} (hρ:∀x,VRel G e σ w (ρ x) (ρ' x)) (o:Oper) (h:ZfO T o.op o.type ρ σ.bx K) :
  ∃pv v w1,K pv∧Grows w w1∧VRel G e σ w1 pv v∧(execOp ρ' o).run G.P w=.ok (.value v) w1:=by
 unfold ZfO at h
 split at h
 ·rename_i x hx
  unfold ZjB at hx
  split at hx
  ·rename_i s d x' ho
   split at hx
   ·rename_i hks
    split at hx
    ·rename_i el hkd
     split at hx
     ·rename_i hke
      cases hx
      obtain ⟨i1,d1,z1,hi1,hd1,hs1,hby1,hkd1,_⟩:=(hT.get (t:=s) (by rw [hks];simp)).ex
      obtain ⟨i2,d2,z2,hi2,hd2,hs2,hby2,hkd2,_⟩:=(hT.get (t:=d) (by rw [hkd];simp)).ex
      obtain ⟨i3,d3,z3,hi3,hd3,hs3,hby3,hkd3,_⟩:=(hT.get (t:=el) (by rw [hke];simp)).ex
      rw [hks] at hkd1;rw [hkd] at hkd2;rw [hke] at hkd3
      obtain rfl:d1=.string:=hkd1
      obtain rfl:d2=.slice el:=hkd2
      obtain rfl:d3=.int .u8:=hkd3
      have hx:=hρ x
      split at h
      ·rename_i l heq
       rw [heq] at hx
       have hg:Grows w (Lib.bytesWorld w el ⟨l.toArray⟩):=⟨rfl,rfl,rfl,by rw [Lib.bytesWorld_size];omega,fun b hb=>Lib.bytesWorld_at_old w el _ b hb⟩
       refine ⟨_,.slice (some ⟨w.heap.size,0,none⟩) l.length (grownCap w l.length 0 el),_,h,hg,?_,?_⟩
       ·refine .d _ _ ?_
        have:=DRel.sl (ok:=okc e σ) (w:=Lib.bytesWorld w el ⟨l.toArray⟩) (l.map fun b:UInt8=>[D.int .u8 b.toNat]) w.heap.size 0 (grownCap w l.length 0 el) 1 (fun i _=>.int .u8 (l.getD i 0).toNat) ?_ ?_ ?_ ?_ ?_
        ·simpa using this
        ·simp only [Tf];exact grownCap_ge w l.length 0 el
        ·intro r hr;simp only [Sx] at hr;obtain ⟨b,_,rfl⟩:=hr;rfl
        ·intro i j hi hj
         simp only [Tf] at hi
         have:j=0:=by omega
         subst this
         simp only [Sf,Nat.mul_one,SC]
         have:=Lib.bytesWorld_cell w el ⟨l.toArray⟩ i (show i<l.toArray.size by simpa using hi)
         simpa using this
        ·intro i j hi hj
         refine ⟨fun hX=>?_,fun k hk=>?_,fun t ht p hp hpb=>?_⟩
         ·have:=hS.xlt _ _ hX;omega
         ·have:=hS.lt hk;omega
         ·obtain ⟨_,_,cs,ty,fz,hh⟩:=hS.own t ht p hp
          have:=(Tn.1 hh).1
          omega
        ·intro i j y hy
         rw [TH] at hy
         cases hli:l[i]? with
         | none=>rw [hli] at hy;simp at hy
         | some b =>
          rw [hli] at hy
          cases j with
          | zero=>simp at hy;subst hy;simp only [T2,hli,Option.getD_some];exact .int _ _
          | succ j=>simp at hy
       ·unfold execOp
        simp only [ho,hx.dstr]
        rw [Sem.run_bind,Lib.run_convert_string_bytes w s d el ⟨l.toArray⟩ hd1 hd2 hd3]
        rfl
      ·exact h.elim
     ·cases hx
    ·cases hx
   ·cases hx
  ·cases hx
 ·split at h
  ·rename_i t n ps ho
   split at h
   ·rename_i el hk
    split at h
    ·exact h.elim
    ·rename_i hk2
     split at h
     ·rename_i zero hzero
      split at h
      ·rename_i rows hpos hbig hrows
       obtain ⟨v,w1,hrun,hg,hD⟩:=ZbS hT hS hρ hk (fun h0=>hk2 h0) hzero (Tb hpos) (Tb hbig) hrows
       refine ⟨_,v,w1,h,hg,.d _ _ hD,?_⟩
       exact m107
      ·exact h.elim
     ·exact h.elim
   ·exact h.elim
  ·rename_i t l c ho
   split at h
   ·rename_i el hk
    split at h
    ·exact h.elim
    ·rename_i hk2
     split at h
     ·rename_i zero n m hzero hl hc
      split at h
      ·rename_i hnm hpos hbig hbb
       obtain rfl:=Tm hnm
       obtain ⟨v,w1,hrun,hg,hD⟩:=Zcm hT hS hk (fun h0=>hk2 h0) hzero (Tb hpos) (Tb hbig) (Tb hbb)
       refine ⟨_,v,w1,h,hg,.d _ _ hD,?_⟩
       have e1:ρ' l=.int .i64 (n:Int):=by have:=hρ l;rw [hl] at this;exact this.dint
       have e2:ρ' c=.int .i64 (n:Int):=by have:=hρ c;rw [hc] at this;exact this.dint
       unfold execOp
       simp only [ho,Sem.run_bind,e1,e2]
       rw [hrun]
       rfl
      ·exact h.elim
     ·exact h.elim
   ·exact h.elim
  ·obtain ⟨pv,v,h1,h2,h3⟩:=Zk7 hT hS hρ o h
   exact ⟨pv,v,w,h1,Grows.refl w,h2,h3⟩
theorem Zk8 (hT:TabOK T G.P) (hS:SRel G e σ w) {K:PV→St→Prop} {ρ:Operand→PV} {ρ':Operand→Value} (hρ:∀x,VRel G e σ w (ρ x) (ρ' x)) (o:Oper) (h:eop T o.op ρ σ K) :
  ∃pv σ1 v w1 e1,K pv σ1∧Zo7 G.P ρ' o w v w1∧Stepped e σ w e1 σ1 w1∧SRel G e1 σ1 w1∧VRel G e1 σ1 w1 pv v:=by
 unfold eop at h
 split at h
 ·rename_i el ho
  split at h
  ·exact h.elim
  ·rename_i hk
   obtain ⟨i,d,z,hi,hd,hs,hby,hkd,hz,hz2,hzl,_⟩:=(hT.get (t:=el) (fun h0=>hk h0)).ex
   obtain ⟨hz3,hz4⟩:=Ww (G:=G) (e:=e) (σ:=σ) (w:=w) hz2
   obtain ⟨h1,h2,h3⟩:=Zcl hS el (T.get el).zero z.cells (by simpa using hz3) (fun i x u hx hu=>hz4 i x u hx (by rw [Tu];exact hu))
   refine ⟨_,_,_,_,_,h,.inl ?_,h1,h2,h3⟩
   unfold execOp
   simp only [ho,Instr.alloc,zeroValue,Sem.run_bind,Z3 hi,Result.andThen,hz,Sem.run_pure]
   rfl
 ·rename_i el x ho
  split at h
  ·rename_i l hl
   obtain ⟨hc1,hc2⟩:=Vm (hρ x) hl
   obtain ⟨h1,h2,h3⟩:=Zcl hS el l (ρ' x).cells hc1 hc2
   exact ⟨_,_,_,_,_,h,.inl (by unfold execOp;simp only [ho];rfl),h1,h2,h3⟩
  ·exact h.elim
 ·rename_i t a x ho
  have ha:=hρ a
  split at h
  ·rename_i b off heq;rw [heq] at ha
   split at h
   ·rename_i ty cs hb
    split at h
    ·rename_i l hl
     split at h
     ·exact h.elim
     ·rename_i h1 h2 hk
      generalize hv:ρ' a=v at ha
      cases ha with
      | ptr b off hbl =>
       obtain ⟨w1,hrun,hst,hS1⟩:=Ju hT hS hb (hρ x) hl (Tm h1) (Tb h2) (fun h0=>hk h0)
       refine ⟨_,_,Go.undef,w1,e,h,.inr ⟨?_,rfl⟩,hst,hS1,.undef _⟩
       unfold execOp
       simp only [ho,hv,Sem.run_bind,hrun,Result.andThen,Sem.run_pure]
     ·exact h.elim
    ·exact h.elim
   ·exact h.elim
  ·exact h.elim
 ·rename_i t x ho
  split at h
  ·rename_i hk
   obtain ⟨i,d,z,hi,hd,hs,hby,hkd,hz,hz2,hzl,_⟩:=(hT.get (t:=t) (by rw [hk];simp)).ex
   rw [hk] at hkd;cases hkd
   split at h
   ·rename_i s heq
    have hx:=hρ x
    rw [heq] at hx
    have hxv:=hx.dstr
    obtain ⟨h1,h2,h3⟩:=Zck hS (.iter s 0) (.stringIter ⟨s.toArray⟩ 0) (fun _ _ _ _ hh=>hh)
    refine ⟨_,_,_,_,_,h,.inl ?_,h1,h2,h3⟩
    unfold execOp
    simp only [ho,hxv,Instr.range,Sem.run_bind,Za hd,Result.andThen,Sem.run_pure,run_newObj]
    rfl
   ·exact h.elim
  ·exact h.elim
 ·rename_i x ho
  have hx:=hρ x
  split at h
  ·rename_i b heq;rw [heq] at hx
   split at h
   ·rename_i s pos hb
    generalize hv:ρ' x=v at hx
    cases hx with
    | ptr b off hbl =>
     obtain ⟨pv,σ1,v,w1,hK,hrun,hst,hS1,hr⟩:=ZjF hS hb o.type h
     refine ⟨pv,σ1,v,w1,e,hK,.inl ?_,hst,hS1,hr⟩
     unfold execOp
     simp only [ho,hv,Sem.run_bind,hrun,Result.andThen,Sem.run_pure]
   ·exact h.elim
  ·exact h.elim
 ·rename_i args argTypes ho
  split at h
  ·rename_i t tx s x hts hvs
   have hat:argTypes=#[t,tx]:=by rw [← Array.toArray_toList (xs:=argTypes),hts]
   obtain ⟨q1,q2,hargs⟩:∃q1 q2,args.toList=[q1,q2]:=by
    cases hl:args.toList with
    | nil=>rw [hl] at hvs;cases hvs
    | cons a l=>cases l with
     | nil=>rw [hl] at hvs;cases hvs
     | cons b l=>cases l with
      | nil=>exact ⟨a,b,rfl⟩
      | cons c l=>rw [hl] at hvs;simp at hvs
   have ha:args=#[q1,q2]:=by rw [← Array.toArray_toList (xs:=args),hargs]
   rw [hargs] at hvs
   simp only [TA,TN,List.cons.injEq,and_true] at hvs
   obtain ⟨hs',hx'⟩:=hvs
   have hrs:=hρ q1
   have hrx:=hρ q2
   rw [hs'] at hrs
   rw [hx'] at hrx
   have hexec:∀v' w1,(Builtin.append_ #[t,tx] o.type #[ρ' q1,ρ' q2]).run G.P w=.ok v' w1→Zo7 G.P ρ' o w v' w1:=fun v' w1 hr=>.inl (by
    unfold execOp
    simp only [ho,resolve,invoke,builtin,Sem.run_bind,Sem.run_pure,Result.andThen,ha,hat]
    rw [show Array.map ρ' #[q1,q2]=#[ρ' q1,ρ' q2] from by simp,hr])
   split at h
   ·rename_i el hk
    split at h
    ·exact h.elim
    ·rename_i hk2
     split at h
     ·rename_i more hpos hm
      split at h
      ·rename_i el2
       obtain ⟨hw,hb,hl,hK⟩:=h
       generalize hv:ρ' q1=v at hrs hexec
       cases hrs with
       | nils =>
        obtain ⟨v',w1,e1,hrun,hst,hS1,hr⟩:=Zea (ty:=o.type) hT hS hk (fun h0=>hk2 h0) (Tb hpos) (rows:=[]) (.slnil) σ.tk (fun _ h=>h) (.inl ⟨rfl,rfl⟩) hm hrx hw (by simpa using hb) (by simpa using hl)
        exact ⟨_,_,v',w1,e1,hK,hexec v' w1 hrun,hst,hS1,hr⟩
      ·rename_i tok e2 rows
       split at h
       ·rename_i hmem he2
        obtain ⟨hw,hb,hl,hK⟩:=h
        have:=Tm he2
        subst this
        have hmem':=(Yz _ _).1 hmem
        generalize hv:ρ' q1=v at hrs hexec
        cases hrs with
        | sl tok e2 rows v hn hd ht =>
         obtain ⟨v',w1,e1,hrun,hst,hS1,hr⟩:=Zea (ty:=o.type) hT hS hk (fun h0=>hk2 h0) (Tb hpos) hd (J0 tok σ.tk) (fun x hx=>((WY _ _ _).1 hx).1) (.inr ⟨tok,hmem',fun h=>((WY _ _ _).1 h).2 rfl,ht hmem'⟩) hm hrx hw hb hl
         exact ⟨_,_,v',w1,e1,hK,hexec v' w1 hrun,hst,hS1,hr⟩
       ·exact h.elim
      ·exact h.elim
     ·exact h.elim
   ·exact h.elim
  ·exact h.elim
 ·exact h.elim
end
end Go.PM
end

section
namespace Go.PM
def fw (ro:Option Nat):Fence:={ fn:=fun _=>True,depth:=none,alive:=false,round:=ro }
def WZ (P:Program) (g:FuncId):Prop:=∀(args:Array Value) (w:World),(callFunc g args).run P w=.ok (.enter g args) w
def ArgsRel (G:GE) (e:Env) (σ:St) (w:World) (args:List PV) (vs:Array Value):Prop :=
 vs.size=args.length∧∀(i:Nat) (x:PV) (u:Value),args[i]?=some x→vs[i]?=some u→VRel G e σ w x u
def Zk9 (G:GE) (e:Env) (σ:St) (w:World):PEnd→Ending→Prop
 | .ret x,en=>∃v,en=.returned v∧VRel G e σ w x v
 | .panic x,en=>∃v,en=.panicked [{ v:=v,recovered:=false }]∧VRel G e σ w x v
def ZpM (G:GE) (e:Env) (σ:St) (w:World) (K:PEnd→St→Prop) (en:Ending) (w':World):Prop :=
 ∃pe σ' e',K pe σ'∧Zk9 G e' σ' w' pe en∧SRel G e' σ' w'∧Stepped e σ w e' σ' w'
def YA (G:GE) (e:Env) (σ:St) (w:World) (K:PEnd→St→Prop) (en:Ending) (w':World):Prop :=
 ∃pe σ' e',K pe σ'∧Zk9 G e' σ' w' pe en∧SRel G e' σ' w'∧Later e σ w e' σ' w'
def Zhs (G:GE) (cc:FuncId→List PV→St→(PEnd→St→Prop)→Prop):Prop:=∀g args σ K,cc g args σ K →
 WZ G.P g∧∀(ro:Option Nat) (n:Nat) (e:Env) (w:World) (vs:Array Value),SRel G e σ w→ArgsRel G e σ w args vs→CallsIn (fw ro) n G.P g vs w (ZpM G e σ w K)
def RawSem (G:GE) (e0:Env) (σ0:St) (w0:World) (cr:Value→List PV→St→(PEnd→St→Prop)→Prop):Prop:=∀v args σ K,cr v args σ K →
 ∃l,v=.func (.yield l) #[] #[]∧∀(ro:Option Nat) (n:Nat) (e:Env) (w:World) (vs:Array Value),SRel G e σ w→Later e0 σ0 w0 e σ w→ArgsRel G e σ w args vs →
  ∃f tmps asg body,(Instr.yield l vs).run G.P w=.ok (.round l f tmps asg body) w∧RoundIn (fw ro) n G.P l f tmps asg body w (YA G e σ w K)
def VO (G:GE) (ci:FuncId→List PV→(Value→List PV→St→(PEnd→St→Prop)→Prop)→St→(PEnd→St→Prop)→Prop):Prop:=∀g args raw σ K,ci g args raw σ K →
 WZ G.P g∧∀(n:Nat) (e:Env) (w:World) (vs:Array Value),SRel G e σ w→ArgsRel G e σ w args vs→RawSem G e σ w raw→CallsIn (fw none) n G.P g vs w (YA G e σ w K)
structure CxOK (G:GE) (C:Cx) (ro:Option Nat) (e0:Env) (σ0:St) (w0:World):Prop where
 tab:TabOK C.T G.P
 call:Zhs G C.call
 raw:RawSem G e0 σ0 w0 C.raw
 iter:VO G C.iter
 out:ro=none∨∀g args raw σ K,¬C.iter g args raw σ K
theorem RawSem.later {G:GE} {e0 e:Env} {σ0 σ:St} {w0 w:World} {cr:Value→List PV→St→(PEnd→St→Prop)→Prop} (h:RawSem G e0 σ0 w0 cr) (hL:Later e0 σ0 w0 e σ w):RawSem G e σ w cr:=fun v args σ' K hc=>by
 obtain ⟨l,h1,h2⟩:=h v args σ' K hc
 exact ⟨l,h1,fun ro n e' w' vs hS hL' ha=>h2 ro n e' w' vs hS (hL.trans hL') ha⟩
theorem CxOK.later {G:GE} {C:Cx} {ro:Option Nat} {e0 e:Env} {σ0 σ:St} {w0 w:World} (h:CxOK G C ro e0 σ0 w0) (hL:Later e0 σ0 w0 e σ w):CxOK G C ro e σ w:=⟨h.tab,h.call,h.raw.later hL,h.iter,h.out⟩
theorem CxOK.calm {G:GE} {C:Cx} {ro:Option Nat} {e0:Env} {σ0:St} {w0:World} (h:CxOK G C ro e0 σ0 w0):CxOK G C.calm ro e0 σ0 w0:=⟨h.tab,h.call,fun _ _ _ _ h=>h.elim,h.iter,h.out⟩
def J3 (r:Nat):Deferred:={ target:=.collected r,args:=#[] }
def Marks (lo:Nat×List Deferred×Bool) (e:Env) (σ:St) (w:World) (l:List Deferred):Prop:=lo.1≤w.heap.size∧∃rs:List Nat,l=rs.map J3++lo.2.1∧(lo.2.2=true→rs=[])∧rs.Nodup∧∀r,r∈rs→lo.1≤r∧w.heap[r]?=some (.deferred (some [])) ∧
 (∀i,i<σ.bx.length→e.β i≠r)∧∀t,t∈σ.tk→∀p,e.M t=some p→p.1≠r
theorem Marks.nil {lo:Nat} {fl:Bool} (e:Env) (σ:St) {w:World} (h:lo≤w.heap.size):Marks (lo,[],fl) e σ w []:=⟨h,[],rfl,fun _=>rfl,List.nodup_nil,fun r h=>(by cases h)⟩
theorem Marks.later {lo:Nat×List Deferred×Bool} {e e':Env} {σ σ':St} {w w':World} {l:List Deferred} (h:Marks lo e σ w l) (hL:Later e σ w e' σ' w'):Marks lo e' σ' w' l:=by
 obtain ⟨h0,rs,h1,hfl,h2,h3⟩:=h
 refine ⟨Sc h0 hL.size,rs,h1,hfl,h2,fun r hr=>?_⟩
 obtain ⟨g1,g2,g3,g4⟩:=h3 r hr
 have hlt:=(Tn.1 g2).1
 refine ⟨g1,(hL.blocks r hlt g3 g4).trans g2,fun i hi=>?_,fun t ht p hp=>?_⟩
 ·by_cases h:i<σ.bx.length
  ·rw [hL.beta i h];exact g3 i h
  ·have:=hL.fresh i (by omega) hi;omega
 ·rcases hL.ftok t ht p hp with h | ⟨t0,h0,p0,hp0,h⟩
  ·omega
  ·rw [← h];exact g4 t0 h0 p0 hp0
theorem UR {n:Nat}:∀{l:List PV},Znp n l=true→∀(i:Nat) (x:PV),l[i]?=some x→bnd n x=true
 | [],_,i,x,hx=>by simp at hx
 | y::l,h,i,x,hx=>by
  simp only [Znp,Tj] at h
  cases i with
  | zero=>simp at hx;subst hx;exact h.1
  | succ i=>exact UR h.2 i x (by simpa using hx)
theorem Zla {n:Nat}:∀{l:List PV},(∀(i:Nat) (x:PV),l[i]?=some x→bnd n x=true)→Znp n l=true
 | [],_=>rfl
 | y::l,h=>by
  simp only [Znp,Tj]
  exact ⟨h 0 y (by simp),Zla fun i x hx=>h (i+1) x (by simpa using hx)⟩
theorem Wr:∀{l:List PV} (i:Nat) (y:PV),(Xm l)[i]?=some y→∃x,l[i]?=some x∧y=clean x
 | [],i,y,h=>by simp [Xm] at h
 | x::l,i,y,h=>by
  cases i with
  | zero=>simp [Xm] at h;exact ⟨x,by simp,h.symm⟩
  | succ i=>simp only [Xm,T3] at h;obtain ⟨z,h1,h2⟩:=Wr i y h;exact ⟨z,by simpa using h1,h2⟩
theorem YX:∀{l:List PV},(Xm l).length=l.length
 | []=>rfl
 | x::l=>by simp [Xm,YX]
section
variable {G:GE} {e e':Env} {σ σ':St} {w w':World}
theorem VRel.bnd {x:PV} {v:Value} (h:VRel G e σ w x v):bnd σ.bx.length x=true:=by
 have get:∀{l:List PV} {va:Array Value},va.size=l.length→(∀(i:Nat) (x:PV) (u:Value),l[i]?=some x→va[i]?=some u→PM.bnd σ.bx.length x=true)→Znp σ.bx.length l=true:=fun {l va} hs h=>Zla fun i x hx=>by
  have hi:=(Tg.1 hx).1
  exact h i x va[i] hx (Tx (by omega))
 induction h with
 | ptr b off h=>simp only [PM.bnd,Nat.ble_eq];omega
 | asl b off n h=>simp only [PM.bnd,Nat.ble_eq];omega
 | func f a c va vc ha hc _ _ ih1 ih2=>simp only [PM.bnd,Tj];exact ⟨get ha ih1,get hc ih2⟩
 | iface t x v _ ih=>exact ih
 | agg cs vs hs _ _ ih=>exact get hs ih
 | tuple cs vs hs _ ih=>exact get hs ih
 | _=>rfl
theorem VRel.clean {n:Nat} (hn:n≤σ'.bx.length) (hβ:∀i,i<n→e'.β i=e.β i)
  (hp:∀b off u,w.cell? ⟨b,off,none⟩=some u→okc e σ b off→okc e' σ' b off∧w'.cell? ⟨b,off,none⟩=some u) {x:PV} {v:Value} (h:VRel G e σ w x v) (hb:PM.bnd n x=true):VRel G e' σ' w' (clean x) v:=by
 induction h with
 | d x v h=>exact .d _ _ (h.mono hp)
 | undef v=>exact .undef _
 | ptr b off h =>
  simp only [PM.bnd,Nat.ble_eq] at hb
  rw [← hβ b (by omega)];exact .ptr b off (by omega)
 | asl b off m h =>
  simp only [PM.bnd,Nat.ble_eq] at hb
  rw [← hβ b (by omega)];exact .asl b off m (by omega)
 | elem r off b o u hc ho hu=>exact .elem r off b o u (fun j hj=>(hp b _ _ (hc j hj) (ho j hj)).2) (fun j hj=>(hp b _ _ (hc j hj) (ho j hj)).1) (fun j x hx=>(hu j x hx).mono hp)
 | sl t el rows v hn hd ht=>exact .d _ _ (hd.mono hp)
 | nils el=>exact .d _ _ .slnil
 | func f a c va vc ha hc _ _ ih1 ih2 =>
  simp only [PM.bnd,Tj] at hb
  refine .func f _ _ va vc (by rw [YX];exact ha) (by rw [YX];exact hc) (fun i y u hy hu=>?_) (fun i y u hy hu=>?_)
  ·obtain ⟨x,hx,rfl⟩:=Wr i y hy;exact ih1 i x u hx hu (UR hb.1 i x hx)
  ·obtain ⟨x,hx,rfl⟩:=Wr i y hy;exact ih2 i x u hx hu (UR hb.2 i x hx)
 | iface t x v _ ih=>exact .iface t _ v (ih hb)
 | agg cs vs hs _ h1 ih=>exact .agg _ vs (by rw [YX];exact hs) (fun i y u hy hu=>by obtain ⟨x,hx,rfl⟩:=Wr i y hy;exact ih i x u hx hu (UR hb i x hx)) h1
 | tuple cs vs hs _ ih=>exact .tuple _ vs (by rw [YX];exact hs) (fun i y u hy hu=>by obtain ⟨x,hx,rfl⟩:=Wr i y hy;exact ih i x u hx hu (UR hb i x hx))
 | raw v=>exact .raw _
theorem Jd:∀{l:List PV},(cleanNL l).length=l.length
 | []=>rfl
 | x::l=>by simp [PM.cleanNL,Jd]
theorem Zcn:∀{l:List PV} (i:Nat) (y:PV),(cleanNL l)[i]?=some y→∃x,l[i]?=some x∧y=PM.cleanN x
 | [],i,y,h=>by simp [PM.cleanNL] at h
 | x::l,i,y,h=>by
  cases i with
  | zero=>simp [PM.cleanNL] at h;exact ⟨x,by simp,h.symm⟩
  | succ i=>simp only [PM.cleanNL,T3] at h;obtain ⟨z,h1,h2⟩:=Zcn i y h;exact ⟨z,by simpa using h1,h2⟩
theorem VRel.cleanN {n:Nat} (hn:n≤σ'.bx.length) (hβ:∀i,i<n→e'.β i=e.β i)
  (hp:∀b off u,w.cell? ⟨b,off,none⟩=some u→okc e σ b off→okc e' σ' b off∧w'.cell? ⟨b,off,none⟩=some u) {x:PV} {v:Value} (h:VRel G e σ w x v) (hb:PM.bnd n x=true):VRel G e' σ' w' (cleanN x) v:=by
 induction h with
 | d x v h=>exact .d _ _ (h.mono hp)
 | undef v=>exact .undef _
 | ptr b off h =>
  simp only [PM.bnd,Nat.ble_eq] at hb
  rw [← hβ b (by omega)];exact .ptr b off (by omega)
 | asl b off m h =>
  simp only [PM.bnd,Nat.ble_eq] at hb
  rw [← hβ b (by omega)];exact .asl b off m (by omega)
 | elem r off b o u hc ho hu=>exact .elem r off b o u (fun j hj=>(hp b _ _ (hc j hj) (ho j hj)).2) (fun j hj=>(hp b _ _ (hc j hj) (ho j hj)).1) (fun j x hx=>(hu j x hx).mono hp)
 | sl t el rows v hn hd ht=>exact .d _ _ (hd.mono hp)
 | nils el=>exact .nils el
 | func f a c va vc ha hc h1 h2 ih1 ih2=>exact VRel.clean hn hβ hp (.func f a c va vc ha hc h1 h2) hb
 | iface t x v h ih=>exact VRel.clean hn hβ hp (.iface t x v h) hb
 | agg cs vs hs _ h1 ih=>exact .agg _ vs (by rw [Jd];exact hs) (fun i y u hy hu=>by obtain ⟨x,hx,rfl⟩:=Zcn i y hy;exact ih i x u hx hu (UR hb i x hx)) h1
 | tuple cs vs hs h ih=>exact VRel.clean hn hβ hp (.tuple cs vs hs h) hb
 | raw v=>exact .raw _
end
theorem FRel.clean {G:GE} {e e':Env} {σ σ':St} {w w':World} {f:Frame} {tm:Array Value} (hF:FRel G e σ w f tm) (hL:Later e σ w e' σ' w'):FRel G e' σ' w' (V5 f) tm :=
 fun i=>VRel.clean hL.len hL.beta hL.pres (hF i) (hF i).bnd
def ZtF (G:GE) (e:Env) (σ:St) (w:World):PExit→Exit→Prop
 | .normal,x=>x=.normal
 | .exit id,x=>x=.exit id
 | .goto l,x=>x=.goto l
 | .ret,x=>x=.ret
 | .panic p,x=>∃v,x=.panic [{ v:=v,recovered:=false }]∧VRel G e σ w p v
def ZK (G:GE) (e0:Env) (σ0:St) (w0:World) (ds:Nat×List Deferred×Bool) (n:Nat) (Z:Array Value→Prop) (Q:PQ):Exit→Act→World→Prop:=fun x a w =>
 ∃pe f e σ,Q pe f σ∧ZtF G e σ w pe x∧SRel G e σ w∧FRel G e σ w f a.tmps∧Later e0 σ0 w0 e σ w∧a.tmps.size=n∧Marks ds e σ w a.defers∧Z a.tmps
def KRel (G:GE) (e0:Env) (σ0:St) (w0:World) (ds:Nat×List Deferred×Bool) (n:Nat) (Z:Array Value→Prop) (K:Frame→St→Prop):Act→World→Prop:=fun a w =>
 ∃f e σ,K f σ∧SRel G e σ w∧FRel G e σ w f a.tmps∧Later e0 σ0 w0 e σ w∧a.tmps.size=n∧Marks ds e σ w a.defers∧Z a.tmps
theorem Vn:∀(n:Nat) (K:Nat→Prop),YJ n K=K n
 | 0,K=>rfl
 | n+1,K=>by simp only [YJ,Vn n]
theorem Zlb (v:PV) (K:PV→Prop):ZkS v K=K v:=by cases v <;> simp only [ZkS,Vn]
theorem ZaK:∀(l:List PV) (K:List PV→Prop),VI l K=K l
 | [],_=>rfl
 | v::l,K=>by simp only [VI,Zlb,ZaK l]
theorem ZfW (v:PV) (K:PV→Prop):ZiA v K=K v:=by cases v <;> simp only [ZiA,Vn,ZaK]
theorem Zeb:∀(l:List PV) (K:List PV→Prop),ZeH l K=K l
 | [],_=>rfl
 | v::l,K=>by simp only [ZeH,ZfW,Zeb l]
theorem Yb (v:PV) (K:PV→Prop):Jq v K=K v:=by cases v <;> simp only [Jq,Vn,ZaK,ZfW,Zeb]
theorem ZfX:∀(l:List PV) (K:List PV→Prop),ZiB l K=K l
 | [],_=>rfl
 | v::l,K=>by simp only [ZiB,Yb,ZfX l]
theorem J4:∀(l:List Box) (K:List Box→Prop),Zbn l K=K l
 | [],_=>rfl
 | .cells t cs::l,K=>by simp only [Zbn,ZfX,J4 l]
 | .iter s p::l,K=>by simp only [Zbn,J4 l]
 | .loop st pd r::l,K=>by simp only [Zbn,J4 l]
theorem Vo:∀(l:List Nat) (K:List Nat→Prop),Zd6 l K=K l
 | [],_=>rfl
 | t::l,K=>by simp only [Zd6,Vn,Vo l]
theorem XJ (σ:St) (K:St→Prop):Ug σ K=K σ:=by simp only [Ug,J4,Vo,Vn]
theorem Yw (f:Frame) (d:Option Nat) (v:PV) (K:Frame→Prop):Zhc f d v K=K (Ye f d v):=by
 cases d with
 | none=>rfl
 | some i=>simp only [Zhc,Yb];rfl
theorem Uk {f:Frame} {s:Nat} {v:PV} (h:f s=v):U6 f s v=f:=by
 funext j
 by_cases hj:s=j
 ·subst hj;rw [Yn,h]
 ·rw [Xs f v hj]
theorem YB (a:Act) (d:Option Nat) (v:Value):(a.put d v).tmps.size=a.tmps.size:=by cases d <;> simp [Act.put]
theorem ZiF {N:Nat} {Z:Array Value→Prop} {a:Act} {d:Option Nat} {v:Value} (hd:∀i,d=some i→i<N∧∀t v,Z t→Z (t.setIfInBounds i v)) (hZ:Z a.tmps):Z (a.put d v).tmps:=by
 cases d with
 | none=>exact hZ
 | some i=>exact (hd i rfl).2 _ _ hZ
theorem XK (a:Act) (d:Option Nat) (v:Value):(a.put d v).defers=a.defers:=by cases d <;> rfl
section
variable {G:GE} {C:Cx} {e0 e:Env} {σ0 σ:St} {w0 w:World} {a:Act} {f:Frame} {Q:PQ} {K:Frame→St→Prop} {ro:Option Nat} {n:Nat} {ds:Nat×List Deferred×Bool} {N:Nat} {Z:Array Value→Prop}
theorem KRel.put {e1:Env} {σ1:St} {w1:World} {o:Oper} {pv:PV} {v:Value} (hF:FRel G e σ w f a.tmps) (hL:Later e0 σ0 w0 e σ w) (hN:a.tmps.size=N) (hds:Marks ds e σ w a.defers) (hZ:Z a.tmps) (hd:∀d,o.dst=some d→d<N∧∀t v,Z t→Z (t.setIfInBounds d v))
  (hK:Zhc f o.dst pv fun f=>K f σ1) (hst:Stepped e σ w e1 σ1 w1) (hS1:SRel G e1 σ1 w1) (hr:VRel G e1 σ1 w1 pv v):KRel G e0 σ0 w0 ds N Z K (a.put o.dst v) w1:=by
 rw [Yw] at hK
 exact ⟨_,e1,σ1,hK,hS1,(hF.step hst).put hr (by rw [hN];exact fun d h=>(hd d h).1),hL.trans hst.toLater,by rw [YB];exact hN,by rw [XK];exact hds.later hst.toLater,ZiF hd hZ⟩
theorem Zb3 {args:Array Operand} (hρ:∀x,VRel G e σ w (ev f x) (a.eval x)):ArgsRel G e σ w (args.toList.map (ev f)) (args.map a.eval):=by
 refine ⟨by simp,fun i x u hx hu=>?_⟩
 rw [TH] at hx
 rw [Array.getElem?_map] at hu
 cases hq:args[i]? with
 | none=>rw [hq] at hu;cases hu
 | some q =>
  exact m130
theorem ArgsRel.append {x y:List PV} {vx vy:Array Value} (h1:ArgsRel G e σ w x vx) (h2:ArgsRel G e σ w y vy):ArgsRel G e σ w (x++y) (vx++vy):=by
 refine ⟨by rw [Array.size_append,Ta,h1.1,h2.1],fun i p u hp hu=>?_⟩
 by_cases hi:i<x.length
 ·rw [TG hi] at hp
  rw [Array.getElem?_append_left (by rw [h1.1];exact hi)] at hu
  exact h1.2 i p u hp hu
 ·rw [TZ (by omega)] at hp
  rw [Array.getElem?_append_right (by rw [h1.1];omega),h1.1] at hu
  exact h2.2 _ p u hp hu
theorem Zlc {G:GE} {C:Cx} {e e':Env} {σ σ':St} {w w':World} {f:Frame} {tm:Array Value} (hF:FRel G e σ w f tm) (hL:Later e σ w e' σ' w'):FRel G e' σ' w' (C.pf f) tm:=by
 unfold Cx.pf
 split
 ·exact hF.clean hL
 ·exact fun i=>.undef _
theorem Jw (hC:CxOK G C ro e0 σ0 w0) (hS:SRel G e σ w) (hF:FRel G e σ w f a.tmps) (hL:Later e0 σ0 w0 e σ w) (hN:a.tmps.size=N) (hds:Marks ds e σ w a.defers) (hZ:Z a.tmps) {o:Oper} (hd:∀d,o.dst=some d→d<N∧∀t v,Z t→Z (t.setIfInBounds d v))
  (h:Vf C o f σ Q K):o.wpIn (fw ro) n G.P a w (KRel G e0 σ0 w0 ds N Z K) (ZK G e0 σ0 w0 ds N Z Q):=by
 have hρ:∀x,VRel G e σ w (ev f x) (a.eval x):=fun x=>U9 hF x
 refine ⟨fun _ _=>trivial,?_⟩
 unfold Vf at h
 simp only [XJ,Yb] at h
 split at h
 ·rename_i hE
  have hnd:∀c,o.op≠.defer c:=fun c hc=>by rw [hc] at h;exact h
  rw [show (fw ro).round=ro from rfl,Oper.semAt_eq _ _ _ hnd]
  obtain ⟨pv,v,w1,hK,hg,hr,hrun⟩:=ZjH hC.tab hS hρ o h
  rw [hrun]
  exact KRel.put hF hL hN hds hZ hd hK (hg.stepped e σ) (hS.grow hg) hr
 ·rename_i hE
  have hnd:∀c,o.op≠.defer c:=fun c hc=>by rw [hc] at hE;cases hE
  rw [show (fw ro).round=ro from rfl,Oper.semAt_eq _ _ _ hnd]
  split at h
  ·rename_i x args at' ho
   have hx:=hρ x
   have hres:∀(next:World→Ending→World→Prop),True:=fun _=>trivial
   unfold ZfP at h
   split at h
   ·rename_i g first caps heq
    rw [heq] at hx
    generalize hv:a.eval x=v at hx
    cases hx with
    | func g first caps va vc ha hc h1 h2 =>
     obtain ⟨hent,hcall⟩:=hC.call _ _ _ _ h
     have hargs:ArgsRel G e σ w (first++args.toList.map (ev f)++caps) (va++args.map a.eval++vc):=(ArgsRel.append (ArgsRel.append ⟨ha,h1⟩ (Zb3 hρ)) ⟨hc,h2⟩)
     have hrun:(execOp a.eval o).run G.P w=.ok (.enter g (va++args.map a.eval++vc)) w:=by
      unfold execOp
      simp only [ho,resolve,hv,Deferred.ofValue,Sem.run_bind,Sem.run_pure,Result.andThen,invoke]
      exact hent _ _
     rw [hrun,Oper.uponIn_enter]
     refine ⟨fun h=>by simp [fw] at h,(hcall ro (n - 1) e w _ hS hargs).mono fun en w' hA=>?_⟩
     obtain ⟨pe,σ',e',hK,hE',hS',hst⟩:=hA
     cases pe with
     | ret pv =>
      obtain ⟨u,rfl,hr⟩:=hE'
      exact KRel.put hF hL hN hds hZ hd hK hst hS' hr
     | panic pv =>
      obtain ⟨u,rfl,hr⟩:=hE'
      exact ⟨.panic pv,_,e',σ',hK,⟨u,rfl,hr⟩,hS',Zlc hF hst.toLater,hL.trans hst.toLater,hN,hds.later hst.toLater,hZ⟩
   ·rename_i v heq
    rw [heq] at hx
    generalize hv:a.eval x=v' at hx
    cases hx with
    | raw v =>
     obtain ⟨l,rfl,hraw⟩:=hC.raw _ _ _ _ h
     obtain ⟨fn,tmps,asg,body,hy,hround⟩:=hraw ro (n - 1) e w _ hS hL (Zb3 hρ)
     have hrun:(execOp a.eval o).run G.P w=.ok (.round l fn tmps asg body) w:=by
      unfold execOp
      simp only [ho,resolve,hv,Deferred.ofValue,Sem.run_bind,Sem.run_pure,Result.andThen,invoke,Array.empty_append,hy]
     rw [hrun,Oper.uponIn_round]
     refine ⟨fun h=>by simp [fw] at h,hround.mono fun en w' hA=>?_⟩
     obtain ⟨pe,σ',e',hK,hE',hS',hst⟩:=hA
     cases pe with
     | ret pv =>
      obtain ⟨u,rfl,hr⟩:=hE'
      simp only at hK
      rw [Yw] at hK
      exact ⟨_,e',σ',hK,hS',(hF.clean hst).put hr (by rw [hN];exact fun d h=>(hd d h).1),hL.trans hst,by rw [YB];exact hN,by rw [XK];exact hds.later hst,ZiF hd hZ⟩
     | panic pv =>
      obtain ⟨u,rfl,hr⟩:=hE'
      exact ⟨.panic pv,_,e',σ',hK,⟨u,rfl,hr⟩,hS',Zlc (hF.clean (Later.refl _ _ _)) hst,hL.trans hst,hN,hds.later hst,hZ⟩
   ·exact h.elim
  ·rename_i x ho
   have hx:=hρ x
   split at h
   ·rename_i t pv heq
    rw [heq] at hx
    generalize hv:a.eval x=v at hx
    cases hx with
    | iface _ _ u hu =>
     have hrun:(execOp a.eval o).run G.P w=.halt (.panic (.iface t u)) w:=by
      unfold execOp
      simp only [ho,hv,Instr.panic]
      rfl
     rw [hrun]
     exact ⟨.panic (.iface t pv),_,e,σ,h,⟨.iface t u,rfl,.iface t pv u hu⟩,hS,Zlc hF (Later.refl _ _ _),hL,hN,hds,hZ⟩
   ·exact h.elim
  ·obtain ⟨pv,σ1,v,w1,e1,hK,hcomes,hst,hS1,hr⟩:=Zk8 hC.tab hS hρ o h
   rcases hcomes with hrun | ⟨hrun,rfl⟩
   ·rw [hrun];exact KRel.put hF hL hN hds hZ hd hK hst hS1 hr
   ·rw [hrun];exact KRel.put hF hL hN hds hZ hd hK hst hS1 hr
theorem VP (hC:CxOK G C ro e0 σ0 w0) (hS:SRel G e σ w) (hF:FRel G e σ w f a.tmps) (hL:Later e0 σ0 w0 e σ w) (hN:a.tmps.size=N) (hds:Marks ds e σ w a.defers) (hZ:Z a.tmps) {ops:Array Oper} {o:Oper} (hd:∀d,o.dst=some d→d<N∧∀t v,Z t→Z (t.setIfInBounds d v))
  (h:U2 C ops.toList Q o f σ K) :
  if Region.wanted o (yielded ops a.tmps)=true then o.wpIn (fw ro) n G.P a w (KRel G e0 σ0 w0 ds N Z K) (ZK G e0 σ0 w0 ds N Z Q)
  else KRel G e0 σ0 w0 ds N Z K (a.put o.dst Go.undef) w:=by
 unfold U2 at h
 split at h
 ·rename_i hg
  have:Region.wanted o (yielded ops a.tmps)=true:=by simp [Region.wanted,hg]
  rw [Ti this]
  exact Jw hC hS hF hL hN hds hZ hd h
 ·rename_i j want hg
  split at h
  ·rename_i s hs
   have hslot:(ops[j]?).bind (·.dst)=some s:=by
    unfold Vg at hs
    rw [Tu] at hs
    cases hoj:ops[j]? with
    | none=>rw [hoj] at hs;cases hs
    | some oj=>rw [hoj] at hs;exact hs
   have hFs:=hF s
   split at h
   ·rename_i t hft
    rw [hft] at hFs
    have hv:=hFs.dbool
    have hy:yielded ops a.tmps j=some t:=by
     unfold yielded
     rw [hslot]
     have:a.tmps[s]?=some (.bool t):=by
      rw [Array.getD_eq_getD_getElem?] at hv
      cases h2:a.tmps[s]? with
      | none=>rw [h2] at hv;cases hv
      | some u=>rw [h2] at hv;simp at hv;rw [hv]
     simp [this]
    have hwant:Region.wanted o (yielded ops a.tmps)=(t == want):=by simp [Region.wanted,hg,hy]
    rw [hwant]
    cases t <;> cases want <;> simp only [CondP] at h
    ·rw [Uk hft] at h;simp only [beq_self_eq_true,if_true];exact Jw hC hS hF hL hN hds hZ hd h
    ·rw [Uk hft] at h;rw [Te (by decide)];exact KRel.put hF hL hN hds hZ hd h (.refl _ _ _) hS (.raw _)
    ·rw [Uk hft] at h;rw [Te (by decide)];exact KRel.put hF hL hN hds hZ hd h (.refl _ _ _) hS (.raw _)
    ·rw [Uk hft] at h;simp only [beq_self_eq_true,if_true];exact Jw hC hS hF hL hN hds hZ hd h
   ·rename_i vs hft
    rw [hft] at hFs
    generalize hv:a.tmps.getD s Go.undef=v at hFs
    cases hFs
    have hy:yielded ops a.tmps j=none:=by
     unfold yielded
     rw [hslot]
     rw [Array.getD_eq_getD_getElem?] at hv
     cases h2:a.tmps[s]? with
     | none=>simp [h2]
     | some u=>rw [h2] at hv;simp at hv;subst hv;simp [h2]
    have hwant:Region.wanted o (yielded ops a.tmps)=false:=by simp [Region.wanted,hg,hy]
    rw [hwant,Te (by simp)]
    exact KRel.put hF hL hN hds hZ hd h (.refl _ _ _) hS (.raw _)
   ·exact h.elim
  ·exact h.elim
theorem Zbq (hC:CxOK G C ro e0 σ0 w0) (hS:SRel G e σ w) (hF:FRel G e σ w f a.tmps) (hL:Later e0 σ0 w0 e σ w) (hN:a.tmps.size=N) (hds:Marks ds e σ w a.defers) (hZ:Z a.tmps) {ops:Array Oper} {o:Oper} (hd:∀d,o.dst=some d→d<N∧∀t v,Z t→Z (t.setIfInBounds d v))
  (h:ZkT C ops.toList Q o f σ K) :
  if Region.wanted o (yielded ops a.tmps)=true then o.wpIn (fw ro) n G.P a w (KRel G e0 σ0 w0 ds N Z K) (ZK G e0 σ0 w0 ds N Z Q)
  else KRel G e0 σ0 w0 ds N Z K (a.put o.dst Go.undef) w:=by
 unfold ZkT at h
 split at h
 ·rename_i hb
  have hg:o.guard=none:=by
   unfold Zo5 at hb
   split at hb
   ·split at hb
    ·assumption
    ·cases hb
   ·cases hb
  have:Region.wanted o (yielded ops a.tmps)=true:=by simp [Region.wanted,hg]
  rw [Ti this]
  simp only [XJ] at h
  have hnd:∀c,o.op≠.defer c:=fun c hc=>by rw [hc] at h;exact h
  refine ⟨fun _ _=>trivial,?_⟩
  rw [show (fw ro).round=ro from rfl,Oper.semAt_eq _ _ _ hnd]
  obtain ⟨pv,σ1,v,w1,e1,hK,hrun,hst,hS1,hr⟩:=ZjG hC.tab hS (fun x=>U9 hF x) o h
  rw [hrun]
  exact KRel.put hF hL hN hds hZ hd hK hst hS1 hr
 ·exact VP hC hS hF hL hN hds hZ hd h
theorem Zec (hC:CxOK G C ro e0 σ0 w0) {ops:Array Oper} (hd:∀o,o∈ops→∀d,o.dst=some d→d<N∧∀t v,Z t→Z (t.setIfInBounds d v)):∀(l:List Oper) (k:Nat),(∀j,l[j]?=ops[k+j]?)→∀{e:Env} {σ:St} {w:World} {a:Act} {f:Frame},
  SRel G e σ w→FRel G e σ w f a.tmps→Later e0 σ0 w0 e σ w→a.tmps.size=N→Marks ds e σ w a.defers→Z a.tmps→Zo6 C ops.toList Q l f σ →
  wpOpsIn (fw ro) n G.P ops (ZK G e0 σ0 w0 ds N Z Q) (List.range' k l.length) a w
 | [],k,_,e,σ,w,a,f,hS,hF,hL,hN,hds,hZ,h=>⟨.normal,f,e,σ,h,rfl,hS,hF,hL,hN,hds,hZ⟩
 | o::l,k,hl,e,σ,w,a,f,hS,hF,hL,hN,hds,hZ,h=>by
  have h0:ops[k]?=some o:=by simpa using (hl 0).symm
  have hstep:=Zbq (ro:=ro) (n:=n) hC hS hF hL hN hds hZ (ops:=ops) (hd o (T7 h0)) h
  have next:∀a' w',KRel G e0 σ0 w0 ds N Z (Zo6 C ops.toList Q l) a' w'→wpOpsIn (fw ro) n G.P ops (ZK G e0 σ0 w0 ds N Z Q) (List.range' (k+1) l.length) a' w':=fun a' w' ⟨f',e',σ',h1,h2,h3,h4,h5,h6,h7⟩ =>
   Zec hC hd l (k+1) (fun j=>by have:=hl (j+1);simpa [Sg,Nat.add_comm 1 j] using this) h2 h3 h4 h5 h6 h7 h1
  rw [Tc,List.range'_succ]
  simp only [wpOpsIn,h0]
  split at hstep
  ·rename_i hw
   rw [Ti hw]
   exact Oper.wpIn_mono next hstep
  ·rename_i hw
   rw [Te hw]
   exact ⟨fun _ _=>trivial,next _ _ hstep⟩
end
end Go.PM
end

section
namespace Go.PM
theorem Zb4 {k:IntKind} {n:Int} {K:PV→Prop} (h:Zcg k n K):∃v,K v∧∀K':PV→Prop,K' v→Zcg k n K':=by
 rcases h with ⟨h1,h2⟩ | h
 ·exact ⟨_,h2,fun K' h'=>.inl ⟨h1,h'⟩⟩
 ·exact ⟨_,h,fun K' h'=>.inr h'⟩
theorem ZpN {op:BinOp} {k:IntKind} {a b:Int} {K:PV→Prop} (h:Ztu op k a b K):∃v,K v∧∀K':PV→Prop,K' v→Ztu op k a b K':=by
 cases op <;> simp only [Ztu] at h <;> first
  | exact h.elim
  | exact Zb4 h
  | exact ⟨_,h,fun K' h'=>h'⟩
  | (obtain ⟨v,h1,h2⟩:=Zb4 h.2;exact ⟨v,h1,fun K' h'=>⟨h.1,h2 K' h'⟩⟩)
  | exact ⟨_,h.2,fun K' h'=>⟨h.1,h'⟩⟩
theorem VQ {T:Tab}:∀{fs:List (Nat×Nat)} {i:Nat} {xs ys:List PV} {K:Bool→Prop},YV T i fs xs ys K→∃v,K v∧∀K':Bool→Prop,K' v→YV T i fs xs ys K'
 | [],i,xs,ys,K,h=>by cases xs <;> cases ys <;> first | exact ⟨_,h,fun K' h'=>h'⟩ | exact h.elim
 | (o,t)::fs,i,[],ys,K,h=>h.elim
 | (o,t)::fs,i,x::xs,[],K,h=>h.elim
 | (o,t)::fs,i,x::xs,y::ys,K,h=>by
  simp only [YV] at h
  split at h
  ·rename_i h1 h2
   split at h
   ·rename_i h3
    obtain ⟨v,g1,g2⟩:=VQ h
    exact ⟨_,g1,fun K' h'=>by simp only [YV,h1,h2,h3];exact g2 (fun r=>K' _) h'⟩
   ·exact h.elim
  ·exact m115
  ·exact m115
  ·exact h.elim
theorem ZtG {T:Tab} {t:TypeId} {x y:Operand} {px py:PV} {K:Bool→Prop} (h:peq T t x y px py K):∃v,K v∧∀K':Bool→Prop,K' v→peq T t x y px py K':=by
 unfold peq at h
 split at h
 case h_6 =>
  rename_i hk
  split at h
  ·rename_i he
   split at h
   ·obtain ⟨v,g1,g2⟩:=VQ h
    exact ⟨v,g1,fun K' h'=>by simp only [peq,hk,he];exact g2 K' h'⟩
   ·exact h.elim
  ·exact h.elim
 all_goals (repeat' split at h) <;> first
  | exact h.elim
  | exact ⟨_,h,fun K' h'=>by simp only [peq, *];exact h'⟩
  | exact ⟨_,h,fun K' h'=>by simp only [peq, *]⟩
theorem ZpO {T:Tab} {op:BinOp} {t:TypeId} {x y:Operand} {px py:PV} {K:PV→Prop} (h:Zo4 T op t x y px py K):∃v,K v∧∀K':PV→Prop,K' v→Zo4 T op t x y px py K':=by
 unfold Zo4 at h
 split at h
 ·split at h
  ·obtain ⟨v,h1,h2⟩:=Zb4 h.2
   exact ⟨_,h1,fun K' h'=>⟨h.1,h2 K' h'⟩⟩
  ·exact ⟨_,h.2,fun K' h'=>⟨h.1,h'⟩⟩
  ·rename_i h1 h2
   split at h
   ·rename_i hk
    obtain ⟨v,g1,g2⟩:=ZpN h
    refine ⟨v,g1,fun K' h'=>?_⟩
    cases op <;> first
     | exact absurd rfl h1
     | exact absurd rfl h2
     | (simp only [Zo4,hk];exact g2 K' h')
   ·exact h.elim
 ·cases op <;> simp only at h <;> first
   | exact h.elim
   | exact ⟨_,h,fun K' h'=>h'⟩
   | exact ⟨_,h.2,fun K' h'=>⟨h.1,h'⟩⟩
 ·rename_i h1 h2
  cases op <;> simp only at h <;> first
   | exact h.elim
   | (obtain ⟨v, g1, g2⟩ := ZtG h
      refine ⟨_,g1,fun K' h'=>?_⟩
      unfold Zo4
      split
      ·exact absurd rfl (h1 _ _ _ _ rfl)
      ·exact absurd rfl (h2 _ _ rfl)
      ·exact g2 _ h')
theorem Zco {lo hi:Option PV} {n:Nat} {K:Nat→Nat→Prop} (h:VJ lo hi n K):∃a b,K a b∧∀K':Nat→Nat→Prop,K' a b→VJ lo hi n K':=by
 unfold VJ at h
 split at h
 ·exact ⟨_,_,h,fun K' h'=>h'⟩
 ·split at h
  ·exact ⟨_,_,h.2.2,fun K' h'=>⟨h.1,h.2.1,h'⟩⟩
  ·exact h.elim
 ·split at h
  ·exact ⟨_,_,h.2.2,fun K' h'=>⟨h.1,h.2.1,h'⟩⟩
  ·exact h.elim
 ·split at h
  ·exact ⟨_,_,h.2.2.2,fun K' h'=>⟨h.1,h.2.1,h.2.2.1,h'⟩⟩
  ·exact h.elim
theorem ZeM {T:Tab} {t:TypeId} {x:PV} {bx:List Box} {K:PV→Prop} (h:ZaH T t x bx K):∃v,K v∧∀K':PV→Prop,K' v→ZaH T t x bx K':=by
 unfold ZaH at h
 (repeat' split at h) <;> first
  | exact h.elim
  | exact ⟨_,h,fun K' h'=>by simp only [ZaH, *];exact h'⟩
  | exact ⟨_,h,fun K' h'=>by simp_all [ZaH]⟩
theorem Zld {T:Tab} {t:TypeId} {x:PV} {lo hi:Option PV} {K:PV→Prop} (h:U7 T t x lo hi K):∃v,K v∧∀K':PV→Prop,K' v→U7 T t x lo hi K':=by
 unfold U7 at h
 split at h
 ·rename_i hk
  split at h
  ·obtain ⟨a,b,h1,h2⟩:=Zco h
   exact ⟨_,h1,fun K' h'=>by simp only [U7,hk];exact h2 (fun a b=>K' _) h'⟩
  ·exact h.elim
 ·rename_i el hk
  split at h
  ·exact h.elim
  ·rename_i hk2
   split at h
   ·rename_i rows hrows
    obtain ⟨hw,h⟩:=h
    obtain ⟨a,b,h1,h2⟩:=Zco h
    refine ⟨_,h1,fun K' h'=>?_⟩
    unfold U7
    rw [hk]
    dsimp only
    cases hk3:(T.get el).kind
    case other=>exact absurd hk3 hk2
    all_goals (dsimp only;rw [hrows];exact ⟨hw,h2 (fun a b=>K' _) h'⟩)
   ·exact h.elim
 ·rename_i n el hk
  split at h
  ·exact h.elim
  ·rename_i hk2
   split at h
   ·refine ⟨_,h,fun K' h'=>?_⟩
    unfold U7
    rw [hk]
    dsimp only
    cases hk3:(T.get el).kind
    case other=>exact absurd hk3 hk2
    all_goals exact h'
   ·rename_i hlo hhi
    obtain ⟨g1,g2,h⟩:=h
    refine ⟨_,h,fun K' h'=>?_⟩
    unfold U7
    rw [hk]
    dsimp only
    cases hk3:(T.get el).kind
    case other=>exact absurd hk3 hk2
    all_goals exact ⟨g1,g2,h'⟩
   ·exact h.elim
 ·exact h.elim
theorem Zht {T:Tab} {fs:List (Nat×Nat)} {ρ:Operand→PV}:∀{ps:List (Nat×Operand)} {cs:List PV} {K:List PV→Prop},Ym T fs ρ ps cs K→∃v,K v∧∀K':List PV→Prop,K' v→Ym T fs ρ ps cs K'
 | [],cs,K,h=>⟨cs,h,fun K' h'=>h'⟩
 | (i,x)::ps,cs,K,h=>by
  simp only [Ym] at h
  split at h
  ·split at h
   ·exact h.elim
   ·obtain ⟨v,h1,h2⟩:=Zht h
    exact ⟨v,h1,fun K' h'=>by have:=h2 K' h';simp only [Ym, *]⟩
   ·exact h.elim
  ·exact h.elim
theorem ZtH {T:Tab} {o:Op} {ty:TypeId} {ρ:Operand→PV} {bx:List Box} {K:PV→Prop} (h:qop T o ty ρ bx K):∃v,K v∧∀K':PV→Prop,K' v→qop T o ty ρ bx K':=by
 unfold qop at h
 split at h
 case h_5=>obtain ⟨v,h1,h2⟩:=ZeM h;exact ⟨v,h1,fun K' h'=>h2 K' h'⟩
 case h_7=>obtain ⟨v,h1,h2⟩:=ZpO h;exact ⟨v,h1,fun K' h'=>h2 K' h'⟩
 case h_14=>obtain ⟨v,h1,h2⟩:=Zld h;exact ⟨v,h1,fun K' h'=>h2 K' h'⟩
 case h_4 =>
  split at h
  ·rename_i fs hk;obtain ⟨v,h1,h2⟩:=Zht h;exact ⟨_,h1,fun K' h'=>by simp only [qop,hk];exact h2 (fun cs=>K' (.agg cs)) h'⟩
  ·rename_i n el hk
   split at h
   ·exact h.elim
   ·rename_i hk2
    split at h
    ·rename_i hb1
     obtain ⟨v,h1,h2⟩:=Zht h
     refine ⟨_,h1,fun K' h'=>?_⟩
     have h3:=h2 (fun cs=>K' (.agg cs)) h'
     simp only [qop,hk]
     cases hk5:(T.get el).kind
     case other=>exact absurd hk5 hk2
     all_goals (simp only [hb1];exact h3)
    ·exact h.elim
  ·exact h.elim
 case h_3 =>
  split at h
  ·rename_i t heq
   cases t
   ·exact ⟨_,h,fun K' h'=>by simp only [qop,heq];exact h'⟩
   ·exact ⟨_,h,fun K' h'=>by simp only [qop,heq];exact h'⟩
  ·exact h.elim
 all_goals (repeat' split at h) <;> first
  | exact h.elim
  | exact ⟨_,h,fun K' h'=>by first | (simp only [qop, *];exact h') | (simp only [qop, *])⟩
  | (obtain ⟨v,h1,h2⟩:=Zb4 h;exact ⟨_,h1,fun K' h'=>by first | (simp only [qop, *];exact h2 K' h') | (simp only [qop, *])⟩)
  | (obtain ⟨h1,h2⟩:=h;exact ⟨_,h2,fun K' h'=>by simp only [qop, *];exact ⟨h1,h'⟩⟩)
  | (obtain ⟨h0,h1,h2⟩:=h;exact ⟨_,h2,fun K' h'=>by first | (simp only [qop, *];exact ⟨h0,h1,h'⟩) | (simp only [qop, *];exact ⟨trivial,trivial,h'⟩)⟩)
  | skip
 ·rename_i h1 _ h2 _ h3 _ rows h4
  obtain ⟨l,hl,hK⟩:=h
  exact ⟨_,hK,fun K' h'=>by simp only [qop,h1,h2,h3,h4];exact ⟨l,hl,h'⟩⟩
 ·rename_i h1 _ h2 _ s h3
  obtain ⟨h4,h5,hK⟩:=h
  exact ⟨_,hK,fun K' h'=>by simp only [qop,h1,h2,h3];exact ⟨h4,h5,h'⟩⟩
 ·rename_i hi _ m el hk _ cs hx _ ha _ l hl
  obtain ⟨h4,h5,hK⟩:=h
  exact ⟨_,hK,fun K' h'=>by simp only [qop,hi,hk,hx,ha,hl];exact ⟨h4,h5,h'⟩⟩
 ·rename_i hi _ m el hk _ cs hx _ ha _ ho _ hs _ v hv
  obtain ⟨h4,h5,hK⟩:=h
  refine ⟨_,hK,fun K' h'=>?_⟩
  simp only [qop,hi,hk,hx,ha]
  cases hk3:(T.get el).kind
  case other=>exact absurd hk3 ho
  all_goals (simp only [hs,hv];exact ⟨h4,h5,h'⟩)
 ·rename_i hi _ el hk _ ho _ b off m hx
  exact m97
 ·rename_i hi _ el hk _ ho _ hne _ rows hr
  obtain ⟨r,h4,h5,h6⟩:=h
  split at h6
  ·rename_i h7
   refine ⟨_,h6,fun K' h'=>?_⟩
   simp only [qop,hi,hk]
   cases hk3:(T.get el).kind
   case other=>exact absurd hk3 ho
   all_goals
    split
    ·rename_i hx2;rw [hr] at hx2;cases hx2;exact ⟨r,h4,h5,by simp only [h7];exact h'⟩
    ·rename_i hx2;exact (hx2 _ hr).elim
  ·exact h6.elim
 ·rename_i hi _ m el hk _ ho _ b off hx
  exact m97
theorem ZjI {T:Tab} {o:Op} {ty:TypeId} {ρ:Operand→PV} {bx:List Box} {K:PV→Prop} (h1:ZjB T o=none) (h2:∀t n ps,o=.buildSlice t n ps→False) (h3:∀t l c,o=.makeSlice t l c→False):ZfO T o ty ρ bx K=qop T o ty ρ bx K:=by
 unfold ZfO
 rw [h1]
 cases o <;> first | rfl | exact (h2 _ _ _ rfl).elim | exact (h3 _ _ _ rfl).elim
theorem Zle {T:Tab} {o:Op} {ty:TypeId} {ρ:Operand→PV} {bx:List Box} {K:PV→Prop} (h:ZfO T o ty ρ bx K):∃v,K v∧∀K':PV→Prop,K' v→ZfO T o ty ρ bx K':=by
 unfold ZfO at h
 split at h
 ·rename_i x hx
  split at h
  ·rename_i s heq
   exact ⟨_,h,fun K' h'=>by unfold ZfO;rw [hx];simp only [heq];exact h'⟩
  ·exact h.elim
 ·rename_i hx
  split at h
  ·rename_i t n ps
   exact m127
  ·rename_i t l c
   exact m127
  ·rename_i hno hno2
   obtain ⟨v,h1,h2⟩:=ZtH h
   exact ⟨v,h1,fun K' h'=>by rw [ZjI hx hno hno2];exact h2 K' h'⟩
theorem Zhu {bx bx':List Box} {b off n:Nat} (h:Xd bx b off n=Xd bx' b off n) {t:TypeId} {cs:List PV} (hb:bx[b]?=some (.cells t cs)) :
  ∃t' cs',bx'[b]?=some (.cells t' cs')∧(cs.drop off).take n=(cs'.drop off).take n:=by
 unfold Xd at h
 rw [hb] at h
 simp only at h
 split at h
 ·rename_i t' cs' hb';exact ⟨t',cs',hb',Option.some.inj h⟩
 ·cases h
theorem Zcp {α:Type}:∀{n:Nat} {l m:List α},l.take n=m.take n→Uf n l=Uf n m
 | 0,_,_,_=>rfl
 | n+1,[],[],_=>rfl
 | n+1,[],y::m,h=>by simp at h
 | n+1,x::l,[],h=>by simp at h
 | n+1,x::l,y::m,h=>by
  simp only [List.take_succ_cons,List.cons.injEq] at h
  obtain ⟨rfl,h⟩:=h
  simp only [Uf,Zcp h]
theorem Zhv {T:Tab} {t:TypeId} {x:PV} {bx bx':List Box} {K:PV→Prop} (hpos:(T.get t).kind≠.other→(T.get t).kind.isAgg=false→(T.get t).size=1) (hl:∀b off,x=.ptr b off→Xd bx b off (T.get t).size=Xd bx' b off (T.get t).size)
  (h:ZaH T t x bx K):ZaH T t x bx' K:=by
 unfold ZaH at h ⊢
 split at h
 ·rename_i b off
  have hc:=hl b off rfl
  split at h
  ·rename_i ty cs hb
   obtain ⟨t',cs',hb',htake⟩:=Zhu hc hb
   simp only [hb']
   split at h
   ·rename_i hk
    rw [← Zcp htake];exact h
   ·rename_i hk
    have h1:(T.get t).kind≠.other→cs[off]?=cs'[off]?:=fun ho=>by
     have hp:=hpos ho hk
     have:=congrArg (·[0]?) htake
     simpa [List.getElem?_take,hp] using this
    cases hk2:(T.get t).kind <;> rw [hk2] at h <;> simp only at h ⊢ <;> first | exact h.elim | (rw [← h1 (by rw [hk2];simp)];exact h)
  ·exact h.elim
 ·exact h
 ·exact h.elim
theorem Zlf {T:Tab} {o:Op} {ty:TypeId} {ρ ρ':Operand→PV} {bx bx':List Box} {K:PV→Prop} (hρ:∀x,x∈o.operands→ρ x=ρ' x)
  (hpos:∀t,(T.get t).kind≠.other→(T.get t).kind.isAgg=false→(T.get t).size=1)
  (hl:∀t a b off,o=.load t a→ρ a=.ptr b off→Xd bx b off (T.get t).size=Xd bx' b off (T.get t).size) (h:qop T o ty ρ bx K):qop T o ty ρ' bx' K:=by
 cases o with
 | load t a =>
  have ha:ρ a=ρ' a:=hρ a (by simp [Op.operands])
  simp only [qop] at h ⊢
  rw [← ha]
  exact Zhv (hpos t) (fun b off hx=>hl t a b off rfl hx) h
 | build t ps =>
  simp only [qop] at h ⊢
  have fillC:∀fs (l:List (Nat×Operand)),(∀p∈l,ρ p.2=ρ' p.2)→∀cs (K:List PV→Prop),Ym T fs ρ l cs K→Ym T fs ρ' l cs K:=by
    intro fs l
    induction l with
    | nil=>intro _ cs K h;exact h
    | cons p l ih =>
     intro hp cs K h
     obtain ⟨i,x⟩:=p
     simp only [Ym] at h ⊢
     rw [← hp (i,x) (by simp)]
     split at h
     ·rename_i h1 h2
      split at h
      ·exact h.elim
      ·rename_i h3 h4 h5
       simp only [h1,h2,h3,h4]
       cases hk5:(T.get _).kind
       case other=>exact absurd hk5 h5
       all_goals exact ih (fun q hq=>hp q (by simp [hq])) _ _ h
      ·exact h.elim
     ·exact h.elim
  have hps:∀p∈ps.toList,ρ p.2=ρ' p.2:=fun p hp=>hρ p.2 (by simp only [Op.operands];exact TC.2 (by simp only [Sx];exact ⟨p,hp,rfl⟩))
  split at h
  ·exact fillC _ ps.toList hps _ _ h
  ·rename_i n el hk
   split at h
   ·exact h.elim
   ·rename_i hk2
    split at h
    ·rename_i hb1
     cases hk5:(T.get el).kind
     case other=>exact absurd hk5 hk2
     all_goals (exact fillC _ ps.toList hps _ _ h)
    ·exact h.elim
  ·exact h.elim
 | slice t x lo hi mx =>
  cases mx with
  | some _=>exact h
  | none =>
   simp only [qop] at h ⊢
   have h1:ρ x=ρ' x:=hρ x (by simp [Op.operands])
   have h2:lo.map ρ=lo.map ρ':=by cases lo with | none=>rfl | some a=>simp [hρ a (by simp [Op.operands])]
   have h3:hi.map ρ=hi.map ρ':=by cases hi with | none=>rfl | some a=>simp [hρ a (by simp [Op.operands])]
   rw [← h1,← h2,← h3];exact h
 | makeFunc fn a c =>
  cases fn with
  | func g =>
   simp only [qop] at h ⊢
   have h1:a.toList.map ρ=a.toList.map ρ':=TO fun x hx=>hρ x (by simp only [Op.operands,Array.mem_append];exact .inl (TC.2 hx))
   have h2:c.toList.map ρ=c.toList.map ρ':=TO fun x hx=>hρ x (by simp only [Op.operands,Array.mem_append];exact .inr (TC.2 hx))
   rw [← h1,← h2];exact h
  | _=>exact h
 | call c =>
  obtain ⟨callee,args,argTypes⟩:=c
  cases callee with
  | builtin b =>
   simp only [qop] at h ⊢
   exact m106
  | _=>exact h
 | move x=>simp only [qop] at h ⊢;rw [← hρ x (by simp [Op.operands])];exact h
 | assign x=>simp only [qop] at h ⊢;rw [← hρ x (by simp [Op.operands])];exact h
 | pick c a b=>simp only [qop] at h ⊢;rw [← hρ c (by simp [Op.operands]),← hρ a (by simp [Op.operands]),← hρ b (by simp [Op.operands])];exact h
 | nilCheck x=>simp only [qop] at h ⊢;rw [← hρ x (by simp [Op.operands])];exact h
 | binOp op t x y yt=>simp only [qop] at h ⊢;rw [← hρ x (by simp [Op.operands]),← hρ y (by simp [Op.operands])];exact h
 | unOp op t x=>simp only [qop] at h ⊢;rw [← hρ x (by simp [Op.operands])];exact h
 | convert s d x=>simp only [qop] at h ⊢;rw [← hρ x (by simp [Op.operands])];exact h
 | fieldAddr s x i=>simp only [qop] at h ⊢;rw [← hρ x (by simp [Op.operands])];exact h
 | field s x i=>simp only [qop] at h ⊢;rw [← hρ x (by simp [Op.operands])];exact h
 | index t x i=>simp only [qop] at h ⊢;rw [← hρ x (by simp [Op.operands]),← hρ i (by simp [Op.operands])];exact h
 | indexAddr t x i=>simp only [qop] at h ⊢;rw [← hρ x (by simp [Op.operands]),← hρ i (by simp [Op.operands])];exact h
 | extract x i=>simp only [qop] at h ⊢;rw [← hρ x (by simp [Op.operands])];exact h
 | makeInterface t x=>simp only [qop] at h ⊢;rw [← hρ x (by simp [Op.operands])];exact h
 | typeAssert x xt t b=>cases b <;> simp only [qop] at h ⊢ <;> first | exact h.elim | (rw [← hρ x (by simp [Op.operands])];exact h)
 | _=>exact h
theorem ZeN {T:Tab} {o:Op} {x:Operand} (h:ZjB T o=some x):x∈o.operands∧∀t a,o≠.load t a:=by
 unfold ZjB at h
 split at h
 ·(repeat' split at h) <;> first | cases h;done | (cases h;exact ⟨by simp [Op.operands],fun t a hh=>by cases hh⟩)
 ·cases h
theorem Je {w:Nat} {ρ ρ':Operand→PV}:∀{ps:List (Nat×Operand)} (_:∀p∈ps,ρ p.2=ρ' p.2) (rows:List (List D)),Wk w ρ ps rows=Wk w ρ' ps rows
 | [],_,_=>rfl
 | (i,x)::ps,h,rows=>by
  simp only [Wk]
  rw [← h (i,x) (by simp)]
  cases Zhl (ρ x) with
  | none=>rfl
  | some r =>
   have ih:=Je (w:=w) (ρ:=ρ) (ρ':=ρ') (ps:=ps) (fun p hp=>h p (Tr _ hp)) (rows.set i r)
   simp only [ih]
theorem Zed {T:Tab} {o:Op} {ty:TypeId} {ρ ρ':Operand→PV} {bx bx':List Box} {K:PV→Prop} (hρ:∀x,x∈o.operands→ρ x=ρ' x)
  (hpos:∀t,(T.get t).kind≠.other→(T.get t).kind.isAgg=false→(T.get t).size=1)
  (hl:∀t a b off,o=.load t a→ρ a=.ptr b off→Xd bx b off (T.get t).size=Xd bx' b off (T.get t).size) (h:ZfO T o ty ρ bx K):ZfO T o ty ρ' bx' K:=by
 unfold ZfO at h ⊢
 split at h
 ·rename_i x hx
  rw [← hρ x (ZeN hx).1]
  exact h
 ·rename_i hx
  split at h
  ·rename_i t n ps
   have:∀w rows,Wk w ρ ps.toList rows=Wk w ρ' ps.toList rows:=fun w rows=>Je (fun p hp=>hρ p.2 (by simp only [Op.operands];exact TC.2 (by simp only [Sx];exact ⟨p,hp,rfl⟩))) rows
   simp only [Zch,this] at h ⊢
   exact h
  ·rename_i t l c
   rw [← hρ l (by simp [Op.operands]),← hρ c (by simp [Op.operands])]
   exact h
  ·exact Zlf hρ hpos hl h
theorem Zlg {T:Tab} {o:Op} {ρ ρ':Operand→PV} {σ:St} {K:PV→St→Prop} (hρ:∀x,x∈o.operands→ρ x=ρ' x) (h:eop T o ρ σ K):eop T o ρ' σ K:=by
 cases o with
 | box e x=>simp only [eop] at h ⊢;rw [← hρ x (by simp [Op.operands])];exact h
 | store t a x=>simp only [eop] at h ⊢;rw [← hρ a (by simp [Op.operands]),← hρ x (by simp [Op.operands])];exact h
 | range t x=>simp only [eop] at h ⊢;rw [← hρ x (by simp [Op.operands])];exact h
 | next x b=>cases b <;> simp only [eop] at h ⊢ <;> first | exact h | (rw [← hρ x (by simp [Op.operands])];exact h)
 | call c =>
  obtain ⟨callee,args,argTypes⟩:=c
  cases callee with
  | builtin b =>
   cases b with
   | append =>
    simp only [eop] at h ⊢
    exact m106
   | _=>exact h
  | _=>exact h
 | _=>exact h
end Go.PM
end

section
namespace Go.PM
def Xn (all:List Oper) (o:Oper) (f:Frame):Option Bool:=match o.guard with
 | none=>some true
 | some (j,want)=>match Vg all j with
  | some s=>match f s with
   | .d (.bool t)=>some (t == want)
   | .raw (.tuple _)=>some false
   | _=>none
  | none=>none
theorem Xu (C:Cx) (all:List Oper) (Q:PQ) (o:Oper) (f:Frame) (σ:St) (K:Frame→St→Prop) :
  U2 C all Q o f σ K↔match Xn all o f with
   | some true=>Vf C o f σ Q K
   | some false=>K (Ye f o.dst (.raw Go.undef)) σ
   | none=>False:=by
 unfold U2 Xn
 cases hg:o.guard with
 | none=>exact Iff.rfl
 | some p =>
  obtain ⟨j,want⟩:=p
  simp only
  cases hs:Vg all j with
  | none=>exact Iff.rfl
  | some s =>
   simp only
   cases hf:f s with
   | d x =>
    cases x with
    | bool t=>cases t <;> cases want <;> simp only [CondP,Uk hf,Yw] <;> exact Iff.rfl
    | _=>exact Iff.rfl
   | raw v=>cases v <;> simp only [Yw] <;> exact Iff.rfl
   | _=>exact Iff.rfl
structure CxMono (C:Cx):Prop where
 one:∀t,(C.T.get t).kind≠.other→(C.T.get t).kind.isAgg=false→(C.T.get t).size=1
 call:∀g args σ (K K':PEnd→St→Prop),(∀e σ,K e σ→K' e σ)→C.call g args σ K→C.call g args σ K'
 raw:∀v args σ (K:PEnd→St→Prop),¬C.raw v args σ K
 quiet:C.pk=false
theorem Zcq {T:Tab} {o:Op} {ty:TypeId} {ρ:Operand→PV} {bx:List Box} {K K':PV→Prop} (hK:∀v,K v→K' v) (h:ZfO T o ty ρ bx K):ZfO T o ty ρ bx K' :=
 let ⟨v,h1,h2⟩:=Zle h;h2 K' (hK v h1)
theorem ZjJ {t:Bool} {X Y X' Y':Prop} (h1:X→X') (h2:Y→Y') (h:CondP t X Y):CondP t X' Y':=by cases t;exact h2 h;exact h1 h
theorem ZeO {T:Tab} {o:Op} {ρ:Operand→PV} {σ:St} {K K':PV→St→Prop} (hK:∀v σ,K v σ→K' v σ) (h:eop T o ρ σ K):eop T o ρ σ K':=by
 unfold eop at h ⊢
 (repeat' split at h) <;> first
  | exact h.elim
  | exact hK _ _ h
  | exact ZjJ (hK _ _) (hK _ _) h
  | exact ⟨h.1,h.2.1,h.2.2.1,hK _ _ h.2.2.2⟩
  | (rename_i hk;exfalso;simp_all;done)
section
variable {C:Cx} {all:List Oper} {Q:PQ} {f:Frame} {σ:St} {K K':Frame→St→Prop}
theorem ZjK (hM:CxMono C) {o:Oper} (hK:∀f σ,K f σ→K' f σ) (h:Vf C o f σ Q K):Vf C o f σ Q K':=by
 unfold Vf at h ⊢
 simp only [XJ,Yb] at h ⊢
 split at h
 ·exact Zcq (fun v hv=>by rw [Yw] at hv ⊢;exact hK _ _ hv) h
 ·split at h
  ·unfold ZfP at h ⊢
   split at h
   ·refine hM.call _ _ _ _ _ (fun e σ he=>?_) h
    cases e with
    | ret v=>simp only at he ⊢;rw [Yw] at he ⊢;exact hK _ _ he
    | panic v=>exact he
   ·exact (hM.raw _ _ _ _ h).elim
   ·exact h
  ·exact h
  ·exact ZeO (fun v σ hv=>by rw [Yw] at hv ⊢;exact hK _ _ hv) h
theorem ZaL (hM:CxMono C) {o:Oper} (hK:∀f σ,K f σ→K' f σ) (h:U2 C all Q o f σ K):U2 C all Q o f σ K':=by
 rw [Xu] at h ⊢
 split at h
 ·exact ZjK hM hK h
 ·exact hK _ _ h
 ·exact h
def looks (all:List Oper) (o:Oper):List Nat :=
 (o.op.operands.toList.filterMap fun | .tmp t=>some t | _=>none)++(match o.guard with | some (j,_)=>(Vg all j).toList | none=>[])
theorem Zhw {f f':Frame} {o:Oper} (h:∀d,d∈looks all o→f d=f' d) {x:Operand} (hx:x∈o.op.operands):ev f x=ev f' x:=by
 cases x with
 | tmp t =>
  refine h t ?_
  unfold looks
  refine TU.2 (.inl (List.mem_filterMap.2 ⟨.tmp t,TC.1 hx,rfl⟩))
 | _=>rfl
theorem ZaM {f f':Frame} {o:Oper} (h:∀d,d∈looks all o→f d=f' d):Xn all o f=Xn all o f':=by
 unfold Xn
 cases hg:o.guard with
 | none=>rfl
 | some p =>
  obtain ⟨j,want⟩:=p
  simp only
  cases hs:Vg all j with
  | none=>rfl
  | some s =>
   simp only
   rw [h s (by unfold looks;rw [hg];simp only [hs];simp)]
theorem Zee {d d':Option Nat} (h:∀i,d=some i→d'≠some i) (f:Frame) (v u:PV):Ye (Ye f d v) d' u=Ye (Ye f d' u) d v:=by
 cases d with
 | none=>rfl
 | some i =>
  cases d' with
  | none=>rfl
  | some j =>
   have hij:i≠j:=fun e=>h i rfl (by rw [e])
   funext k
   simp only [Ye]
   by_cases h1:j=k
   ·subst h1;rw [Yn,Xs _ _ hij,Yn]
   ·rw [Xs _ _ h1]
    by_cases h2:i=k
    ·subst h2;rw [Yn,Yn]
    ·rw [Xs _ _ h2,Xs _ _ h2,Xs _ _ h1]
theorem J5 {d:Option Nat} {v:PV} {k:Nat} (h:∀i,d=some i→i≠k):Ye f d v k=f k:=by
 cases d with
 | none=>rfl
 | some i=>exact Xs f v (h i rfl)
theorem calls_operands {x:Operand} {args:Array Operand} {at':Array TypeId} {y:Operand}:y∈(Op.call { callee:=.value x,args,argTypes:=at' }).operands↔y=x∨y∈args:=by
 simp [Op.operands,Call.operands]
theorem Zlh (hM:CxMono C) {o:Oper} {d:Option Nat} {v:PV} (h1:∀i,d=some i→i∉looks all o) (h2:∀i,d=some i→o.dst≠some i) (h:Vf C o (Ye f d v) σ Q K) :
  Vf C o f σ Q (fun f' σ'=>K (Ye f' d v) σ'):=by
 have hsame:∀k,k∈looks all o→Ye f d v k=f k:=fun k hk=>J5 fun i hi e=>h1 i hi (e ▸ hk)
 have hev:∀x,x∈o.op.operands→ev (Ye f d v) x=ev f x:=fun x hx=>Zhw hsame hx
 have hcomm:∀u,Ye (Ye f d v) o.dst u=Ye (Ye f o.dst u) d v:=fun u=>Zee h2 f v u
 unfold Vf at h ⊢
 simp only [XJ,Yb,Cx.pf,hM.quiet] at h ⊢
 split at h
 ·refine Zcq (fun u hu=>?_) (Zed hev hM.one (fun _ _ _ _ _ _=>rfl) h)
  rw [Yw] at hu ⊢;rw [hcomm] at hu;exact hu
 ·split at h
  ·rename_i x args at' ho
   have hx:ev (Ye f d v) x=ev f x:=hev x (by rw [ho];exact calls_operands.2 (.inl rfl))
   have hargs:args.toList.map (ev (Ye f d v))=args.toList.map (ev f):=TO fun y hy=>hev y (by rw [ho];exact calls_operands.2 (.inr (TC.2 hy)))
   rw [hx,hargs] at h
   have hk:∀(e:PEnd) (σ':St),(match e with | .ret u=>Zhc (Ye f d v) o.dst u fun f=>K f σ' | .panic v=>Q (.panic v) (fun _=>.undef) σ':Prop)→(match e with | .ret u=>Zhc f o.dst u fun f=>K (Ye f d v) σ' | .panic v=>Q (.panic v) (fun _=>.undef) σ':Prop):=fun e σ' he=>by
    cases e with
    | ret u=>simp only at he ⊢;rw [Yw] at he ⊢;rw [hcomm] at he;exact he
    | panic v=>exact he
   unfold ZfP at h ⊢
   split at h
   ·exact hM.call _ _ _ _ _ hk h
   ·exact (hM.raw _ _ _ _ h).elim
   ·exact h
  ·rename_i x ho
   rw [hev x (by rw [ho];simp [Op.operands])] at h
   exact h
  ·refine ZeO (fun u σ' hu=>?_) (Zlg (fun x hx=>hev x hx) h)
   rw [Yw] at hu ⊢;rw [hcomm] at hu;exact hu
theorem Zhx (hM:CxMono C) {o:Oper} (hK:∀u σ',(Xp o.op=false→σ'=σ)→K (Ye f o.dst u) σ'→K' (Ye f o.dst u) σ') (h:Vf C o f σ Q K):Vf C o f σ Q K':=by
 unfold Vf at h ⊢
 simp only [XJ,Yb] at h ⊢
 split at h
 ·rename_i hE
  exact Zcq (fun v hv=>by rw [Yw] at hv ⊢;exact hK _ _ (fun _=>rfl) hv) h
 ·rename_i hE
  have hE':∀σ',Xp o.op=false→σ'=σ:=fun σ' h=>by rw [hE] at h;cases h
  split at h
  ·unfold ZfP at h ⊢
   split at h
   ·refine hM.call _ _ _ _ _ (fun e σ he=>?_) h
    cases e with
    | ret v=>simp only at he ⊢;rw [Yw] at he ⊢;exact hK _ _ (hE' _) he
    | panic v=>exact he
   ·exact (hM.raw _ _ _ _ h).elim
   ·exact h
  ·exact h
  ·exact ZeO (fun v σ hv=>by rw [Yw] at hv ⊢;exact hK _ _ (hE' _) hv) h
theorem Zhy (hM:CxMono C) {o:Oper} (hK:∀u σ',(Xp o.op=false→σ'=σ)→K (Ye f o.dst u) σ'→K' (Ye f o.dst u) σ') (h:U2 C all Q o f σ K):U2 C all Q o f σ K':=by
 rw [Xu] at h ⊢
 split at h
 ·exact Zhx hM hK h
 ·exact hK _ _ (fun _=>rfl) h
 ·exact h
theorem Zli (hM:CxMono C) {o:Oper} {d:Option Nat} {v:PV} (h1:∀i,d=some i→i∉looks all o) (h2:∀i,d=some i→o.dst≠some i) (h:U2 C all Q o (Ye f d v) σ K) :
  U2 C all Q o f σ (fun f' σ'=>K (Ye f' d v) σ'):=by
 rw [Xu] at h ⊢
 rw [ZaM (f':=f) (fun k hk=>J5 fun i hi e=>h1 i hi (e ▸ hk))] at h
 split at h
 ·exact Zlh hM h1 h2 h
 ·rw [Zee h2] at h;exact h
 ·exact h
theorem Zhz (hM:CxMono C) {o:Oper} (hE:Xp o.op=false) (h:U2 C all Q o f σ K):∃v,K (Ye f o.dst v) σ∧∀f' σ',(∀d,d∈looks all o→f d=f' d) →
  (∀t a b off,o.op=.load t a→ev f a=.ptr b off→Xd σ.bx b off (C.T.get t).size=Xd σ'.bx b off (C.T.get t).size)→∀K':Frame→St→Prop,K' (Ye f' o.dst v) σ'→U2 C all Q o f' σ' K':=by
 rw [Xu] at h
 split at h
 ·rename_i hg
  unfold Vf at h
  simp only [hE] at h
  obtain ⟨v,hv,hall⟩:=Zle h
  rw [Yw] at hv
  refine ⟨v,hv,fun f' σ' hf hl K' hK'=>?_⟩
  rw [Xu,← ZaM hf,hg]
  simp only [Vf,hE]
  refine Zed (fun x hx=>Zhw hf hx) hM.one hl (hall _ ?_)
  rw [Yw];exact hK'
 ·rename_i hg
  refine ⟨_,h,fun f' σ' hf hl K' hK'=>?_⟩
  rw [Xu,← ZaM hf,hg]
  exact hK'
 ·exact h.elim
theorem chkL_iff {ms:List Nat} {j:Nat} {pre post:List Box} {X:Prop}:∀{l:List Ld},Znu ms j pre post l X↔(∀d,d∈l→anc ms d.i j=false→Xd pre d.b d.off d.n=Xd post d.b d.off d.n)∧X
 | []=>by simp [Znu]
 | d::l=>by
  obtain ⟨di,db,doff,dn⟩:=d
  simp only [Znu]
  cases hd:anc ms di j with
  | true=>simp only [chkL_iff,Tq,forall_eq_or_imp,hd,Bool.true_eq_false,false_implies,true_and]
  | false=>simp only [chkL_iff,Tq,forall_eq_or_imp,hd,true_implies,and_assoc]
theorem ZaN {o:Oper} {f':Frame} (h:∀d,d∈looks all o→f d=f' d) (T:Tab) (i:Nat) (ctx:List Ld):VL T o i f ctx=VL T o i f' ctx:=by
 unfold VL
 split
 ·rename_i t a ho
  rw [Zhw h (by rw [ho];simp [Op.operands]:a∈o.op.operands)]
 ·rfl
theorem Zlj {o:Oper} {ctx ctx':List Ld} (h:∀d,d∈ctx'→d∈ctx) (T:Tab) (i:Nat):∀d,d∈VL T o i f ctx'→d∈VL T o i f ctx:=by
 unfold VL
 split
 ·split
  ·intro d hd;rcases Tq.1 hd with rfl | hd
   ·simp
   ·exact Tr _ (h d hd)
  ·exact h
 ·exact h
theorem Zlk {o:Oper} {ctx:List Ld} (T:Tab) (i:Nat):∀d,d∈ctx→d∈VL T o i f ctx:=by
 unfold VL
 split
 ·split
  ·intro d hd;exact Tr _ hd
  ·exact fun _ h=>h
 ·exact fun _ h=>h
theorem Zll {o o':Oper} {f':Frame} {ctx:List Ld} (T:Tab) (i i':Nat):∀d,d∈VL T o i f (VL T o' i' f' ctx)→d∈VL T o' i' f' (VL T o i f ctx):=by
 have key:∀(o:Oper) (i:Nat) (f:Frame),∃l,∀c,VL T o i f c=l++c:=fun o i f=>by
  unfold VL
  split
  ·split
   ·exact ⟨[_],fun c=>rfl⟩
   ·exact ⟨[],fun c=>rfl⟩
  ·exact ⟨[],fun c=>rfl⟩
 obtain ⟨l,hl⟩:=key o i f
 obtain ⟨l',hl'⟩:=key o' i' f'
 intro d hd
 rw [hl,hl'] at hd
 rw [hl',hl]
 simp only [TU] at hd ⊢
 rcases hd with h | h | h
 ·exact .inr (.inl h)
 ·exact .inl h
 ·exact .inr (.inr h)
theorem Zcr (hM:CxMono C) {ms:List Nat} {i:Nat} {o:Oper} {ctx ctx':List Ld} {K:List Ld→Frame→St→Prop} (hs:∀d,d∈ctx'→d∈ctx) (hK:∀c c' f σ,(∀d,d∈c'→d∈c)→K c f σ→K c' f σ)
  (h:Vi C all ms Q i o ctx f σ K):Vi C all ms Q i o ctx' f σ K:=by
 unfold Vi at h ⊢
 refine ZaL hM (fun f' σ' hk=>?_) h
 cases hE:Xp o.op with
 | true=>simp only [hE] at hk ⊢;rw [chkL_iff] at hk ⊢;exact ⟨fun d hd=>hk.1 d (hs d hd),hK _ _ _ _ hs hk.2⟩
 | false=>simp only [hE] at hk ⊢;exact hK _ _ _ _ (Zlj hs _ _) hk
theorem ZfY (hM:CxMono C) {ms:List Nat}:∀(l:List (Nat×Oper)) (c c':List Ld) (f:Frame) (σ:St),(∀d,d∈c'→d∈c)→Vj C all ms Q l c f σ→Vj C all ms Q l c' f σ
 | [],_,_,_,_,_,h=>h
 | (i,o)::l,c,c',f,σ,hs,h=>Zcr hM hs (fun c c' f σ=>ZfY hM l c c' f σ) h
def Zbr (all:List Oper) (x y:Oper):Bool :=
 (match x.dst with | some d=>!(Zhd d (looks all y)) && (match y.dst with | some d'=>!(Nat.beq d d') | none=>true) | none=>true) &&
 (match y.dst with | some d=>!(Zhd d (looks all x)) | none=>true)
theorem ZhA {x y:Oper} (h:Zbr all x y=true):(∀i,x.dst=some i→i∉looks all y)∧(∀i,x.dst=some i→y.dst≠some i)∧(∀i,y.dst=some i→i∉looks all x):=by
 unfold Zbr at h
 rw [Tj] at h
 refine ⟨fun i hi=>?_,fun i hi=>?_,fun i hi=>?_⟩
 ·have:=h.1;rw [hi] at this;simp only [Tj,TS] at this
  intro hm;rw [(Yz _ _).2 hm] at this;cases this.1
 ·have:=h.1;rw [hi] at this;simp only [Tj,TS] at this
  intro hm;rw [hm] at this;simp at this
 ·have:=h.2;rw [hi] at this;simp only [TS] at this
  intro hm;rw [(Yz _ _).2 hm] at this;cases this
theorem ZwD (hM:CxMono C) {ms:List Nat} {ix iy:Nat} {x y:Oper} {ctx:List Ld} {K0:List Ld→Frame→St→Prop} (hK:∀c c' f σ,(∀d,d∈c'→d∈c)→K0 c f σ→K0 c' f σ)
  (hE:Xp x.op=false) (hap:Zbr all x y=true) (hanc:anc ms ix iy=false) (h:Vi C all ms Q ix x ctx f σ (fun c f σ=>Vi C all ms Q iy y c f σ K0)) :
  Vi C all ms Q iy y ctx f σ (fun c f σ=>Vi C all ms Q ix x c f σ K0):=by
 obtain ⟨ha,hb,hc⟩:=ZhA hap
 unfold Vi at h
 simp only [hE] at h
 obtain ⟨v,hv,hall⟩:=Zhz hM hE h
 have hsame:∀u d,d∈looks all x→f d=Ye f y.dst u d:=fun u d hd=>(J5 fun i hi e=>hc i hi (e ▸ hd)).symm
 have hv:=Zli hM ha hb hv
 unfold Vi
 refine Zhy hM (fun u σ' hq hk=>?_) hv
 cases hEy:Xp y.op with
 | true =>
  simp only [hEy] at hk ⊢
  rw [chkL_iff] at hk ⊢
  refine ⟨fun d hd hda=>hk.1 d (Zlk _ _ d hd) hda,?_⟩
  simp only [hE]
  refine hall _ _ (hsame u) (fun t a b off ho ha=>?_) _ ?_
  ·exact hk.1 ⟨ix,b,off,(C.T.get t).size⟩ (by simp [VL,ho,ha]) hanc
  ·rw [← ZaN (hsame u)];exact hk.2
 | false =>
  simp only [hEy] at hk ⊢
  simp only [hE]
  obtain rfl:=hq hEy
  refine hall _ _ (hsame u) (fun t a b off ho ha=>rfl) _ ?_
  rw [← ZaN (hsame u)]
  refine hK _ _ _ _ ?_ hk
  rw [← ZaN (f:=f) (f':=Ye f x.dst v) (o:=y) (fun d hd=>(J5 fun i hi e=>ha i hi (e ▸ hd)).symm)]
  exact Zll _ _ _
theorem ZhB (hM:CxMono C) {ms:List Nat} {i:Nat} {o:Oper} {post:List (Nat×Oper)}:∀(pre:List (Nat×Oper)),(∀p,p∈pre→Xp p.2.op=false∧Zbr all p.2 o=true∧anc ms p.1 i=false)→∀(ctx:List Ld) (f:Frame) (σ:St),
  Vj C all ms Q (pre++(i,o)::post) ctx f σ→Vi C all ms Q i o ctx f σ (Vj C all ms Q (pre++post))
 | [],_,_,_,_,h=>h
 | (ix,x)::pre,hp,ctx,f,σ,h=>by
  obtain ⟨h1,h2,h3⟩:=hp (ix,x) (by simp)
  refine ZwD hM (ZfY hM _) h1 h2 h3 ?_
  have h':Vi C all ms Q ix x ctx f σ (Vj C all ms Q (pre++(i,o)::post)):=h
  unfold Vi at h' ⊢
  refine ZaL hM (fun f' σ' hk=>?_) h'
  cases hE:Xp x.op with
  | true=>rw [hE] at h1;cases h1
  | false=>simp only [hE] at hk ⊢;exact ZhB hM pre (fun p hp'=>hp p (Tr _ hp')) _ _ _ hk
end
end Go.PM
end
