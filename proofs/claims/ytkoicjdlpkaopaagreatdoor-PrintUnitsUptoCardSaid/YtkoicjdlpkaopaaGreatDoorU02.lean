/- A part of the proof: plain logic, contracts and laws over the given program. -/
import Derived.Deep.AppendSrc
import Derived.Deep.Upon
import Derived.Lib.OthersKept
import Derived.Lib.ConvBytes
import Derived.OrdersIn
import Derived.Test.YtkoicjdlpkaopaaGreatDoorU01
set_option linter.unusedVariables false
set_option linter.unusedSimpArgs false
set_option linter.all false
set_option maxRecDepth 100000
set_option maxHeartbeats 16000000
section
namespace Go.PM
section
variable {G:GE} {e:Env} {σ:St} {w:World} {T:Tab}
structure Grows (w w1:World):Prop where
 os:w1.os=w.os
 tape:w1.tape=w.tape
 output:w1.output=w.output
 size:w.heap.size<=w1.heap.size
 old:∀b,b<w.heap.size->w1.heap[b]?=w.heap[b]?
theorem Grows.refl (w:World):Grows w w:=⟨rfl,rfl,rfl,Tr _,fun _ _=>rfl⟩
theorem Grows.trans {a b c:World} (h:Grows a b) (k:Grows b c):Grows a c :=
 ⟨k.os.trans h.os,k.tape.trans h.tape,k.output.trans h.output,TW h.size k.size,fun i hi=>(k.old i (TH hi h.size)).trans (h.old i hi)⟩
theorem Grows.alloc (w:World) (o:Obj):Grows w (w.alloc o):=⟨rfl,rfl,rfl,by simp only [World.alloc,Array.size_push];omega,fun i hi=>heap_alloc_old w o i hi⟩
theorem Grows.drew (w:World):Grows w w.drew:=⟨rfl,rfl,rfl,Tr _,fun _ _=>rfl⟩
theorem Grows.cell {w w1:World} (h:Grows w w1) {b off:Nat} (hb:b<w.heap.size):w1.cell? ⟨b,off,none⟩=w.cell? ⟨b,off,none⟩:=by simp [World.cell?,h.old b hb]
theorem Grows.stepped {w1:World} (h:Grows w w1) (e:Env) (σ:St):Stepped e σ w e σ w1 where
 len:=Tr _
 beta:=fun _ _=>rfl
 X:=rfl
 pres:=fun b off u hc ho=>⟨ho,(h.cell (Uo hc)).trans hc⟩
 blocks:=fun b hb _ _=>h.old b hb
 size:=h.size
 os:=h.os
 tape:=h.tape
 output:=h.output
 fresh:=fun i h1 h2=>oM
 ftok:=fun t ht p hp=>.inr ⟨t,ht,p,hp,rfl⟩
 nx:=Tr _
 toks:=fun _ _ ht=>⟨ht,rfl⟩
 own:=fun _ _ _ _ _ hp=>h.old _ hp
theorem SRel.grow (hS:SRel G e σ w) {w1:World} (h:Grows w w1):SRel G e σ w1 where
 inj:=hS.inj
 box:=fun i x hx=>(hS.box i x hx).step (h.stepped e σ) (h.old _ (hS.lt (Tj.1 hx).1))
 low:=hS.low
 tkn:=hS.tkn
 own:=fun t ht p hp=>by
  obtain ⟨h1,h2,cs,ty,fz,h3⟩:=hS.own t ht p hp;exact ⟨h1,h2,cs,ty,fz,(h.old _ (Tq.1 h3).1).trans h3⟩
 dis:=hS.dis
 xown:=hS.xown
 xlt:=fun b off hx=>TH (hS.xlt b off hx) h.size
 glob:=fun b hb=>(h.old b (TH hb hS.big)).trans (hS.glob b hb)
 big:=TW hS.big h.size
def Env.more (e:Env) (n b:Nat):Env:={ e with β:=fun i=>if i=n then b else e.β i }
theorem ZBK (σ:St) (x:Box):(σ.new x).bx.length=σ.bx.length+1:=by simp [St.new]
theorem ZcZ (hS:SRel G e σ w) (x:Box) (ob:Obj) (hob:∀e1 σ1 w1,Stepped e σ w e1 σ1 w1->w1.heap[w.heap.size]?=some ob->BRel G e1 σ1 w1 x w.heap.size) :
  Stepped e σ w (e.more σ.bx.length w.heap.size) (σ.new x) (w.alloc ob)/\SRel G (e.more σ.bx.length w.heap.size) (σ.new x) (w.alloc ob) /\
   VRel G (e.more σ.bx.length w.heap.size) (σ.new x) (w.alloc ob) (.ptr σ.bx.length 0) (.pointer (some ⟨w.heap.size,0,none⟩)):=by
 have hg:=Grows.alloc w ob;have hβ:∀i,i<σ.bx.length->(e.more σ.bx.length w.heap.size).β i=e.β i:=fun i hi=>by simp only [Env.more];rw [Tc oM]
 have se:(e.more σ.bx.length w.heap.size).β σ.bx.length=w.heap.size:=by simp [Env.more]
 have hst:Stepped e σ w (e.more σ.bx.length w.heap.size) (σ.new x) (w.alloc ob):={
  len:=by rw [ZBK];omega
  beta:=hβ
  X:=rfl
  pres:=fun b off u hc ho=>⟨⟨ho.1,fun i hi=>by
    have hb:=Uo hc;rw [ZBK] at hi
    by_cases h:i=σ.bx.length
    ·rw [h,se];omega
    rw [hβ i oM];exact ho.2.1 i oM,ho.2.2⟩,(hg.cell (Uo hc)).trans hc⟩
  blocks:=fun b hb _ _=>hg.old b hb
  size:=hg.size
  os:=rfl
  tape:=rfl
  output:=rfl
  fresh:=fun i h1 h2=>by
   rw [ZBK] at h2;rw [show i=σ.bx.length by omega,se];exact Tr _
  ftok:=fun t ht p hp=>.inr ⟨t,ht,p,hp,rfl⟩
  nx:=Tr _
  toks:=fun _ _ ht=>⟨ht,rfl⟩
  own:=fun _ _ _ _ _ hp=>hg.old _ hp }
 refine ⟨hst,?_,?_⟩
 ·exact {
   inj:=fun i j hi hj km=>by
    rw [ZBK] at hi hj
    by_cases h1:i=σ.bx.length <;> by_cases h2:j=σ.bx.length
    ·omega
    ·rw [h1,se,hβ j oM] at km;have:=hS.lt (i:=j) oM;omega
    ·rw [h2,se,hβ i oM] at km;have:=hS.lt (i:=i) oM;omega
    rw [hβ i oM,hβ j oM] at km;exact hS.inj i j oM oM km
   box:=fun i y hy=>by
    have hi:=(Tj.1 hy).1;rw [ZBK] at hi
    by_cases h1:i=σ.bx.length
    ·subst h1;rw [se];simp [St.new] at hy;subst hy;exact hob _ _ _ hst (heap_alloc_new w ob)
    have mc:i<σ.bx.length:=by omega
    rw [hβ i mc];simp only [St.new,TM mc] at hy;exact (hS.box i y hy).step hst (hg.old _ (hS.lt mc))
   low:=fun i hi=>by
    rw [ZBK] at hi
    by_cases h1:i=σ.bx.length
    ·rw [h1,se];exact hS.big
    rw [hβ i oM];exact hS.low i oM
   tkn:=hS.tkn
   own:=fun t ht p hp=>by
    obtain ⟨h1,h2,cs,ty,fz,h3⟩:=hS.own t ht p hp;have ah:=(Tq.1 h3).1;refine ⟨h1,fun i hi=>?_,cs,ty,fz,(hg.old _ ah).trans h3⟩;rw [ZBK] at hi
    by_cases h4:i=σ.bx.length
    ·rw [h4,se];omega
    rw [hβ i oM];exact h2 i oM
   dis:=hS.dis
   xown:=hS.xown
   xlt:=fun b off hx=>TH (hS.xlt b off hx) hg.size
   glob:=fun b hb=>(hg.old b (TH hb hS.big)).trans (hS.glob b hb)
   big:=TW hS.big hg.size }
 have:=VRel.ptr (G:=G) (e:=e.more σ.bx.length w.heap.size) (σ:=σ.new x) (w:=w.alloc ob) σ.bx.length 0 (by rw [ZBK];omega)
 rwa [se] at this
theorem Zc0 (hS:SRel G e σ w) (t:TypeId) (cs:List PV) (vs:Array Value) (hs:vs.size=cs.length) (hr:∀(i:Nat) (x:PV) (u:Value),cs[i]?=some x->vs[i]?=some u->VRel G e σ w x u/\u.oneCell'=true) :
  Stepped e σ w (e.more σ.bx.length w.heap.size) (σ.new (.cells t cs)) (w.alloc (.cells vs t))/\SRel G (e.more σ.bx.length w.heap.size) (σ.new (.cells t cs)) (w.alloc (.cells vs t)) /\
   VRel G (e.more σ.bx.length w.heap.size) (σ.new (.cells t cs)) (w.alloc (.cells vs t)) (.ptr σ.bx.length 0) (.pointer (some ⟨w.heap.size,0,none⟩)) :=
 ZcZ hS (.cells t cs) (.cells vs t) (fun _ _ _ hst hh=>⟨vs,hh,hs,fun i x u hx hu=>⟨(hr i x u hx hu).1.step hst,(hr i x u hx hu).2⟩⟩)
def ZsC (P:Program) (ρ':Operand->Value) (o:Oper) (w:World) (v:Value) (w1:World):Prop :=
 (execOp ρ' o).run P w=.ok (.value v) w1\/((execOp ρ' o).run P w=.ok .skip w1/\v=Go.undef)
theorem XH (b:Nat):∀(vs:List Value) (o:Nat) (w:World) (cs:Array Value) (ty:TypeId) (fz:Nat×Nat),w.heap[b]?=some (.cells cs ty fz) ->
  ∃cs',(w.setCells b o vs).heap[b]?=some (.cells cs' ty fz)/\cs'.size=cs.size/\∀i,cs'[i]?=if o<=i/\i<o+vs.length/\i<cs.size then vs[i - o]? else cs[i]?
 | [],o,w,cs,ty,fz,h=>⟨cs,h,rfl,fun i=>by rw [Tc];simp;omega⟩
 | v::vs,o,w,cs,ty,fz,h=>by
  have h1:(w.setCell ⟨b,o,none⟩ v).heap[b]?=some (.cells (cs.setIfInBounds o v) ty fz):=by
   simp [World.setCell,Array.getElem?_modify,h]
  obtain ⟨cs',h2,h3,h4⟩:=XH b vs (o+1) _ _ ty fz h1;refine ⟨cs',h2,by rw [h3];simp,fun i=>?_⟩;rw [h4];simp only [Array.size_setIfInBounds,Td,T5]
  by_cases hi:o+1<=i/\i<o+1+vs.length/\i<cs.size
  ·rw [Tg hi,Tg ⟨oM,oM,oM⟩,show i - o=(i - (o+1))+1 by omega,T6]
  rw [Tc hi]
  by_cases h5:o=i
  ·subst h5
   by_cases h6:o<cs.size
   ·rw [Tg rfl,Tg h6,Tg ⟨oM,oM,h6⟩];simp
   rw [Tg rfl,Tc h6,Tc oM];simp [h6]
  rw [Tc h5,Tc oM]
theorem Y2 (b:Nat):∀(vs:List Value) (o:Nat) (w:World),(w.setCells b o vs).heap.size=w.heap.size
 | [],_,_=>rfl
 | v::vs,o,w=>by
  show ((w.setCell ⟨b,o,none⟩ v).setCells b (o+1) vs).heap.size=_;rw [Y2 b vs];simp [World.setCell]
theorem Xr (b:Nat):∀(vs:List Value) (o:Nat) (w:World),(w.setCells b o vs).os=w.os/\(w.setCells b o vs).tape=w.tape/\(w.setCells b o vs).output=w.output/\∀k,k≠b->(w.setCells b o vs).heap[k]?=w.heap[k]?
 | [],_,_=>⟨rfl,rfl,rfl,fun _ _=>rfl⟩
 | v::vs,o,w=>by
  obtain ⟨h1,h2,h3,h4⟩:=Xr b vs (o+1) (w.setCell ⟨b,o,none⟩ v);exact ⟨h1,h2,h3,fun k hk=>(h4 k hk).trans (RowKit.Below.heap_setCell w ⟨b,o,none⟩ v k hk)⟩
theorem J6 (hT:TabOK T G.P) (hS:SRel G e σ w) {t:TypeId} {b off:Nat} {x:PV} {v:Value} {l cs:List PV} {ty:TypeId} (hb:σ.bx[b]?=some (.cells ty cs)) (hx:VRel G e σ w x v) (hl:x.cells=some l)
  (ab:l.length=(T.get t).size) (mh:off+l.length<=cs.length) (hk:(T.get t).kind≠.other) :
  ∃w1,(Instr.storeAt t (.pointer (some ⟨e.β b,off,none⟩)) v).run G.P w=.ok () w1/\Stepped e σ w e (σ.set b (.cells ty (Z9 cs off l))) w1/\SRel G e (σ.set b (.cells ty (Z9 cs off l))) w1:=by
 obtain ⟨i,d,z,hi,hd,hs,ff,bh,hz,ei,_⟩:=(hT.get hk).ex;have cu:b<σ.bx.length:=(Tj.1 hb).1;obtain ⟨vs,kz,oq,hv3⟩:=hS.box b _ hb;obtain ⟨dl,fu⟩:=VW hx hl;have hvc:v.cells.toList.length=l.length:=by simpa using dl
 have lg:∀u∈v.cells.toList,u.oneCell'=true:=fun u hu=>by
  exact m185
 have am:=run_storeCells_cells (P:=G.P) (e.β b) off v.cells.toList 0 w (fun j hj=>by
   have:off+j<vs.size:=oM;simp [World.cell?,kz,this]) (fun j hj=>by simp [World.frozen?,kz]) lg
 simp only [Se] at am;obtain ⟨r1,r2,r3,r4⟩:=Xr (e.β b) v.cells.toList off w;obtain ⟨cs',h1,h2,h3⟩:=XH (e.β b) v.cells.toList off w vs ty (0,0) kz;have gk:(σ.set b (.cells ty (Z9 cs off l))).bx.length=σ.bx.length:=by simp [St.set]
 have hst:Stepped e σ w e (σ.set b (.cells ty (Z9 cs off l))) (w.setCells (e.β b) off v.cells.toList):={
  len:=by rw [gk];exact Tr _
  beta:=fun _ _=>rfl
  X:=rfl
  pres:=fun k o u hk ho=>⟨⟨ho.1,fun j hj=>ho.2.1 j (by rw [gk] at hj;exact hj),ho.2.2⟩,by simpa [World.cell?,r4 k (fun h=>ho.2.1 b cu h.symm)] using hk⟩
  blocks:=fun k hk og _=>r4 k (fun h=>og b cu h.symm)
  size:=by rw [Y2];exact Tr _
  os:=r1
  tape:=r2
  output:=r3
  fresh:=fun i h1 h2=>by rw [gk] at h2;omega
  ftok:=fun t ht p hp=>.inr ⟨t,ht,p,hp,rfl⟩
  nx:=Tr _
  toks:=fun _ _ ht=>⟨ht,rfl⟩
  own:=fun t' hn ht p hp ah=>r4 _ (fun h=>(hS.own t' ht p hp).2.1 b cu h.symm) }
 refine ⟨_,?_,hst,?_⟩
 ·have ji:v.cells.size=i.size:=by rw [dl,ab,hs]
  exact m90
 exact {
  inj:=fun i j hi hj=>hS.inj i j (by rw [gk] at hi;exact hi) (by rw [gk] at hj;exact hj)
  box:=fun k y hy=>by
   by_cases qz:k=b
   ·subst qz;have:y=.cells ty (Z9 cs off l):=by
     exact m145
    subst this;refine ⟨cs',h1,by rw [h2,oq,X2],fun j x u gy hu=>?_⟩;rw [Vu] at gy;rw [h3,hvc] at hu
    by_cases qf:off<=j/\j<off+l.length/\j<cs.length
    ·rw [Tg qf] at gy;rw [Tg ⟨qf.1,qf.2.1,oM⟩,TA] at hu;obtain ⟨q1,q2⟩:=fu _ x u gy hu;exact ⟨q1.step hst,q2⟩
    rw [Tc qf] at gy;rw [Tc oM] at hu;obtain ⟨q1,q2⟩:=hv3 j x u gy hu;exact ⟨q1.step hst,q2⟩
   have uc:σ.bx[k]?=some y:=by
    simp only [St.set] at hy
    rwa [List.getElem?_set_ne (fun h=>qz h.symm)] at hy
   have hkl:=(Tj.1 uc).1;exact (hS.box k y uc).step hst (r4 _ (fun h=>qz (hS.inj k b hkl cu h)))
  low:=fun i hi=>hS.low i (by rw [gk] at hi;exact hi)
  tkn:=hS.tkn
  own:=fun t' ht p hp=>by
   obtain ⟨q1,q2,cs2,ty2,fz2,q3⟩:=hS.own t' ht p hp;refine ⟨q1,fun i hi=>q2 i (by rw [gk] at hi;exact hi),cs2,ty2,fz2,(r4 _ (fun h=>q2 b cu h.symm)).trans q3⟩
  dis:=hS.dis
  xown:=hS.xown
  xlt:=fun k o hx=>by rw [Y2];exact hS.xlt k o hx
  glob:=fun k hk=>(r4 k (fun h=>by have:=hS.low b cu;omega)).trans (hS.glob k hk)
  big:=by rw [Y2];exact hS.big }
theorem Zlg (hS:SRel G e σ w) {b:Nat} {s:List UInt8} {pos:Nat} (hb:σ.bx[b]?=some (.iter s pos)) (ty:TypeId) {K:PV->St->Prop}
  (h:CondP (decide (pos<s.length)) (K (.tuple [.d (.bool true),.d (.int .i64 pos),.d (.int .i32 (decodeL s pos).1)]) (σ.set b (.iter s (pos+(decodeL s pos).2)))) (K (.tuple [.d (.bool false)]) σ)) :
  ∃pv σ1 v w1,K pv σ1/\(Instr.next (.pointer (some ⟨e.β b,0,none⟩)) true ty).run G.P w=.ok v w1/\Stepped e σ w e σ1 w1/\SRel G e σ1 w1/\VRel G e σ1 w1 pv v:=by
 have cu:b<σ.bx.length:=(Tj.1 hb).1;have ns:w.heap[e.β b]?=some (.stringIter ⟨s.toArray⟩ pos):=hS.box b _ hb
 by_cases hp:pos<s.length
 ·have:decide (pos<s.length)=true:=by simp [hp]
  rw [this] at h;refine ⟨_,_,_,_,h,Lib.run_next_any_at w (e.β b) ⟨s.toArray⟩ pos ty ns hp,?_⟩;have gk:(σ.set b (.iter s (pos+(decodeL s pos).2))).bx.length=σ.bx.length:=by simp [St.set]
  have f7:∀k,k≠e.β b->(w.iterAt (e.β b) ⟨s.toArray⟩ (pos+(Utf8.decode ⟨s.toArray⟩ pos).2)).heap[k]?=w.heap[k]?:=fun k hk=>Lib.iterAt_other w (e.β b) k _ _ hk
  have hst:Stepped e σ w e (σ.set b (.iter s (pos+(decodeL s pos).2))) (w.iterAt (e.β b) ⟨s.toArray⟩ (pos+(Utf8.decode ⟨s.toArray⟩ pos).2)):={
   len:=by rw [gk];exact Tr _
   beta:=fun _ _=>rfl
   X:=rfl
   pres:=fun k o u hk ho=>⟨⟨ho.1,fun j hj=>ho.2.1 j (by rw [gk] at hj;exact hj),ho.2.2⟩,by simpa [World.cell?,f7 k (fun h=>ho.2.1 b cu h.symm)] using hk⟩
   blocks:=fun k hk og _=>f7 k (fun h=>og b cu h.symm)
   size:=by rw [Lib.iterAt_size];exact Tr _
   os:=rfl
   tape:=rfl
   output:=rfl
   fresh:=fun i h1 h2=>by rw [gk] at h2;omega
   ftok:=fun t ht p hp=>.inr ⟨t,ht,p,hp,rfl⟩
   nx:=Tr _
   toks:=fun _ _ ht=>⟨ht,rfl⟩
   own:=fun t' hn ht p hp ah=>f7 _ (fun h=>(hS.own t' ht p hp).2.1 b cu h.symm) }
  refine ⟨hst,?_,?_⟩
  ·exact {
    inj:=fun i j hi hj=>hS.inj i j (by rw [gk] at hi;exact hi) (by rw [gk] at hj;exact hj)
    box:=fun k y hy=>by
     by_cases qz:k=b
     ·subst qz;have:y=.iter s (pos+(decodeL s pos).2):=by
       exact m145
      subst this;exact Lib.iterAt_heap w (e.β k) _ pos _ ns
     exact m109
    low:=fun i hi=>hS.low i (by rw [gk] at hi;exact hi)
    tkn:=hS.tkn
    own:=fun t' ht p hp=>by
     exact m138
    dis:=hS.dis
    xown:=hS.xown
    xlt:=fun k o hx=>by rw [Lib.iterAt_size];exact hS.xlt k o hx
    glob:=fun k hk=>(f7 k (fun h=>by have:=hS.low b cu;omega)).trans (hS.glob k hk)
    big:=by rw [Lib.iterAt_size];exact hS.big }
  refine .tuple _ _ rfl (fun i x u hx hu=>?_)
  match i with
  | 0=>cases hx;cases hu;exact .mkbool
  | 1=>cases hx;cases hu;exact .mkint
  | 2=>cases hx;cases hu;exact .mkint
  | n+3=>cases hx
 have:decide (pos<s.length)=false:=by simp [hp]
 rw [this] at h;refine ⟨_,_,_,_,h,Lib.run_next_end_at w (e.β b) ⟨s.toArray⟩ pos ty ns hp,.refl _ _ _,hS,.tuple _ _ rfl (fun i x u hx hu=>?_)⟩
 match i with
 | 0=>cases hx;cases hu;exact .mkbool
 | n+1=>cases hx
structure Flat (ok:Nat->Nat->Prop) (w:World) (rows:List (List D)) (sz:Nat) (xs:List Value):Prop where
 len:xs.length=rows.length * sz
 wid:∀r∈rows,r.length=sz
 rel:∀(a b:Nat) (y:D) (u:Value),b<sz->(rows[a]?.bind (·[b]?))=some y->xs[a * sz+b]?=some u->DRel ok w y u
theorem Flat.mono {ok ok':Nat->Nat->Prop} {w w':World} {rows:List (List D)} {sz:Nat} {xs:List Value} (h:Flat ok w rows sz xs) (hp:∀(y:D) (u:Value),DRel ok w y u->DRel ok' w' y u):Flat ok' w' rows sz xs :=
 ⟨h.len,h.wid,fun a b y u hb hy hu=>hp y u (h.rel a b y u hb hy hu)⟩
theorem Flat.nil (ok:Nat->Nat->Prop) (w:World) (sz:Nat):Flat ok w [] sz []:=⟨sM,fun r h=>(by cases h),fun a b y u _ hy=>by simp at hy⟩
theorem Flat.append {ok:Nat->Nat->Prop} {w:World} {r1 r2:List (List D)} {sz:Nat} {x1 x2:List Value} (h1:Flat ok w r1 sz x1) (h2:Flat ok w r2 sz x2):Flat ok w (r1++r2) sz (x1++x2):=by
 refine ⟨by rw [Tb,Tb,h1.len,h2.len,Si],fun r hr=>?_,fun a b y u hb hy hu=>?_⟩
 ·rcases TZ.1 hr with h | h
  ·exact h1.wid r h
  exact h2.wid r h
 by_cases ha:a<r1.length
 ·rw [TM ha] at hy;have ah:a * sz+b<x1.length:=by
   rw [h1.len]
   calc a * sz+b<a * sz+sz:=by omega
    _=(a+1) * sz:=by rw [Si,Nat.one_mul]
    _<=r1.length * sz:=T4 _ ha
  rw [TM ah] at hu;exact h1.rel a b y u hb hy hu
 have uo:r1.length<=a:=by omega
 rw [TX uo] at hy;have ko:x1.length<=a * sz+b:=by
  rw [h1.len];exact TW (T4 _ uo) (Nat.le_add_right _ _)
 rw [TX ko,h1.len] at hu;refine h2.rel (a - r1.length) b y u hb hy ?_;rw [<- hu]
 congr 1
 rw [Nat.sub_mul];have:=T4 sz uo;omega
theorem ZBM {ok:Nat->Nat->Prop} {w:World} {rows:List (List D)} {b off cap sz:Nat} (hsz:∀r∈rows,r.length=sz) (ay:0<sz) (h:DRel ok w (.sl rows) (.slice (some ⟨b,off,none⟩) rows.length cap)) :
  ∃xs,Flat ok w rows sz xs/\(∀(k:Nat) (u:Value),xs[k]?=some u->w.cell? ⟨b,off+k,none⟩=some u)/\(∀k,k<xs.length->ok b (off+k))/\∀u∈xs,u.oneCell'=true:=by
 cases h with
 | slz=>exact ⟨[],.nil _ _ _,fun k u h=>by simp at h,fun k h=>by simp at h,fun u h=>by cases h⟩
 | sl rows b off cap sz' u hcap jy hc ho hu =>
 by_cases hr:rows=[]
 ·subst hr;exact ⟨[],.nil _ _ _,fun k u h=>by simp at h,fun k h=>by simp at h,fun u h=>by cases h⟩
 have hss:sz'=sz:=by
  cases rows with
  | nil=>exact absurd rfl hr
  | cons r l=>rw [<- jy r sM,hsz r sM]
 subst hss;have hk:∀k,k<rows.length * sz'->k / sz'<rows.length/\k % sz'<sz'/\k / sz' * sz'+k % sz'=k:=fun k hk =>
  ⟨(Nat.div_lt_iff_lt_mul ay).2 hk,Nat.mod_lt _ ay,by rw [SD];exact Nat.div_add_mod k sz'⟩
 have qv:∀k,k<rows.length * sz'->∃y,(rows[k / sz']?.bind (·[k % sz']?))=some y/\DRel ok w y (u (k / sz') (k % sz')):=fun k h=>by
  obtain ⟨h1,h2,h3⟩:=hk k h;have h4:(rows[k / sz']).length=sz':=jy _ (TD _);have h5:(rows[k / sz']?.bind (·[k % sz']?))=some ((rows[k / sz'])[k % sz']):=by
   rw [Ti h1];simp only [Option.bind_some];rw [Ti oM]
  exact ⟨_,h5,hu _ _ _ h5⟩
 refine ⟨(List.range (rows.length * sz')).map fun k=>u (k / sz') (k % sz'),⟨sM,jy,fun a b' y v hb hy hv=>?_⟩,fun k v hv=>?_,fun k h=>?_,fun v hv=>?_⟩
 ·rw [TL] at hv;have ha:a<rows.length:=by
   rcases Nat.lt_or_ge a rows.length with h | h
   ·exact h
   rw [Sk h] at hy;cases hy
  have ah:a * sz'+b'<rows.length * sz':=by
   calc a * sz'+b'<a * sz'+sz':=by omega
    _=(a+1) * sz':=by rw [Si,Nat.one_mul]
    _<=rows.length * sz':=T4 _ ha
  rw [List.getElem?_range ah] at hv;have hd:(a * sz'+b') / sz'=a:=by rw [SD,Nat.mul_add_div ay,Nat.div_eq_of_lt hb];omega
  have hm:(a * sz'+b') % sz'=b':=by rw [SD,Nat.mul_add_mod,Nat.mod_eq_of_lt hb]
  simp only [Sw,hd,hm] at hv
  cases hv
  exact hu a b' y hy
 ·rw [TL] at hv
  by_cases ah:k<rows.length * sz'
  ·rw [List.getElem?_range ah] at hv
   cases hv
   obtain ⟨h1,h2,h3⟩:=hk k ah;have:=hc _ _ h1 h2
   rwa [Sg,h3] at this
  rw [Sk (by simpa using ah)] at hv;cases hv
 ·simp only [Te,List.length_range] at h;obtain ⟨h1,h2,h3⟩:=hk k h;have:=ho _ _ h1 h2
  rwa [Sg,h3] at this
 obtain ⟨k,mz,rfl⟩:=SC.1 hv;obtain ⟨y,_,hy⟩:=qv k (List.mem_range.1 mz);exact hy.one
theorem Flat.to_sl {ok:Nat->Nat->Prop} {w:World} {rows:List (List D)} {sz:Nat} {xs:List Value} (h:Flat ok w rows sz xs) (b off cap:Nat) (hcap:rows.length<=cap)
  (hc:∀(k:Nat) (u:Value),xs[k]?=some u->w.cell? ⟨b,off+k,none⟩=some u) (ho:∀k,k<xs.length->ok b (off+k)):DRel ok w (.sl rows) (.slice (some ⟨b,off,none⟩) rows.length cap):=by
 have ah:∀i j,i<rows.length->j<sz->i * sz+j<xs.length:=fun i j hi hj=>by
  rw [h.len]
  calc i * sz+j<i * sz+sz:=by omega
   _=(i+1) * sz:=by rw [Si,Nat.one_mul]
   _<=rows.length * sz:=T4 _ hi
 refine .sl rows b off cap sz (fun i j=>xs.getD (i * sz+j) Go.undef) hcap h.wid (fun i j hi hj=>?_) (fun i j hi hj=>?_) (fun i j x hx=>?_)
 ·have h1:=ah i j hi hj;rw [Sg];exact hc _ _ (by simp [List.getD,Ti h1])
 ·rw [Sg];exact ho _ (ah i j hi hj)
 have hi:i<rows.length:=by
  rcases Nat.lt_or_ge i rows.length with h | h
  ·exact h
  rw [Sk h] at hx;cases hx
 have hj:j<sz:=by
  rw [Ti hi] at hx;have:=(Tj.1 hx).1
  rwa [h.wid _ (TD _)] at this
 exact h.rel i j x _ hj hx (by simp [List.getD,Ti (ah i j hi hj)])
theorem ZsD (hT:TabOK T G.P) {tx el:Nat} {px:PV} {vx:Value} {more:List (List D)} {sz:Nat} (hm:Ul T tx el px=some more) (hx:VRel G e σ w px vx) (hsz:∀r∈more,r.length=sz) (ay:0<sz)
  (hel:sz=(T.get el).size):∃news,Src G.P sz tx vx more.length news w/\Flat (okc e σ) w more sz news:=by
 unfold Ul at hm
 split at hm
 ·rename_i hk
  obtain ⟨i,d,z,hi,hd,hs,ff,bh,hz,ei,_⟩:=(hT.get (t:=tx) (by rw [hk];simp)).ex;rw [hk] at bh;cases bh;split at hm
  ·rename_i cj
   split at hm
   ·rename_i s
    cases hm
    have hv:=hx.dstr;subst hv;have ab:(s.map fun b:UInt8=>[D.int .u8 b.toNat]).length=(⟨s.toArray⟩:ByteArray).size:=by simp;rfl
    have gl:∀sz',sz'=1->Flat (okc e σ) w (s.map fun b:UInt8=>[D.int .u8 b.toNat]) sz' (byteCells ⟨s.toArray⟩):=by
     rintro _ rfl
     refine ⟨by rw [byteCells_length,ab,Nat.mul_one],fun r hr=>?_,fun a b y u hb hy hu=>?_⟩
     ·obtain ⟨_,_,rfl⟩:=SC.1 hr;rfl
     have au:b=0:=by omega
     subst au;simp only [Nat.mul_one,Se,byteCells,TL] at hu;rw [TL] at hy
     cases hq:s[a]? with
     | none=>rw [hq] at hy;cases hy
     | some q =>
     rw [hq] at hy;simp at hy hu;rw [hq] at hu;simp at hu;subst hy;subst hu;exact .int _ _
    by_cases hs0:s=[]
    ·subst hs0;refine ⟨[],⟨.inr hd,fun _=>rfl,?_,?_,sM,fun u h=>by cases h⟩,.nil _ _ _⟩
     ·simp [Builtin.firstCells]
     simp [Builtin.firstCells]
    have h1:sz=1:=by
     cases s with
     | nil=>exact absurd rfl hs0
     | cons b l=>exact (hsz [.int .u8 b.toNat] sM).symm
    subst h1;rw [ab];exact ⟨byteCells ⟨s.toArray⟩,Src.ofString w hd _,gl 1 rfl⟩
   cases hm
  cases hm
 ·rename_i e' hk
  obtain ⟨i,d,z,hi,hd,hs,ff,bh,hz,ei,_⟩:=(hT.get (t:=tx) (by rw [hk];simp)).ex;rw [hk] at bh;cases bh;split at hm
  ·rename_i rows bj
   cases hm
   have hD:=Up bj hx;generalize hg:D.sl more=dd at hD
   cases hD with
   | slnil=>cases hg;exact ⟨[],Src.ofNil w hd 0,.nil _ _ _⟩
   | slz ad=>cases hg;exact ⟨[],Src.ofSlice w hd ad 0 0 [] sM (fun j u hj=>by cases hj) (fun u h=>by cases h),.nil _ _ _⟩
   | sl rows b off cap sz' u hcap jy hc ho hu =>
    cases hg
    obtain ⟨xs,h1,h2,h3,h4⟩:=ZBM hsz ay (DRel.sl more b off cap sz' u hcap jy hc ho hu);exact ⟨xs,Src.ofSlice w hd ⟨b,off,none⟩ more.length cap xs h1.len (fun j u hj=>by rw [Ym];exact h2 j u hj) h4,h1⟩
   | _=>cases hg
  cases hm
 cases hm
theorem Y7 (t:Nat):∀(l:List Nat),Zh0 t l=true↔t∈l
 | []=>by simp [Zh0]
 | x::l=>by
  unfold Zh0
  split
  ·rename_i h;have:=Tn h;simp [this]
  rename_i h
  rw [Y7 t l];have:x≠t:=fun h'=>by subst h';simp at h
  simp [Ne.symm this]
theorem Vv (t x:Nat):∀(l:List Nat),x∈Zaz t l↔x∈l/\x≠t
 | []=>by simp [Zaz]
 | y::l=>by
  unfold Zaz
  split
  ·rename_i h
   have:=Tn h;subst this;rw [Vv y x l]
   constructor
   ·exact fun h=>⟨Tx _ h.1,h.2⟩
   rintro ⟨h1,h2⟩
   rcases Tv.1 h1 with h | h
   ·exact absurd h h2
   exact ⟨h,h2⟩
  rename_i h
  have an:y≠t:=fun h'=>by subst h';simp at h
  rw [Tv,Tv,Vv t x l]
  constructor
  ·rintro (rfl | h)
   ·exact ⟨.inl rfl,an⟩
   exact ⟨.inr h.1,h.2⟩
  rintro ⟨rfl | h1,h2⟩
  ·exact .inl rfl
  exact .inr ⟨h1,h2⟩
def Env.own (e:Env) (t:Nat) (p:Option (Nat×Nat)):Env:={ e with M:=fun i=>if i=t then p else e.M i }
theorem ZeL (hT:TabOK T G.P) (hS:SRel G e σ w) {t tx el ty:Nat} (nc:(T.get t).kind=.slice el) (ej:(T.get el).kind≠.other) (ay:0<(T.get el).size)
  {rows more:List (List D)} {v vx:Value} {news:List Value} (hD:DRel (okc e σ) w (.sl rows) v)
  (nt:∀r∈rows,r.length=(T.get el).size)
  (hO : (v = .slice none 0 0 /\ rows = []) \/ ∃ b off cap cs ty fz, v = .slice (some ⟨b, off, none⟩) rows.length cap /\ G.nG <= b /\ rows.length <= cap /\ w.heap[b]? = some (.cells cs ty fz) /\ (off + cap * (T.get el).size <= cs.size /\ off = 0 /\ ty = el /\ 0 < cap) /\
     (fz.1<=fz.2/\∀o,off+rows.length * (T.get el).size<=o->fz.1<=o->fz.2<=o)/\(∀i,i<σ.bx.length->e.β i≠b))
  (lh:Src G.P (T.get el).size tx vx more.length news w) (fc:Flat (okc e σ) w more (T.get el).size news)
  (kp:(rows.length+more.length) * (T.get el).bytes<=2 ^ 47) (ab:rows.length+more.length<=2 ^ 47) :
  ∃v' w1,(Builtin.append_ #[t,tx] ty #[v,vx]).run G.P w=.ok v' w1/\w1.os=w.os/\w1.tape=w.tape/\w1.output=w.output/\w.heap.size<=w1.heap.size /\
   (∀b off u,w.cell? ⟨b,off,none⟩=some u->okc e σ b off->w1.cell? ⟨b,off,none⟩=some u\/∃a o c,v=.slice (some ⟨a,o,none⟩) rows.length c/\b=a/\o+rows.length * (T.get el).size<=off) /\
   (∀b,b<w.heap.size->(∀a o c,v=.slice (some ⟨a,o,none⟩) rows.length c->b≠a)->w1.heap[b]?=w.heap[b]?) /\
   ((v'=.slice none 0 0/\rows++more=[])\/∃b off cap cs ty fz,v'=.slice (some ⟨b,off,none⟩) (rows++more).length cap/\G.nG<=b/\(rows++more).length<=cap/\w1.heap[b]?=some (.cells cs ty fz)/\(off+cap * (T.get el).size<=cs.size/\off=0/\ty=el/\0<cap) /\
    (fz.1<=fz.2/\∀o,off+rows.length * (T.get el).size<=o->fz.1<=o->fz.2<=o) /\
    ((∃c,v=.slice (some ⟨b,off,none⟩) rows.length c)\/w.heap.size<=b) /\
    ∃xs,Flat (okc e σ) w (rows++more) (T.get el).size xs/\∀(k:Nat) (u:Value),xs[k]?=some u->w1.cell? ⟨b,off+k,none⟩=some u):=by
 obtain ⟨ti,td,tz,ox,ra,_,_,bh,_,_,_⟩:=(hT.get (t:=t) (by rw [nc];simp)).ex;rw [nc] at bh;cases bh;obtain ⟨i,d,z,hi,hd,hs,ff,bq,hz,ei,mw,_⟩:=(hT.get ej).ex;have wy:z.cells.size=(T.get el).size:=by
  have:=(W7 (G:=G) (e:=e) (σ:=σ) (w:=w) ei).1;rw [<- mw,<- this];simp
 rw [<- hs] at lh;have hsm:((rows.length+more.length:Nat):Int)<=9223372036854775807:=oM;have jw:(rows.length+more.length) * i.bytes<=140737488355328:=by rw [ff];omega
 have grow:∀(base:Option Addr) (cap:Nat) (olds:List Value),(Builtin.firstCells i.size rows.length (.slice base rows.length cap)).run G.P w.drew=.ok olds.toArray w.drew->Flat (okc e σ) w rows (T.get el).size olds->cap<rows.length+more.length ->
   ∃v' w1,(Builtin.append_ #[t,tx] ty #[.slice base rows.length cap,vx]).run G.P w=.ok v' w1/\Grows w w1 /\
    ∃b off cap cs ty fz,v'=.slice (some ⟨b,off,none⟩) (rows++more).length cap/\G.nG<=b/\(rows++more).length<=cap/\w1.heap[b]?=some (.cells cs ty fz)/\(off+cap * (T.get el).size<=cs.size/\off=0/\ty=el/\0<cap) /\
     (fz.1<=fz.2/\∀o,off+rows.length * (T.get el).size<=o->fz.1<=o->fz.2<=o)/\w.heap.size<=b /\
     ∃xs,Flat (okc e σ) w (rows++more) (T.get el).size xs/\∀(k:Nat) (u:Value),xs[k]?=some u->w1.cell? ⟨b,off+k,none⟩=some u:=by
  intro base cap olds rb gl ah
  have hr:=run_append_grow_src w t tx ty el i z ra hi hz base rows.length cap olds rb vx more.length news lh ah hsm (growslice_fits ah jw);refine ⟨_,_,hr,(Grows.drew w).trans (Grows.alloc _ _),w.heap.size,0,grownCap w (rows.length+more.length) cap el,_,el,(0,0),by rw [Tb],hS.big,by rw [Tb];exact grownCap_ge w _ _ _,heap_alloc_new w.drew _,⟨?_,rfl,rfl,by have:=grownCap_ge w (rows.length+more.length) cap el;omega⟩,⟨Tr _,fun o _ _=>T7 _⟩,Tr _,olds++news,gl.append fc,fun k u hk=>?_⟩
  ·have ko:=grownCap_ge w (rows.length+more.length) cap el;simp only [Array.size_append,List.size_toArray,Tb,size_zeroCells,wy,gl.len,fc.len,Sf,<- Si];exact T4 _ oM
  have h1:k<(olds++news).length:=(Tj.1 hk).1;simp only [Sf,World.cell?];rw [show (w.drew.alloc _).heap[w.heap.size]?=_ from heap_alloc_new w.drew _];simp only [Option.isSome_none,To,if_false];rw [Array.getElem?_append_left (by simpa using h1)];simpa using hk
 rcases hO with ⟨rfl,rfl⟩ | ⟨b,off,cap,cs,tyb,fz,rfl,hb,hc,hh,dm,ky,og⟩
 ·by_cases hm:more.length=0
  ·have hmn:more=[]:=TB hm;subst hmn;have ek:news=[]:=TB (by rw [fc.len];simp);subst ek;exact ⟨_,w,run_append_nothing w t tx ty el i ra hi none 0 0 (Tr _) vx lh,rfl,rfl,rfl,Tr _,fun _ _ _ h _=>.inl h,fun _ _ _=>rfl,.inl ⟨rfl,rfl⟩⟩
  obtain ⟨v',w1,hr,hg,b,off,cap,cs,ty',fz,h1,h2,h3,h4,h5,h6,h7,h8⟩:=grow none 0 [] (run_firstCells_none w.drew i.size 0 0 0) (.nil _ _ _) sO;exact ⟨v',w1,hr,hg.os,hg.tape,hg.output,hg.size,fun b' o' u hu _=>.inl ((hg.cell (Uo hu)).trans hu),fun b' rc _=>hg.old b' rc,.inr ⟨b,off,cap,cs,ty',fz,h1,h2,h3,h4,h5,h6,.inr h7,h8⟩⟩
 obtain ⟨olds,af,ac,ai,av⟩:=ZBM nt ay hD
 by_cases f8:rows.length+more.length<=cap
 ·have mh:rows.length * (T.get el).size+news.length<=cap * (T.get el).size:=by
   rw [fc.len,<- Si];exact T4 _ f8
  have ba:∀k,k<cs.size->(w.cell? ⟨b,k,none⟩).isSome=true:=fun k hk=>by simp [World.cell?,hh,hk]
  have hr:=run_append_room_src w t tx ty el i ra hi b off rows.length cap vx more.length news lh f8 (fun j hj=>ba _ (by have:=dm.1;rw [hs];omega)) (fun j hj=>by
   simp only [World.frozen?,hh];have h1:=ky.2 (off+rows.length * i.size+j) (by rw [hs];omega)
   by_cases h2:fz.1<=off+rows.length * i.size+j
   ·have:=h1 h2;simp;intro _;omega
   simp;omega)
  rw [hs] at hr;obtain ⟨r1,r2,r3,r4⟩:=Xr b news (off+rows.length * (T.get el).size) w;obtain ⟨cs',q1,q2,q3⟩:=XH b news (off+rows.length * (T.get el).size) w cs tyb fz hh;refine ⟨_,_,hr,r1,r2,r3,by rw [Y2];exact Tr _,fun b' o' u hu ho=>?_,fun b' rc hn=>r4 b' (hn b off cap rfl),.inr ⟨b,off,cap,cs',tyb,fz,by rw [Tb],hb,by rw [Tb];exact f8,q1,⟨by rw [q2];exact dm.1,dm.2.1,dm.2.2.1,dm.2.2.2⟩,ky,.inl ⟨cap,rfl⟩,olds++news,af.append fc,fun k u hk=>?_⟩⟩
  ·by_cases nd:b'=b
   ·subst nd
    by_cases hoo:off+rows.length * (T.get el).size<=o'
    ·exact .inr ⟨b',off,cap,rfl,rfl,hoo⟩
    left
    rw [World.cell?_setCells_out b' news _ w ⟨b',o',none⟩ (fun _ _=>.inl (by show o'<_;omega))];exact hu
   left;simpa [World.cell?,r4 b' nd] using hu
  by_cases ir:k<olds.length
  ·rw [TM ir] at hk;rw [World.cell?_setCells_out b news _ w ⟨b,off+k,none⟩ (fun _ _=>.inl (by show off+k<_;rw [<- af.len];omega))];exact ac k u hk
  rw [TX oM] at hk;have xa:=(Tj.1 hk).1;have:=World.cell?_setCells_in b news (off+rows.length * (T.get el).size) w (fun j hj=>ba _ (by have:=dm.1;omega)) (k - olds.length) xa;exact m166
 obtain ⟨v',w1,hr,hg,b2,off2,cap2,cs2,ty2,fz2,h1,h2,h3,h4,h5,h6,h7,h8⟩:=grow (some ⟨b,off,none⟩) cap olds (run_firstCells_some w.drew i.size rows.length ⟨b,off,none⟩ rows.length cap olds (by rw [af.len,hs]) (fun j u hj=>by rw [Ym];exact ac j u hj)) af oM;exact ⟨v',w1,hr,hg.os,hg.tape,hg.output,hg.size,fun b' o' u hu _=>.inl ((hg.cell (Uo hu)).trans hu),fun b' rc _=>hg.old b' rc,.inr ⟨b2,off2,cap2,cs2,ty2,fz2,h1,h2,h3,h4,h5,h6,.inr h7,h8⟩⟩
theorem Ji (hT:TabOK T G.P) (hS:SRel G e σ w) {el:Nat} (ej:(T.get el).kind≠.other) (ay:0<(T.get el).size)
  {rows more:List (List D)} {v v':Value} {w1:World} (hD:DRel (okc e σ) w (.sl rows) v) (tk0:List Nat) (cm:∀x,x∈tk0->x∈σ.tk) (nt:∀r∈rows,r.length=(T.get el).size) (hw:∀r∈more,r.length=(T.get el).size)
  (gz:∀a o c,v=.slice (some ⟨a,o,none⟩) rows.length c->∃tok,tok∈σ.tk/\tok∉tk0/\e.M tok=some (a,o+rows.length * (T.get el).size))
  (rf:w1.os=w.os) (li:w1.tape=w.tape) (jn:w1.output=w.output) (dz:w.heap.size<=w1.heap.size)
  (ba:∀b off u,w.cell? ⟨b,off,none⟩=some u->okc e σ b off->w1.cell? ⟨b,off,none⟩=some u\/∃a o c,v=.slice (some ⟨a,o,none⟩) rows.length c/\b=a/\o+rows.length * (T.get el).size<=off)
  (iz:∀b,b<w.heap.size->(∀a o c,v=.slice (some ⟨a,o,none⟩) rows.length c->b≠a)->w1.heap[b]?=w.heap[b]?)
  (kq:(v'=.slice none 0 0/\rows++more=[])\/∃b off cap cs ty fz,v'=.slice (some ⟨b,off,none⟩) (rows++more).length cap/\G.nG<=b/\(rows++more).length<=cap/\w1.heap[b]?=some (.cells cs ty fz)/\(off+cap * (T.get el).size<=cs.size/\off=0/\ty=el/\0<cap) /\
    (fz.1<=fz.2/\∀o,off+rows.length * (T.get el).size<=o->fz.1<=o->fz.2<=o) /\
    ((∃c,v=.slice (some ⟨b,off,none⟩) rows.length c)\/w.heap.size<=b) /\
    ∃xs,Flat (okc e σ) w (rows++more) (T.get el).size xs/\∀(k:Nat) (u:Value),xs[k]?=some u->w1.cell? ⟨b,off+k,none⟩=some u) :
  ∃e1,Stepped e σ w e1 { σ with tk:=σ.nx::tk0,nx:=σ.nx+1 } w1/\SRel G e1 { σ with tk:=σ.nx::tk0,nx:=σ.nx+1 } w1 /\
   VRel G e1 { σ with tk:=σ.nx::tk0,nx:=σ.nx+1 } w1 (.sl σ.nx el (rows++more)) v':=by
 obtain ⟨i,d,z,hi,hd,hs,ff,bq,hz,ei,mw,_⟩:=(hT.get ej).ex;have kb:∀b off u,w.cell? ⟨b,off,none⟩=some u->okc e σ b off->w1.cell? ⟨b,off,none⟩=some u:=fun b off u hu ho=>by
  rcases ba b off u hu ho with h | ⟨a,o,c,hv,rfl,ak⟩
  ·exact h
  obtain ⟨tok,fi,_,kc⟩:=gz _ o c hv;have:=ho.2.2 tok fi _ kc rfl;simp only at this;omega
 have lj:∀b,b<w.heap.size->(∀t,t∈σ.tk->t∉tk0->∀p,e.M t=some p->p.1≠b)->w1.heap[b]?=w.heap[b]?:=fun b hb hn=>iz b hb fun a o c hv h=>by
  obtain ⟨tok,fi,i5,kc⟩:=gz a o c hv;exact hn tok fi i5 _ kc h.symm
 obtain ⟨p,hp,nu,hpn⟩:∃p:Option (Nat×Nat),(p=none\/∃b k,p=some (b,k)/\G.nG<=b/\(∃cs ty fz,w1.heap[b]?=some (.cells cs ty fz))/\((∃a o c,v=.slice (some ⟨a,o,none⟩) rows.length c/\a=b/\o+rows.length * (T.get el).size<=k)\/w.heap.size<=b)) /\
   (∀e1:Env,e1.M σ.nx=p->Owned G e1 w1 σ.nx el (rows++more) v') /\
   (∀b k,p=some (b,k)->True):=by
  rcases kq with ⟨rfl,d8⟩ | ⟨b,off,cap,cs,tyb,fz,rfl,hb,hc,hh,dm,ky,ke,hxs⟩
  ·refine ⟨none,.inl rfl,fun e1 he=>.inl ⟨rfl,d8,he⟩,fun _ _ _=>trivial⟩
  refine ⟨some (b,off+(rows++more).length * (T.get el).size),.inr ⟨b,_,rfl,hb,⟨cs,tyb,fz,hh⟩,?_⟩,fun e1 he=>.inr ⟨i.size,by rw [hi];rfl,oM,fun r hr=>?_,b,off,cap,cs,tyb,fz,rfl,hb,hc,hh,by rw [hs];exact dm,⟨ky.1,fun o ho=>ky.2 o (by rw [hs] at ho;rw [Tb,Si] at ho;omega)⟩,by rw [hs];exact he⟩,fun _ _ _=>trivial⟩
  ·rcases ke with ⟨c,hv⟩ | h
   ·refine .inl ⟨b,off,c,hv,rfl,?_⟩;rw [Tb,Si];omega
   exact .inr h
  rw [hs];rcases TZ.1 hr with h | h
  ·exact nt r h
  exact hw r h
 have nf:∀x,x∈tk0->(e.own σ.nx p).M x=e.M x:=fun x hx=>by
  have:=hS.tkn x (cm x hx);simp only [Env.own];rw [Tc oM]
 have qh:(e.own σ.nx p).M σ.nx=p:=by simp [Env.own]
 have jo:∀b off,b<w.heap.size->okc e σ b off->okc (e.own σ.nx p) { σ with tk:=σ.nx::tk0,nx:=σ.nx+1 } b off:=fun b off hb ho=>by
  refine ⟨ho.1,ho.2.1,fun x hx q hq uq=>?_⟩;rcases Tv.1 hx with rfl | hx
  ·rw [qh] at hq;rcases hp with h | ⟨b2,k,h,_,_,ke⟩
   ·rw [h] at hq;cases hq
   rw [h] at hq;cases hq;simp only at uq;subst uq;rcases ke with ⟨a,o,c,hv,rfl,ak⟩ | ko
   ·obtain ⟨tok,fi,_,kc⟩:=gz _ o c hv;have:=ho.2.2 tok fi _ kc rfl;simp only at this |-;omega
   omega
  rw [nf x hx] at hq;exact ho.2.2 x (cm x hx) q hq uq
 have hst:Stepped e σ w (e.own σ.nx p) { σ with tk:=σ.nx::tk0,nx:=σ.nx+1 } w1:={
  len:=Tr _
  beta:=fun _ _=>rfl
  X:=rfl
  pres:=fun b off u hu ho=>⟨jo b off (Uo hu) ho,kb b off u hu ho⟩
  blocks:=fun b hb _ hn=>lj b hb fun t ht _ q hq=>hn t ht q hq
  size:=dz
  os:=rf
  tape:=li
  output:=jn
  fresh:=fun i h1 h2=>by simp only at h2;omega
  ftok:=fun x hx q hq=>by
   rcases Tv.1 hx with rfl | h
   ·rw [qh] at hq;rcases hp with h | ⟨b2,k,h,_,_,ke⟩
    ·rw [h] at hq;cases hq
    rw [h] at hq;cases hq;rcases ke with ⟨a,o,c,hv,rfl,_⟩ | ko
    ·obtain ⟨tok,fi,_,kc⟩:=gz _ o c hv;exact .inr ⟨tok,fi,_,kc,rfl⟩
    exact .inl ko
   rw [nf x h] at hq;exact .inr ⟨x,cm x h,q,hq,rfl⟩
  nx:=by show σ.nx<=σ.nx+1;omega
  toks:=fun x hx hm=>by
   rcases Tv.1 hm with rfl | h
   ·omega
   exact ⟨cm x h,nf x h⟩
  own:=fun x hx hm q hq ah=>by
   rcases Tv.1 hm with rfl | h
   ·omega
   refine lj _ ah fun t fi i5 r hr=>?_
   exact hS.dis t x fi (cm x h) (fun h'=>i5 (h' ▸ h)) r q hr hq }
 have lk:∀b k,p=some (b,k)->G.nG<=b/\(∀i,i<σ.bx.length->e.β i≠b)/\(∀x,x∈tk0->∀q,e.M x=some q->q.1≠b)/\(∀off,k<=off->¬e.X b off)/\∃cs ty fz,w1.heap[b]?=some (.cells cs ty fz):=fun b k jf=>by
  rcases hp with h | ⟨b2,k2,h,hb,dm,ke⟩
  ·rw [h] at jf;cases jf
  rw [h] at jf;cases jf;refine ⟨hb,fun j hj h'=>?_,fun x hx q hq h'=>?_,fun off ho hX=>?_,dm⟩
  ·rcases ke with ⟨a,o,c,hv,rfl,ak⟩ | ko
   ·obtain ⟨tok,fi,_,kc⟩:=gz _ o c hv;exact (hS.own tok fi _ kc).2.1 j hj h'
   have:=hS.lt hj;omega
  ·rcases ke with ⟨a,o,c,hv,rfl,ak⟩ | ko
   ·obtain ⟨tok,fi,i5,kc⟩:=gz _ o c hv;exact hS.dis tok x fi (cm x hx) (fun h2=>i5 (h2 ▸ hx)) _ q kc hq h'.symm
   obtain ⟨_,_,cs,tyy,fz,hh⟩:=hS.own x (cm x hx) q hq;have:=(Tq.1 hh).1;omega
  rcases ke with ⟨a,o,c,hv,rfl,ak⟩ | ko
  ·obtain ⟨tok,fi,_,kc⟩:=gz _ o c hv;exact hS.xown tok fi _ kc off (by simp only;omega) hX
  have:=hS.xlt _ _ hX;omega
 refine ⟨e.own σ.nx p,hst,?_,?_⟩
 ·exact {
   inj:=hS.inj
   box:=fun k y hy=>by
    have hk:=(Tj.1 hy).1;exact (hS.box k y hy).step hst (lj _ (hS.lt hk) fun t ht _ q hq h=>(hS.own t ht q hq).2.1 k hk h.symm)
   low:=hS.low
   tkn:=fun x hx=>by
    rcases Tv.1 hx with rfl | h
    ·show σ.nx<σ.nx+1;omega
    have:=hS.tkn x (cm x h);show x<σ.nx+1;omega
   own:=fun x hx q hq=>by
    rcases Tv.1 hx with rfl | h
    ·rw [qh] at hq;obtain ⟨h1,h2,_,_,h3⟩:=lk q.1 q.2 hq;exact ⟨h1,h2,h3⟩
    rw [nf x h] at hq;obtain ⟨h1,h2,cs,tyy,fz,hh⟩:=hS.own x (cm x h) q hq;refine ⟨h1,h2,cs,tyy,fz,(lj _ (Tq.1 hh).1 fun t fi i5 r hr=>?_).trans hh⟩;exact hS.dis t x fi (cm x h) (fun h'=>i5 (h' ▸ h)) r q hr hq
   dis:=fun x y hx hy hxy q r hq hr=>by
    rcases Tv.1 hx with rfl | h1 <;> rcases Tv.1 hy with rfl | h2
    ·exact absurd rfl hxy
    ·rw [qh] at hq;rw [nf y h2] at hr;exact fun h=>(lk q.1 q.2 hq).2.2.1 y h2 r hr h.symm
    ·rw [qh] at hr;rw [nf x h1] at hq;exact fun h=>(lk r.1 r.2 hr).2.2.1 x h1 q hq h
    rw [nf x h1] at hq;rw [nf y h2] at hr;exact hS.dis x y (cm x h1) (cm y h2) hxy q r hq hr
   xlt:=fun b off hX=>TH (hS.xlt b off hX) dz
   xown:=fun x hx q hq off ho=>by
    rcases Tv.1 hx with rfl | h
    ·rw [qh] at hq;exact (lk q.1 q.2 hq).2.2.2.1 off ho
    rw [nf x h] at hq;exact hS.xown x (cm x h) q hq off ho
   glob:=fun b hb=>(lj b (TH hb hS.big) fun t ht _ q hq h=>by have:=(hS.own t ht q hq).1;omega).trans (hS.glob b hb)
   big:=TW hS.big dz }
 refine .sl _ _ _ _ (by show σ.nx<σ.nx+1;omega) ?_ (fun _=>nu _ qh);rcases kq with ⟨rfl,d8⟩ | ⟨b,off,cap,cs,tyb,fz,rfl,hb,hc,hh,dm,ky,ke,xs,yc,ab5⟩
 ·rw [d8];exact .slnil
 have gl:Flat (okc (e.own σ.nx p) { σ with tk:=σ.nx::tk0,nx:=σ.nx+1 }) w1 (rows++more) (T.get el).size xs:=yc.mono fun y u h=>h.later hst.toLater
 refine gl.to_sl b off cap hc ab5 fun k hk=>?_
 have ab6:=nu (e.own σ.nx p) qh;rcases ab6 with ⟨h1,_⟩ | ⟨sz,jg,l6,hq3,b',off',cap',cs',ty',fz',h1,_,_,_,_,_,qi⟩
 ·cases h1
 cases h1
 rw [qh] at qi;rw [hi] at jg;simp only [Sw,Option.some.injEq] at jg;subst jg;obtain ⟨g1,g2,g3,g4,g5⟩:=lk _ _ qi;rw [yc.len] at hk;refine ⟨fun hX=>?_,g2,fun x hx q hq uq=>?_⟩
 ·rcases ke with ⟨c,hv⟩ | ko
  ·obtain ⟨tok,fi,_,kc⟩:=gz _ off c hv
   by_cases j9:k<rows.length * (T.get el).size
   ·subst hv;obtain ⟨olds,af,ac,ai,av⟩:=ZBM nt ay hD;exact (ai k (by rw [af.len];exact j9)).1 hX
   exact hS.xown tok fi _ kc (off+k) (by simp only;omega) hX
  have:=hS.xlt _ _ hX;omega
 rcases Tv.1 hx with rfl | h
 ·rw [qh,qi] at hq;cases hq;simp only;rw [hs];omega
 rw [nf x h] at hq;exact absurd uq (g3 x h q hq)
theorem J7 (hT:TabOK T G.P) (hS:SRel G e σ w) {el:Nat} (ej:(T.get el).kind≠.other) {rows:List (List D)} {v:Value} (tk0:List Nat)
  (hO:(v=.slice none 0 0/\rows=[])\/∃tok,tok∈σ.tk/\tok∉tk0/\Owned G e w tok el rows v) :
  ((v = .slice none 0 0 /\ rows = []) \/ ∃ b off cap cs ty fz, v = .slice (some ⟨b, off, none⟩) rows.length cap /\ G.nG <= b /\ rows.length <= cap /\ w.heap[b]? = some (.cells cs ty fz) /\ (off + cap * (T.get el).size <= cs.size /\ off = 0 /\ ty = el /\ 0 < cap) /\
     (fz.1<=fz.2/\∀o,off+rows.length * (T.get el).size<=o->fz.1<=o->fz.2<=o)/\(∀i,i<σ.bx.length->e.β i≠b))/\(∀r∈rows,r.length=(T.get el).size) /\
     (∀a o c,v=.slice (some ⟨a,o,none⟩) rows.length c->∃tok,tok∈σ.tk/\tok∉tk0/\e.M tok=some (a,o+rows.length * (T.get el).size)):=by
 obtain ⟨i,d,z,hi,hd,hs,ff,bq,hz,ei,mw,_⟩:=(hT.get ej).ex;rcases hO with ⟨rfl,rfl⟩ | ⟨tok,fi,i5,⟨rfl,rfl,_⟩ | ⟨sz,h1,h2,h3,b,off,cap,cs,tyb,fz,rfl,hb,hc,hh,dm,ky,kc⟩⟩
 ·exact ⟨.inl ⟨rfl,rfl⟩,fun r h=>(by cases h),fun a o c h=>by simp at h⟩
 ·exact ⟨.inl ⟨rfl,rfl⟩,fun r h=>(by cases h),fun a o c h=>by simp at h⟩
 rw [hi] at h1;simp only [Sw,Option.some.injEq] at h1;subst h1;rw [hs] at h3 dm ky kc;exact ⟨.inr ⟨b,off,cap,cs,tyb,fz,rfl,hb,hc,hh,dm,ky,(hS.own tok fi _ kc).2.1⟩,h3,fun a o c hv=>by cases hv;exact ⟨tok,fi,i5,kc⟩⟩
theorem ZeM (hT:TabOK T G.P) (hS:SRel G e σ w) {t tx el ty:Nat} (nc:(T.get t).kind=.slice el) (ej:(T.get el).kind≠.other) (ay:0<(T.get el).size)
  {rows more:List (List D)} {v vx:Value} {px:PV} (hD:DRel (okc e σ) w (.sl rows) v) (tk0:List Nat) (cm:∀x,x∈tk0->x∈σ.tk)
  (hO:(v=.slice none 0 0/\rows=[])\/∃tok,tok∈σ.tk/\tok∉tk0/\Owned G e w tok el rows v)
  (hm:Ul T tx el px=some more) (hx:VRel G e σ w px vx) (hw:∀r∈more,r.length=(T.get el).size)
  (kp:(rows.length+more.length) * (T.get el).bytes<=2 ^ 47) (ab:rows.length+more.length<=2 ^ 47) :
  ∃v' w1 e1,(Builtin.append_ #[t,tx] ty #[v,vx]).run G.P w=.ok v' w1/\Stepped e σ w e1 { σ with tk:=σ.nx::tk0,nx:=σ.nx+1 } w1/\SRel G e1 { σ with tk:=σ.nx::tk0,nx:=σ.nx+1 } w1 /\
   VRel G e1 { σ with tk:=σ.nx::tk0,nx:=σ.nx+1 } w1 (.sl σ.nx el (rows++more)) v':=by
 obtain ⟨i,d,z,hi,hd,hs,ff,bq,hz,ei,mw,_⟩:=(hT.get ej).ex;obtain ⟨news,lh,fc⟩:=ZsD hT hm hx hw ay rfl;obtain ⟨yd,nt,gz⟩:=J7 hT hS ej tk0 hO;obtain ⟨v',w1,am,rf,li,jn,dz,ba,iz,kq⟩:=ZeL (ty:=ty) hT hS nc ej ay hD nt yd lh fc kp ab;obtain ⟨e1,h1,h2,h3⟩:=Ji hT hS ej ay hD tk0 cm nt hw gz rf li jn dz ba iz kq;exact ⟨v',w1,e1,am,h1,h2,h3⟩
theorem ZaD {ok:Nat->Nat->Prop}:∀{l:List PV} {r:List D},Zqh l=some r->r.length=l.length/\∀(i:Nat) (x:PV) (y:D),l[i]?=some x->r[i]?=some y->toD x=some y
 | [],r,h=>by cases h;exact ⟨rfl,fun i x y hx=>by simp at hx⟩
 | v::l,r,h=>by
  simp only [Zqh] at h;split at h
  ·rename_i d hd
   split at h
   ·rename_i r' hr
    cases h
    obtain ⟨h1,h2⟩:=ZaD (ok:=ok) hr;refine ⟨by simp [h1],fun i x y hx hy=>?_⟩
    cases i with
    | zero=>simp at hx hy;subst hx;subst hy;exact hd
    | succ i=>exact h2 i x y (by simpa using hx) (by simpa using hy)
   cases h
  cases h
theorem ZgM {ρ:Operand->PV} {ρ':Operand->Value} (hρ:∀x,VRel G e σ w (ρ x) (ρ' x)) {sz:Nat} (ay:0<sz) :
  ∀(ps:List (Nat×Operand)) (rows rows':List (List D)) (vs:Array Value),Flat (okc e σ) w rows sz vs.toList->(∀u∈vs,u.oneCell'=true)->WT sz ρ ps rows=some rows' ->
   ∃vs':Array Value,Instr.fill (fun i=>some (i * sz,sz)) vs (ps.map fun p=>(p.1,ρ' p.2))=some vs'/\Flat (okc e σ) w rows' sz vs'.toList/\rows'.length=rows.length/\(∀u∈vs',u.oneCell'=true)
 | [],rows,rows',vs,hf,h1,h=>by cases h;exact ⟨vs,rfl,hf,rfl,h1⟩
 | (i,x)::ps,rows,rows',vs,hf,h1,h=>by
  simp only [WT] at h;split at h
  ·rename_i r hr
   split at h
   ·rename_i ab ah
    have e1:=Tn ab;have e2:=Ta ah;unfold Zh8 at hr
    split at hr
    ·rename_i l hl
     obtain ⟨dl,fu⟩:=VW (hρ x) hl;obtain ⟨dg,bf⟩:=ZaD (ok:=okc e σ) hr;have fg:vs.size=rows.length * sz:=by have:=hf.len;simpa using this
     have hsz:(ρ' x).cells.size=sz:=by rw [dl,<- dg,e1]
     have qf:i * sz+sz<=rows.length * sz:=by
      calc i * sz+sz=(i+1) * sz:=by rw [Si,Nat.one_mul]
       _<=rows.length * sz:=T4 _ e2
     simp only [TN,Instr.fill];rw [Tc (by rw [hsz,fg];simp;omega)];rw [ZmD];have dh:∀k,((((ρ' x).cells.toList.zipIdx 0).foldl (fun cs (p:Value×Nat)=>cs.setIfInBounds (i * sz+p.2) p.1) vs))[k]?=if i * sz<=k/\k<i * sz+sz then (ρ' x).cells[k - i * sz]? else vs[k]?:=fun k=>by
      rw [ZcY];simp only [Se,Sp,hsz,TA]
      by_cases hk:i * sz<=k/\k<i * sz+sz
      ·rw [Tg hk,Tg ⟨hk.1,hk.2,oM⟩]
      rw [Tc hk,Tc oM]
     have dz:((((ρ' x).cells.toList.zipIdx 0).foldl (fun cs (p:Value×Nat)=>cs.setIfInBounds (i * sz+p.2) p.1) vs)).size=vs.size:=Zb9 vs (i * sz) (ρ' x).cells.toList 0 vs;generalize ((((ρ' x).cells.toList.zipIdx 0).foldl (fun cs (p:Value×Nat)=>cs.setIfInBounds (i * sz+p.2) p.1) vs))=vs2 at dh dz |-;have ur:Flat (okc e σ) w (rows.set i r) sz vs2.toList:=by
      refine ⟨by rw [Sp,dz,fg,Sx],fun r' qg=>?_,fun a b y u hb hy hu=>?_⟩
      ·rcases List.mem_or_eq_of_mem_set qg with h' | rfl
       ·exact hf.wid r' h'
       exact e1
      rw [TA,dh] at hu
      by_cases hai:a=i
      ·subst hai;rw [Tg ⟨oM,oM⟩,show a * sz+b - a * sz=b by omega] at hu;rw [List.getElem?_set_self oM] at hy;simp only [Option.bind_some] at hy;have cu:b<l.length:=oM;have:=bf b l[b] y (Ti cu) hy;exact Up this (fu b l[b] u (Ti cu) hu).1
      rw [List.getElem?_set_ne (Ne.symm hai)] at hy;have an:¬(i * sz<=a * sz+b/\a * sz+b<i * sz+sz):=fun hh=>by
       rcases Nat.lt_or_gt_of_ne hai with h' | h'
       ·have:(a+1) * sz<=i * sz:=T4 _ h';rw [Si,Nat.one_mul] at this;omega
       have:(i+1) * sz<=a * sz:=T4 _ h';rw [Si,Nat.one_mul] at this;omega
      rw [Tc an] at hu;exact hf.rel a b y u hb hy (by rw [TA];exact hu)
     have ye:∀u∈vs2,u.oneCell'=true:=by
      intro u hu
      obtain ⟨k,hk,rfl⟩:=Array.getElem_of_mem hu;have h3:=dh k;rw [TF hk] at h3
      by_cases cj:i * sz<=k/\k<i * sz+sz
      ·rw [Tg cj] at h3;have cu:k - i * sz<l.length:=oM;exact (fu (k - i * sz) l[k - i * sz] _ (Ti cu) h3.symm).2
      rw [Tc cj] at h3;exact h1 _ (Sc h3.symm)
     obtain ⟨vs',q1,q2,q3,q4⟩:=ZgM hρ ay ps (rows.set i r) rows' vs2 ur ye h;exact ⟨vs',q1,q2,by rw [q3,Sx],q4⟩
    cases hr
   cases h
  cases h
theorem JN (hT:TabOK T G.P) {ρ:Operand->PV} {ρ':Operand->Value} (hρ:∀x,VRel G e σ w (ρ x) (ρ' x)) {t n el:Nat} {ps:Array (Nat×Operand)} {zero:List D} {rows:List (List D)}
  (nc:(T.get t).kind=.slice el) (ej:(T.get el).kind≠.other) (f9:Zqh (T.get el).zero=some zero) (ay:1<=zero.length) (et:n * zero.length<=16777216) (bj:ZcS zero ρ n ps.toList=some rows) :
  ∃vs',(Instr.buildSlice t n (ps.map fun p=>(p.1,ρ' p.2))).run G.P w=.ok (.slice (some ⟨w.heap.size,0,none⟩) n n) (w.alloc (.cells vs' el))/\Flat (okc e σ) w rows zero.length vs'.toList/\rows.length=n/\zero.length=(T.get el).size:=by
 obtain ⟨ti,td,tz,ox,ra,_,_,bh,_,_,_⟩:=(hT.get (t:=t) (by rw [nc];simp)).ex;rw [nc] at bh;cases bh;obtain ⟨i,d,z,hi,hd,hs,ff,bq,hz,ei,mw,_⟩:=(hT.get ej).ex;obtain ⟨dg,bf⟩:=ZaD (ok:=okc e σ) f9;have rh:i.size=zero.length:=by rw [hs,<- mw,dg]
 obtain ⟨uh,nv⟩:=W7 (G:=G) (e:=e) (σ:=σ) (w:=w) ei;have wy:z.cells.size=zero.length:=by rw [dg,<- uh];simp
 have hsz:0<zero.length:=ay;have h0:Flat (okc e σ) w (List.replicate n zero) zero.length ((Array.range (n * zero.length)).map (fun k=>z.cells[k % z.cells.size]!)).toList:=by
  exact m38
 have h01:∀u∈(Array.range (n * zero.length)).map (fun k=>z.cells[k % z.cells.size]!),u.oneCell'=true:=fun u hu=>by
  obtain ⟨k,hk,rfl⟩:=Array.mem_map.1 hu;have hm:k % z.cells.size<z.cells.size:=Nat.mod_lt _ oM;rw [getElem!_pos z.cells _ hm];have cu:k % z.cells.size<(T.get el).zero.length:=oM;exact (nv _ _ _ (Ti cu) (by rw [TA,TF hm])).2
 obtain ⟨vs',q1,q2,q3,q4⟩:=ZgM hρ hsz ps.toList _ rows _ h0 h01 bj;rw [List.length_replicate] at q3;have am:(Instr.buildSlice t n (ps.map fun p=>(p.1,ρ' p.2))).run G.P w=.ok (.slice (some ⟨w.heap.size,0,none⟩) n n) (w.alloc (.cells vs' el)):=by
  unfold Instr.buildSlice
  simp only [Sem.run_bind,Zc ra,Result.andThen,ZF hi,rh];rw [Tc oM];have ut:(ps.map fun p=>(p.1,ρ' p.2)).toList=ps.toList.map fun p=>(p.1,ρ' p.2):=sM
  split
  ·rename_i h0'
   have gm:(Array.range (n * zero.length)).map (fun k=>(#[]:Array Value)[k % (#[]:Array Value).size]!)=(Array.range (n * zero.length)).map (fun k=>z.cells[k % z.cells.size]!):=by
    rw [h0'];simp
   simp only [Sem.run_bind,Sem.run_pure,Result.andThen];rw [gm,ut,q1];exact m114
  simp only [Sem.run_bind,Sem.run_pure,Result.andThen,zeroValue,YB hi,hz];rw [ut,q1];exact m114
 exact ⟨vs',am,q2,q3,by rw [<- rh,hs]⟩
theorem Zcv (hT:TabOK T G.P) (hS:SRel G e σ w) {ρ:Operand->PV} {ρ':Operand->Value} (hρ:∀x,VRel G e σ w (ρ x) (ρ' x)) {t n el:Nat} {ps:Array (Nat×Operand)} {zero:List D} {rows:List (List D)}
  (nc:(T.get t).kind=.slice el) (ej:(T.get el).kind≠.other) (f9:Zqh (T.get el).zero=some zero) (ay:1<=zero.length) (et:n * zero.length<=16777216) (bj:ZcS zero ρ n ps.toList=some rows) :
  ∃v w1,(Instr.buildSlice t n (ps.map fun p=>(p.1,ρ' p.2))).run G.P w=.ok v w1/\Grows w w1/\DRel (okc e σ) w1 (.sl rows) v:=by
 obtain ⟨vs',am,q2,ab,_⟩:=JN (ρ':=ρ') hT hρ nc ej f9 ay et bj;refine ⟨_,_,am,Grows.alloc w _,?_⟩;have hg:=Grows.alloc w (.cells vs' el);have hst:=hg.stepped e σ;have gl:Flat (okc e σ) (w.alloc (.cells vs' el)) rows zero.length vs'.toList:=q2.mono fun y u h=>h.later hst.toLater
 have:=gl.to_sl w.heap.size 0 n oM (fun k u hk=>by
  simp only [World.cell?,Sf];rw [heap_alloc_new w (.cells vs' el)];simpa using hk) (fun k hk=>⟨fun hX=>by have:=hS.xlt _ _ hX;omega,fun j hj h=>by have:=hS.lt hj;omega,fun x hx q hq uq=>by
   obtain ⟨_,_,cs,tyy,fz,hh⟩:=hS.own x hx q hq;have:=(Tq.1 hh).1;omega⟩)
 rwa [ab] at this
theorem Zc1 (hT:TabOK T G.P) (hS:SRel G e σ w) {t n el:Nat} {zero:List D}
  (nc:(T.get t).kind=.slice el) (ej:(T.get el).kind≠.other) (f9:Zqh (T.get el).zero=some zero) (ay:1<=zero.length) (et:n * zero.length<=16777216) (nd:n * (T.get el).bytes<=16777216) :
  ∃v w1,(Instr.makeSlice t (.int .i64 n) (.int .i64 n)).run G.P w=.ok v w1/\Grows w w1/\DRel (okc e σ) w1 (.sl (List.replicate n zero)) v:=by
 obtain ⟨ti,td,tz,ox,ra,_,_,bh,_,_,_⟩:=(hT.get (t:=t) (by rw [nc];simp)).ex;rw [nc] at bh;cases bh;obtain ⟨i,d,z,hi,hd,hs,ff,bq,hz,ei,mw,_⟩:=(hT.get ej).ex;obtain ⟨dg,bf⟩:=ZaD (ok:=okc e σ) f9;have rh:i.size=zero.length:=by rw [hs,<- mw,dg]
 obtain ⟨uh,nv⟩:=W7 (G:=G) (e:=e) (σ:=σ) (w:=w) ei;have wy:z.cells.size=zero.length:=by rw [dg,<- uh];simp
 have hsz:0<zero.length:=ay;have hn:n<=16777216:=TW (Nat.le_mul_of_pos_right n hsz) et;obtain ⟨V,hV⟩:∃V,(Array.range (n * zero.length)).map (fun k=>z.cells[k % z.cells.size]!)=V:=⟨_,rfl⟩
 have h0:Flat (okc e σ) w (List.replicate n zero) zero.length V.toList:=by
  rw [<- hV];exact m38
 have hwr:IntKind.i64.wrap (n:Int)=n:=by
  unfold IntKind.wrap
  exact m178
 have oz:(decide ((n:Int)<0) || decide ((i.bytes:Int) * (n:Int)>2 ^ 48))=false:=by
  have:(i.bytes:Int) * (n:Int)=((n * (T.get el).bytes:Nat):Int):=by rw [ff];push_cast;exact Int.mul_comm _ _
  rw [this];simp only [T9,decide_eq_false_iff_not];exact ⟨oM,oM⟩
 have am:(Instr.makeSlice t (.int .i64 n) (.int .i64 n)).run G.P w=.ok (.slice (some ⟨w.heap.size,0,none⟩) n n) (w.alloc (.cells V el)):=by
  unfold Instr.makeSlice
  have ha:Sem.run G.P (asIntOf (.int .i64 (n:Int))) w=.ok (.i64,(n:Int)) w:=rfl;have ov:decide ((n:Int)<0)=false:=decide_eq_false oM;have dx:decide ((n:Int)>(n:Int))=false:=decide_eq_false oM;have iu:decide ((i.bytes:Int) * (n:Int)>2 ^ 48)=false:=by
   rw [T9] at oz;exact oz.2
  have f8:(askRoom (n * i.bytes)).run G.P w=.ok () w:=by
   unfold askRoom
   rw [Tc (by rw [ff];unfold roomBytes;omega)];rfl
  simp only [Sem.run_bind,Zc ra,Result.andThen,asInt,Functor.map,Sem.run_pure,YB hi,ha,hwr,ov,dx,iu,T8,To,if_false,Tu,f8,ZF hi,rh];split
  ·rename_i h0'
   have gm:(Array.range (n * zero.length)).map (fun k=>(#[]:Array Value)[k % (#[]:Array Value).size]!)=V:=by
    rw [<- hV,h0'];simp
   simp only [Sem.run_bind,Sem.run_pure,Result.andThen];rw [gm];exact m114
  simp only [Sem.run_bind,Sem.run_pure,Result.andThen,zeroValue,YB hi,hz];rw [hV];exact m114
 refine ⟨_,_,am,Grows.alloc w _,?_⟩;have hg:=Grows.alloc w (.cells V el);have hst:=hg.stepped e σ;have gl:Flat (okc e σ) (w.alloc (.cells V el)) (List.replicate n zero) zero.length V.toList:=h0.mono fun y u h=>h.later hst.toLater
 have:=gl.to_sl w.heap.size 0 n (by rw [List.length_replicate];exact Tr _) (fun k u hk=>by
  simp only [World.cell?,Sf];rw [heap_alloc_new w (.cells V el)];simpa using hk) (fun k hk=>⟨fun hX=>by have:=hS.xlt _ _ hX;omega,fun j hj h=>by have:=hS.lt hj;omega,fun x hx q hq uq=>by
   obtain ⟨_,_,cs,tyy,fz,hh⟩:=hS.own x hx q hq;have:=(Tq.1 hh).1;omega⟩)
 rwa [List.length_replicate] at this
theorem Zlh (hT:TabOK T G.P) (hS:SRel G e σ w) {K:PV->St->Prop} {ρ:Operand->PV} {ρ':Operand->Value} (hρ:∀x,VRel G e σ w (ρ x) (ρ' x)) (o:Oper) (h:Zww T o.op ρ σ K) :
  ∃pv σ1 v w1 e1,K pv σ1/\(execOp ρ' o).run G.P w=.ok (.value v) w1/\Stepped e σ w e1 σ1 w1/\SRel G e1 σ1 w1/\VRel G e1 σ1 w1 pv v:=by
 unfold Zww at h
 split at h
 ·rename_i t n ps ho
  split at h
  ·rename_i el hk
   split at h
   ·exact h.elim
   rename_i cj
   split at h
   ·rename_i zero f9
    split at h
    ·rename_i rows ay et hn bj
     have hn:=Ta hn;obtain ⟨vs',am,dv,ab,hzs⟩:=JN (ρ':=ρ') hT hρ hk (fun h0=>cj h0) f9 (Ta ay) (Ta et) bj;rw [hzs] at dv;have fg:vs'.size=n * (T.get el).size:=by have:=dv.len;rw [ab,Sp] at this;exact this
     obtain ⟨e1,h1,h2,h3⟩:=Ji (more:=rows) (v':=.slice (some ⟨w.heap.size,0,none⟩) n n) (w1:=w.alloc (.cells vs' el)) hT hS (fun h0=>cj h0) (by have:=Ta ay;omega) (.slnil) σ.tk (fun _ h=>h) (fun r hr=>by cases hr) (fun r hr=>dv.wid r hr)
      (fun a o c hv=>by simp at hv) rfl rfl rfl (Grows.alloc w _).size (fun b off u hu _=>.inl (by rw [(Grows.alloc w _).cell (Uo hu)];exact hu)) (fun b hb _=>heap_alloc_old w _ b hb)
      (.inr ⟨w.heap.size,0,n,vs',el,(0,0),by simp [ab],hS.big,by simp [ab],heap_alloc_new w _,⟨oM,rfl,rfl,oM⟩,⟨Tr _,fun o _ _=>sM⟩,.inr (Tr _),vs'.toList,by simpa using dv,fun k u hk=>by
       simp only [World.cell?,Sf];rw [heap_alloc_new w (.cells vs' el)];simpa using hk⟩)
     refine ⟨_,_,_,_,e1,h,?_,h1,h2,h3⟩;exact m142
    exact h.elim
   exact h.elim
  exact h.elim
 ·rename_i s d x ho
  have hx:=hρ x;split at h
  ·rename_i el hk
   obtain ⟨i,ds,z,hi,hd,hs,ff,bh,hz,ei,_⟩:=(hT.get (t:=s) (by rw [hk];simp)).ex;rw [hk] at bh;cases bh;split at h
   ·rename_i b off n cj iq oy
    obtain ⟨i2,dd,z2,aa,bf,gd,jw,bq,ei,ug,_⟩:=(hT.get (t:=d) (by rw [cj];simp)).ex;rw [cj] at bq;cases bq;obtain ⟨i3,de,z3,hi3,my,hs3,x7,ld,uh,ab2,_⟩:=(hT.get (t:=el) (by rw [iq];simp)).ex;rw [iq] at ld;cases ld;rw [oy] at hx;split at h
    ·rename_i tb cs nr
     obtain ⟨l,x6,ao,hK⟩:=h;generalize hv:ρ' x=vx at hx
     cases hx with
     | asl _ _ _ hb =>
     refine ⟨_,_,_,_,e,hK,?_,Stepped.refl e σ w,hS,.mkstr⟩;unfold execOp
     simp only [ho,convert,Sem.run_bind,Zc hd,Zc bf,Result.andThen,hv];simp only [Zc my,Sem.run_bind,Result.andThen,ZmE (hS.box b _ nr) ao x6,Sem.run_pure]
    exact h.elim
   exact h.elim
  exact h.elim
 exact h.elim
theorem Zli (hT:TabOK T G.P) (hS:SRel G e σ w) {K:PV->Prop} {ρ:Operand->PV} {ρ':Operand->Value} (hρ:∀x,VRel G e σ w (ρ x) (ρ' x)) (o:Oper) (h:ZgE T o.op o.type ρ σ.bx K) :
  ∃pv v w1,K pv/\Grows w w1/\VRel G e σ w1 pv v/\(execOp ρ' o).run G.P w=.ok (.value v) w1:=by
 unfold ZgE at h
 split at h
 ·rename_i x hx
  unfold Zk6 at hx
  split at hx
  ·rename_i s d x' ho
   split at hx
   ·rename_i jj
    split at hx
    ·rename_i el bh
     split at hx
     ·rename_i hke
      cases hx
      obtain ⟨i1,d1,z1,wx,dg,mg,agc,yg,_⟩:=(hT.get (t:=s) (by rw [jj];simp)).ex;obtain ⟨i2,d2,z2,aa,bf,gd,jw,bq,_⟩:=(hT.get (t:=d) (by rw [bh];simp)).ex;obtain ⟨i3,d3,z3,hi3,my,hs3,x7,ld,_⟩:=(hT.get (t:=el) (by rw [hke];simp)).ex;rw [jj] at yg;rw [bh] at bq;rw [hke] at ld;obtain rfl:d1=.string:=yg;obtain rfl:d2=.slice el:=bq;obtain rfl:d3=.int .u8:=ld;have hx:=hρ x;split at h
      ·rename_i l cz
       rw [cz] at hx;have hg:Grows w (Lib.bytesWorld w el ⟨l.toArray⟩):=⟨rfl,rfl,rfl,by rw [Lib.bytesWorld_size];omega,fun b hb=>Lib.bytesWorld_at_old w el _ b hb⟩
       refine ⟨_,.slice (some ⟨w.heap.size,0,none⟩) l.length (grownCap w l.length 0 el),_,h,hg,?_,?_⟩
       ·refine .d _ _ ?_;have:=DRel.sl (ok:=okc e σ) (w:=Lib.bytesWorld w el ⟨l.toArray⟩) (l.map fun b:UInt8=>[D.int .u8 b.toNat]) w.heap.size 0 (grownCap w l.length 0 el) 1 (fun i _=>.int .u8 (l.getD i 0).toNat) ?_ ?_ ?_ ?_ ?_
        ·simpa using this
        ·simp only [Te];exact grownCap_ge w l.length 0 el
        ·intro r hr;simp only [SC] at hr;obtain ⟨b,_,rfl⟩:=hr;rfl
        ·intro i j hi hj
         simp only [Te] at hi;have:j=0:=oM;subst this;simp only [Sf,Nat.mul_one,Se];have:=Lib.bytesWorld_cell w el ⟨l.toArray⟩ i (show i<l.toArray.size by simpa using hi);simpa using this
        ·intro i j hi hj
         refine ⟨fun hX=>?_,fun k hk=>?_,fun t ht p hp uv=>?_⟩
         ·have:=hS.xlt _ _ hX;omega
         ·have:=hS.lt hk;omega
         obtain ⟨_,_,cs,ty,fz,hh⟩:=hS.own t ht p hp;have:=(Tq.1 hh).1;omega
        intro i j y hy
        rw [TL] at hy
        cases eu:l[i]? with
        | none=>rw [eu] at hy;simp at hy
        | some b =>
        rw [eu] at hy
        cases j with
        | zero=>simp at hy;subst hy;simp only [TY,eu,Option.getD_some];exact .int _ _
        | succ j=>simp at hy
       unfold execOp
       simp only [ho,hx.dstr];rw [Sem.run_bind,Lib.run_convert_string_bytes w s d el ⟨l.toArray⟩ dg bf my];rfl
      exact h.elim
     cases hx
    cases hx
   cases hx
  cases hx
 split at h
 ·rename_i t n ps ho
  split at h
  ·rename_i el hk
   split at h
   ·exact h.elim
   rename_i cj
   split at h
   ·rename_i zero f9
    split at h
    ·rename_i rows ay et bj
     obtain ⟨v,w1,am,hg,hD⟩:=Zcv hT hS hρ hk (fun h0=>cj h0) f9 (Ta ay) (Ta et) bj;refine ⟨_,v,w1,h,hg,.d _ _ hD,?_⟩;exact m142
    exact h.elim
   exact h.elim
  exact h.elim
 ·rename_i t l c ho
  split at h
  ·rename_i el hk
   split at h
   ·exact h.elim
   rename_i cj
   split at h
   ·rename_i zero n m f9 hl hc
    split at h
    ·rename_i yj ay et nd
     obtain rfl:=Tn yj;obtain ⟨v,w1,am,hg,hD⟩:=Zc1 hT hS hk (fun h0=>cj h0) f9 (Ta ay) (Ta et) (Ta nd);refine ⟨_,v,w1,h,hg,.d _ _ hD,?_⟩;have e1:ρ' l=.int .i64 (n:Int):=by have:=hρ l;rw [hl] at this;exact this.dint
     have e2:ρ' c=.int .i64 (n:Int):=by have:=hρ c;rw [hc] at this;exact this.dint
     unfold execOp
     simp only [ho,Sem.run_bind,e1,e2];rw [am];rfl
    exact h.elim
   exact h.elim
  exact h.elim
 obtain ⟨pv,v,h1,h2,h3⟩:=ZmF hT hS hρ o h;exact ⟨pv,v,w,h1,Grows.refl w,h2,h3⟩
theorem ZmG (hT:TabOK T G.P) (hS:SRel G e σ w) {K:PV->St->Prop} {ρ:Operand->PV} {ρ':Operand->Value} (hρ:∀x,VRel G e σ w (ρ x) (ρ' x)) (o:Oper) (h:eop T o.op ρ σ K) :
  ∃pv σ1 v w1 e1,K pv σ1/\ZsC G.P ρ' o w v w1/\Stepped e σ w e1 σ1 w1/\SRel G e1 σ1 w1/\VRel G e1 σ1 w1 pv v:=by
 unfold eop at h
 split at h
 ·rename_i el ho
  split at h
  ·exact h.elim
  rename_i hk
  obtain ⟨i,d,z,hi,hd,hs,ff,bh,hz,ei,mw,_⟩:=(hT.get (t:=el) (fun h0=>hk h0)).ex;obtain ⟨uh,nv⟩:=W7 (G:=G) (e:=e) (σ:=σ) (w:=w) ei;obtain ⟨h1,h2,h3⟩:=Zc0 hS el (T.get el).zero z.cells (by simpa using uh) (fun i x u hx hu=>nv i x u hx (by rw [TA];exact hu));refine ⟨_,_,_,_,_,h,.inl ?_,h1,h2,h3⟩;unfold execOp
  simp only [ho,Instr.alloc,zeroValue,Sem.run_bind,YB hi,Result.andThen,hz,Sem.run_pure];rfl
 ·rename_i el x ho
  split at h
  ·rename_i l hl
   obtain ⟨dl,fu⟩:=VW (hρ x) hl;obtain ⟨h1,h2,h3⟩:=Zc0 hS el l (ρ' x).cells dl fu;exact ⟨_,_,_,_,_,h,.inl (by unfold execOp;simp only [ho];rfl),h1,h2,h3⟩
  exact h.elim
 ·rename_i t a x ho
  have ha:=hρ a;split at h
  ·rename_i b off cz;rw [cz] at ha
   split at h
   ·rename_i ty cs hb
    split at h
    ·rename_i l hl
     split at h
     ·exact h.elim
     ·rename_i h1 h2 hk
      generalize hv:ρ' a=v at ha
      cases ha with
      | ptr b off cu =>
      obtain ⟨w1,am,hst,cx⟩:=J6 hT hS hb (hρ x) hl (Tn h1) (Ta h2) (fun h0=>hk h0);refine ⟨_,_,Go.undef,w1,e,h,.inr ⟨?_,rfl⟩,hst,cx,.undef _⟩;unfold execOp
      simp only [ho,hv,Sem.run_bind,am,Result.andThen,Sem.run_pure]
     exact h.elim
    exact h.elim
   exact h.elim
  exact h.elim
 ·rename_i t x ho
  split at h
  ·rename_i hk
   obtain ⟨i,d,z,hi,hd,hs,ff,bh,hz,ei,mw,_⟩:=(hT.get (t:=t) (by rw [hk];simp)).ex;rw [hk] at bh;cases bh;split at h
   ·rename_i s cz
    have hx:=hρ x;rw [cz] at hx;have x8:=hx.dstr;obtain ⟨h1,h2,h3⟩:=ZcZ hS (.iter s 0) (.stringIter ⟨s.toArray⟩ 0) (fun _ _ _ _ hh=>hh);refine ⟨_,_,_,_,_,h,.inl ?_,h1,h2,h3⟩;unfold execOp
    simp only [ho,x8,Instr.range,Sem.run_bind,Zc hd,Result.andThen,Sem.run_pure,run_newObj];rfl
   exact h.elim
  exact h.elim
 ·rename_i x ho
  have hx:=hρ x;split at h
  ·rename_i b cz;rw [cz] at hx
   split at h
   ·rename_i s pos hb
    generalize hv:ρ' x=v at hx
    cases hx with
    | ptr b off cu =>
    obtain ⟨pv,σ1,v,w1,hK,am,hst,cx,hr⟩:=Zlg hS hb o.type h;refine ⟨pv,σ1,v,w1,e,hK,.inl ?_,hst,cx,hr⟩;unfold execOp
    simp only [ho,hv,Sem.run_bind,am,Result.andThen,Sem.run_pure]
   exact h.elim
  exact h.elim
 ·rename_i args argTypes ho
  split at h
  ·rename_i t tx s x x9 fg
   have sd:argTypes=#[t,tx]:=by rw [<- Array.toArray_toList (xs:=argTypes),x9]
   obtain ⟨q1,q2,aq⟩:∃q1 q2,args.toList=[q1,q2]:=by
    cases hl:args.toList with
    | nil=>rw [hl] at fg;cases fg
    | cons a l=>cases l with
     | nil=>rw [hl] at fg;cases fg
     | cons b l=>cases l with
      | nil=>exact ⟨a,b,rfl⟩
      | cons c l=>rw [hl] at fg;simp at fg
   have ha:args=#[q1,q2]:=by rw [<- Array.toArray_toList (xs:=args),aq]
   rw [aq] at fg;simp only [TN,TQ,List.cons.injEq,and_true] at fg;obtain ⟨om,gy⟩:=fg;have o4:=hρ q1;have jh:=hρ q2;rw [om] at o4;rw [gy] at jh;have nh:∀v' w1,(Builtin.append_ #[t,tx] o.type #[ρ' q1,ρ' q2]).run G.P w=.ok v' w1->ZsC G.P ρ' o w v' w1:=fun v' w1 hr=>.inl (by
    unfold execOp
    simp only [ho,resolve,invoke,builtin,Sem.run_bind,Sem.run_pure,Result.andThen,ha,sd];rw [show Array.map ρ' #[q1,q2]=#[ρ' q1,ρ' q2] from sM,hr])
   split at h
   ·rename_i el hk
    split at h
    ·exact h.elim
    rename_i cj
    split at h
    ·rename_i more ay hm
     split at h
     ·rename_i el2
      obtain ⟨hw,hb,hl,hK⟩:=h;generalize hv:ρ' q1=v at o4 nh
      cases o4 with
      | nils =>
      obtain ⟨v',w1,e1,am,hst,cx,hr⟩:=ZeM (ty:=o.type) hT hS hk (fun h0=>cj h0) (Ta ay) (rows:=[]) (.slnil) σ.tk (fun _ h=>h) (.inl ⟨rfl,rfl⟩) hm jh hw (by simpa using hb) (by simpa using hl);exact ⟨_,_,v',w1,e1,hK,nh v' w1 am,hst,cx,hr⟩
     ·rename_i tok e2 rows
      split at h
      ·rename_i dq oh
       obtain ⟨hw,hb,hl,hK⟩:=h;have:=Tn oh;subst this;have sh:=(Y7 _ _).1 dq;generalize hv:ρ' q1=v at o4 nh
       cases o4 with
       | sl tok e2 rows v hn hd ht =>
       obtain ⟨v',w1,e1,am,hst,cx,hr⟩:=ZeM (ty:=o.type) hT hS hk (fun h0=>cj h0) (Ta ay) hd (Zaz tok σ.tk) (fun x hx=>((Vv _ _ _).1 hx).1) (.inr ⟨tok,sh,fun h=>((Vv _ _ _).1 h).2 rfl,ht sh⟩) hm jh hw hb hl;exact ⟨_,_,v',w1,e1,hK,nh v' w1 am,hst,cx,hr⟩
      exact h.elim
     exact h.elim
    exact h.elim
   exact h.elim
  exact h.elim
 exact h.elim
end
end Go.PM
end

section
namespace Go.PM
def fw (ro:Option Nat):Fence:={ fn:=fun _=>True,depth:=none,alive:=false,round:=ro }
def VX (P:Program) (g:FuncId):Prop:=∀(args:Array Value) (w:World),(callFunc g args).run P w=.ok (.enter g args) w
def ArgsRel (G:GE) (e:Env) (σ:St) (w:World) (args:List PV) (vs:Array Value):Prop :=
 vs.size=args.length/\∀(i:Nat) (x:PV) (u:Value),args[i]?=some x->vs[i]?=some u->VRel G e σ w x u
def ZmH (G:GE) (e:Env) (σ:St) (w:World):PEnd->Ending->Prop
 | .ret x,en=>∃v,en=.returned v/\VRel G e σ w x v
 | .panic x,en=>∃v,en=.panicked [{ v:=v,recovered:=false }]/\VRel G e σ w x v
def ZwL (G:GE) (e:Env) (σ:St) (w:World) (K:PEnd->St->Prop) (en:Ending) (w':World):Prop :=
 ∃pe σ' e',K pe σ'/\ZmH G e' σ' w' pe en/\SRel G e' σ' w'/\Stepped e σ w e' σ' w'
def X3 (G:GE) (e:Env) (σ:St) (w:World) (K:PEnd->St->Prop) (en:Ending) (w':World):Prop :=
 ∃pe σ' e',K pe σ'/\ZmH G e' σ' w' pe en/\SRel G e' σ' w'/\Later e σ w e' σ' w'
def CallSem (G:GE) (cc:FuncId->List PV->St->(PEnd->St->Prop)->Prop):Prop:=∀g args σ K,cc g args σ K ->
 VX G.P g/\∀(ro:Option Nat) (n:Nat) (e:Env) (w:World) (vs:Array Value),SRel G e σ w->ArgsRel G e σ w args vs->CallsIn (fw ro) n G.P g vs w (ZwL G e σ w K)
def RawSem (G:GE) (e0:Env) (σ0:St) (w0:World) (cr:Value->List PV->St->(PEnd->St->Prop)->Prop):Prop:=∀v args σ K,cr v args σ K ->
 ∃l,v=.func (.yield l) #[] #[]/\∀(ro:Option Nat) (n:Nat) (e:Env) (w:World) (vs:Array Value),SRel G e σ w->Later e0 σ0 w0 e σ w->ArgsRel G e σ w args vs ->
  ∃f tmps asg body,(Instr.yield l vs).run G.P w=.ok (.round l f tmps asg body) w/\RoundIn (fw ro) n G.P l f tmps asg body w (X3 G e σ w K)
def UU (G:GE) (ci:FuncId->List PV->(Value->List PV->St->(PEnd->St->Prop)->Prop)->St->(PEnd->St->Prop)->Prop):Prop:=∀g args raw σ K,ci g args raw σ K ->
 VX G.P g/\∀(n:Nat) (e:Env) (w:World) (vs:Array Value),SRel G e σ w->ArgsRel G e σ w args vs->RawSem G e σ w raw->CallsIn (fw none) n G.P g vs w (X3 G e σ w K)
structure CxOK (G:GE) (C:Cx) (ro:Option Nat) (e0:Env) (σ0:St) (w0:World):Prop where
 tab:TabOK C.T G.P
 call:CallSem G C.call
 raw:RawSem G e0 σ0 w0 C.raw
 iter:UU G C.iter
 out:ro=none\/∀g args raw σ K,¬C.iter g args raw σ K
theorem RawSem.later {G:GE} {e0 e:Env} {σ0 σ:St} {w0 w:World} {cr:Value->List PV->St->(PEnd->St->Prop)->Prop} (h:RawSem G e0 σ0 w0 cr) (hL:Later e0 σ0 w0 e σ w):RawSem G e σ w cr:=fun v args σ' K hc=>by
 obtain ⟨l,h1,h2⟩:=h v args σ' K hc;exact ⟨l,h1,fun ro n e' w' vs hS la ha=>h2 ro n e' w' vs hS (hL.trans la) ha⟩
theorem CxOK.later {G:GE} {C:Cx} {ro:Option Nat} {e0 e:Env} {σ0 σ:St} {w0 w:World} (h:CxOK G C ro e0 σ0 w0) (hL:Later e0 σ0 w0 e σ w):CxOK G C ro e σ w:=⟨h.tab,h.call,h.raw.later hL,h.iter,h.out⟩
theorem CxOK.calm {G:GE} {C:Cx} {ro:Option Nat} {e0:Env} {σ0:St} {w0:World} (h:CxOK G C ro e0 σ0 w0):CxOK G C.calm ro e0 σ0 w0:=⟨h.tab,h.call,fun _ _ _ _ h=>h.elim,h.iter,h.out⟩
def ZaE (r:Nat):Deferred:={ target:=.collected r,args:=#[] }
def Marks (lo:Nat×List Deferred×Bool) (e:Env) (σ:St) (w:World) (l:List Deferred):Prop:=lo.1<=w.heap.size/\∃rs:List Nat,l=rs.map ZaE++lo.2.1/\(lo.2.2=true->rs=[])/\rs.Nodup/\∀r,r∈rs->lo.1<=r/\w.heap[r]?=some (.deferred (some [])) /\
 (∀i,i<σ.bx.length->e.β i≠r)/\∀t,t∈σ.tk->∀p,e.M t=some p->p.1≠r
theorem Marks.nil {lo:Nat} {fl:Bool} (e:Env) (σ:St) {w:World} (h:lo<=w.heap.size):Marks (lo,[],fl) e σ w []:=⟨h,[],rfl,fun _=>rfl,List.nodup_nil,fun r h=>(by cases h)⟩
theorem Marks.later {lo:Nat×List Deferred×Bool} {e e':Env} {σ σ':St} {w w':World} {l:List Deferred} (h:Marks lo e σ w l) (hL:Later e σ w e' σ' w'):Marks lo e' σ' w' l:=by
 obtain ⟨h0,rs,h1,dv,h2,h3⟩:=h;refine ⟨TW h0 hL.size,rs,h1,dv,h2,fun r hr=>?_⟩;obtain ⟨g1,g2,g3,g4⟩:=h3 r hr;have ah:=(Tq.1 g2).1;refine ⟨g1,(hL.blocks r ah g3 g4).trans g2,fun i hi=>?_,fun t ht p hp=>?_⟩
 ·by_cases h:i<σ.bx.length
  ·rw [hL.beta i h];exact g3 i h
  have:=hL.fresh i oM hi;omega
 rcases hL.ftok t ht p hp with h | ⟨t0,h0,p0,ol,h⟩
 ·omega
 rw [<- h];exact g4 t0 h0 p0 ol
theorem Jj {n:Nat}:∀{l:List PV},Zqi n l=true->∀(i:Nat) (x:PV),l[i]?=some x->bnd n x=true
 | [],_,i,x,hx=>by simp at hx
 | y::l,h,i,x,hx=>by
  simp only [Zqi,Tk] at h
  cases i with
  | zero=>simp at hx;subst hx;exact h.1
  | succ i=>exact Jj h.2 i x (by simpa using hx)
theorem ZmI {n:Nat}:∀{l:List PV},(∀(i:Nat) (x:PV),l[i]?=some x->bnd n x=true)->Zqi n l=true
 | [],_=>rfl
 | y::l,h=>by
  simp only [Zqi,Tk];exact ⟨h 0 y sM,ZmI fun i x hx=>h (i+1) x (by simpa using hx)⟩
theorem W0:∀{l:List PV} (i:Nat) (y:PV),(X9 l)[i]?=some y->∃x,l[i]?=some x/\y=clean x
 | [],i,y,h=>by simp [X9] at h
 | x::l,i,y,h=>by
  cases i with
  | zero=>simp [X9] at h;exact ⟨x,sM,h.symm⟩
  | succ i=>simp only [X9,T6] at h;obtain ⟨z,h1,h2⟩:=W0 i y h;exact ⟨z,by simpa using h1,h2⟩
theorem Xs:∀{l:List PV},(X9 l).length=l.length
 | []=>rfl
 | x::l=>by simp [X9,Xs]
section
variable {G:GE} {e e':Env} {σ σ':St} {w w':World}
theorem VRel.bnd {x:PV} {v:Value} (h:VRel G e σ w x v):bnd σ.bx.length x=true:=by
 have get:∀{l:List PV} {va:Array Value},va.size=l.length->(∀(i:Nat) (x:PV) (u:Value),l[i]?=some x->va[i]?=some u->PM.bnd σ.bx.length x=true)->Zqi σ.bx.length l=true:=fun {l va} hs h=>ZmI fun i x hx=>by
  have hi:=(Tj.1 hx).1;exact h i x va[i] hx (TF oM)
 induction h with
 | ptr b off h=>simp only [PM.bnd,Nat.ble_eq];omega
 | asl b off n h=>simp only [PM.bnd,Nat.ble_eq];omega
 | func f a c va vc ha hc _ _ ih1 ih2=>simp only [PM.bnd,Tk];exact ⟨get ha ih1,get hc ih2⟩
 | iface t x v _ ih=>exact ih
 | agg cs vs hs _ _ ih=>exact get hs ih
 | tuple cs vs hs _ ih=>exact get hs ih
 | _=>rfl
theorem VRel.clean {n:Nat} (hn:n<=σ'.bx.length) (hβ:∀i,i<n->e'.β i=e.β i)
  (hp:∀b off u,w.cell? ⟨b,off,none⟩=some u->okc e σ b off->okc e' σ' b off/\w'.cell? ⟨b,off,none⟩=some u) {x:PV} {v:Value} (h:VRel G e σ w x v) (hb:PM.bnd n x=true):VRel G e' σ' w' (clean x) v:=by
 induction h with
 | d x v h=>exact .d _ _ (h.mono hp)
 | undef v=>exact .undef _
 | ptr b off h =>
  simp only [PM.bnd,Nat.ble_eq] at hb;rw [<- hβ b oM];exact .ptr b off oM
 | asl b off m h =>
  simp only [PM.bnd,Nat.ble_eq] at hb;rw [<- hβ b oM];exact .asl b off m oM
 | elem r off b o u hc ho hu=>exact .elem r off b o u (fun j hj=>(hp b _ _ (hc j hj) (ho j hj)).2) (fun j hj=>(hp b _ _ (hc j hj) (ho j hj)).1) (fun j x hx=>(hu j x hx).mono hp)
 | sl t el rows v hn hd ht=>exact .d _ _ (hd.mono hp)
 | nils el=>exact .d _ _ .slnil
 | func f a c va vc ha hc _ _ ih1 ih2 =>
  simp only [PM.bnd,Tk] at hb;refine .func f _ _ va vc (by rw [Xs];exact ha) (by rw [Xs];exact hc) (fun i y u hy hu=>?_) (fun i y u hy hu=>?_)
  ·obtain ⟨x,hx,rfl⟩:=W0 i y hy;exact ih1 i x u hx hu (Jj hb.1 i x hx)
  obtain ⟨x,hx,rfl⟩:=W0 i y hy;exact ih2 i x u hx hu (Jj hb.2 i x hx)
 | iface t x v _ ih=>exact .iface t _ v (ih hb)
 | agg cs vs hs _ h1 ih=>exact .agg _ vs (by rw [Xs];exact hs) (fun i y u hy hu=>by obtain ⟨x,hx,rfl⟩:=W0 i y hy;exact ih i x u hx hu (Jj hb i x hx)) h1
 | tuple cs vs hs _ ih=>exact .tuple _ vs (by rw [Xs];exact hs) (fun i y u hy hu=>by obtain ⟨x,hx,rfl⟩:=W0 i y hy;exact ih i x u hx hu (Jj hb i x hx))
 | raw v=>exact .raw _
theorem JO:∀{l:List PV},(cleanNL l).length=l.length
 | []=>rfl
 | x::l=>by simp [PM.cleanNL,JO]
theorem Zc2:∀{l:List PV} (i:Nat) (y:PV),(cleanNL l)[i]?=some y->∃x,l[i]?=some x/\y=PM.cleanN x
 | [],i,y,h=>by simp [PM.cleanNL] at h
 | x::l,i,y,h=>by
  cases i with
  | zero=>simp [PM.cleanNL] at h;exact ⟨x,sM,h.symm⟩
  | succ i=>simp only [PM.cleanNL,T6] at h;obtain ⟨z,h1,h2⟩:=Zc2 i y h;exact ⟨z,by simpa using h1,h2⟩
theorem VRel.cleanN {n:Nat} (hn:n<=σ'.bx.length) (hβ:∀i,i<n->e'.β i=e.β i)
  (hp:∀b off u,w.cell? ⟨b,off,none⟩=some u->okc e σ b off->okc e' σ' b off/\w'.cell? ⟨b,off,none⟩=some u) {x:PV} {v:Value} (h:VRel G e σ w x v) (hb:PM.bnd n x=true):VRel G e' σ' w' (cleanN x) v:=by
 induction h with
 | d x v h=>exact .d _ _ (h.mono hp)
 | undef v=>exact .undef _
 | ptr b off h =>
  simp only [PM.bnd,Nat.ble_eq] at hb;rw [<- hβ b oM];exact .ptr b off oM
 | asl b off m h =>
  simp only [PM.bnd,Nat.ble_eq] at hb;rw [<- hβ b oM];exact .asl b off m oM
 | elem r off b o u hc ho hu=>exact .elem r off b o u (fun j hj=>(hp b _ _ (hc j hj) (ho j hj)).2) (fun j hj=>(hp b _ _ (hc j hj) (ho j hj)).1) (fun j x hx=>(hu j x hx).mono hp)
 | sl t el rows v hn hd ht=>exact .d _ _ (hd.mono hp)
 | nils el=>exact .nils el
 | func f a c va vc ha hc h1 h2 ih1 ih2=>exact VRel.clean hn hβ hp (.func f a c va vc ha hc h1 h2) hb
 | iface t x v h ih=>exact VRel.clean hn hβ hp (.iface t x v h) hb
 | agg cs vs hs _ h1 ih=>exact .agg _ vs (by rw [JO];exact hs) (fun i y u hy hu=>by obtain ⟨x,hx,rfl⟩:=Zc2 i y hy;exact ih i x u hx hu (Jj hb i x hx)) h1
 | tuple cs vs hs h ih=>exact VRel.clean hn hβ hp (.tuple cs vs hs h) hb
 | raw v=>exact .raw _
end
theorem FRel.clean {G:GE} {e e':Env} {σ σ':St} {w w':World} {f:Frame} {tm:Array Value} (hF:FRel G e σ w f tm) (hL:Later e σ w e' σ' w'):FRel G e' σ' w' (UO f) tm :=
 fun i=>VRel.clean hL.len hL.beta hL.pres (hF i) (hF i).bnd
def ZwM (G:GE) (e:Env) (σ:St) (w:World):PExit->Exit->Prop
 | .normal,x=>x=.normal
 | .exit id,x=>x=.exit id
 | .goto l,x=>x=.goto l
 | .ret,x=>x=.ret
 | .panic p,x=>∃v,x=.panic [{ v:=v,recovered:=false }]/\VRel G e σ w p v
def Yf (G:GE) (e0:Env) (σ0:St) (w0:World) (ds:Nat×List Deferred×Bool) (n:Nat) (Z:Array Value->Prop) (Q:PQ):Exit->Act->World->Prop:=fun x a w =>
 ∃pe f e σ,Q pe f σ/\ZwM G e σ w pe x/\SRel G e σ w/\FRel G e σ w f a.tmps/\Later e0 σ0 w0 e σ w/\a.tmps.size=n/\Marks ds e σ w a.defers/\Z a.tmps
def KRel (G:GE) (e0:Env) (σ0:St) (w0:World) (ds:Nat×List Deferred×Bool) (n:Nat) (Z:Array Value->Prop) (K:Frame->St->Prop):Act->World->Prop:=fun a w =>
 ∃f e σ,K f σ/\SRel G e σ w/\FRel G e σ w f a.tmps/\Later e0 σ0 w0 e σ w/\a.tmps.size=n/\Marks ds e σ w a.defers/\Z a.tmps
theorem VY:∀(n:Nat) (K:Nat->Prop),Xi n K=K n
 | 0,K=>rfl
 | n+1,K=>by simp only [Xi,VY n]
theorem ZmJ (v:PV) (K:PV->Prop):Zmq v K=K v:=by cases v <;> simp only [Zmq,VY]
theorem Zbq:∀(l:List PV) (K:List PV->Prop),Uj l K=K l
 | [],_=>rfl
 | v::l,K=>by simp only [Uj,ZmJ,Zbq l]
theorem ZgN (v:PV) (K:PV->Prop):Zjo v K=K v:=by cases v <;> simp only [Zjo,VY,Zbq]
theorem ZeN:∀(l:List PV) (K:List PV->Prop),Zfp l K=K l
 | [],_=>rfl
 | v::l,K=>by simp only [Zfp,ZgN,ZeN l]
theorem YC (v:PV) (K:PV->Prop):J1 v K=K v:=by cases v <;> simp only [J1,VY,Zbq,ZgN,ZeN]
theorem ZgO:∀(l:List PV) (K:List PV->Prop),Zjp l K=K l
 | [],_=>rfl
 | v::l,K=>by simp only [Zjp,YC,ZgO l]
theorem ZaF:∀(l:List Box) (K:List Box->Prop),Zb6 l K=K l
 | [],_=>rfl
 | .cells t cs::l,K=>by simp only [Zb6,ZgO,ZaF l]
 | .iter s p::l,K=>by simp only [Zb6,ZaF l]
 | .loop st pd r::l,K=>by simp only [Zb6,ZaF l]
theorem ZaG:∀(l:List Nat) (K:List Nat->Prop),ZgF l K=K l
 | [],_=>rfl
 | t::l,K=>by simp only [ZgF,VY,ZaG l]
theorem Y3 (σ:St) (K:St->Prop):UP σ K=K σ:=by simp only [UP,ZaF,ZaG,VY]
theorem Yr (f:Frame) (d:Option Nat) (v:PV) (K:Frame->Prop):ZhZ f d v K=K (YK f d v):=by
 cases d with
 | none=>rfl
 | some i=>simp only [ZhZ,YC];rfl
theorem UV {f:Frame} {s:Nat} {v:PV} (h:f s=v):JH f s v=f:=by
 funext j
 by_cases hj:s=j
 ·subst hj;rw [YY,h]
 rw [X1 f v hj]
theorem Y8 (a:Act) (d:Option Nat) (v:Value):(a.put d v).tmps.size=a.tmps.size:=by cases d <;> simp [Act.put]
theorem Zjt {N:Nat} {Z:Array Value->Prop} {a:Act} {d:Option Nat} {v:Value} (hd:∀i,d=some i->i<N/\∀t v,Z t->Z (t.setIfInBounds i v)) (hZ:Z a.tmps):Z (a.put d v).tmps:=by
 cases d with
 | none=>exact hZ
 | some i=>exact (hd i rfl).2 _ _ hZ
theorem Wb (a:Act) (d:Option Nat) (v:Value):(a.put d v).defers=a.defers:=by cases d <;> rfl
section
variable {G:GE} {C:Cx} {e0 e:Env} {σ0 σ:St} {w0 w:World} {a:Act} {f:Frame} {Q:PQ} {K:Frame->St->Prop} {ro:Option Nat} {n:Nat} {ds:Nat×List Deferred×Bool} {N:Nat} {Z:Array Value->Prop}
theorem KRel.put {e1:Env} {σ1:St} {w1:World} {o:Oper} {pv:PV} {v:Value} (hF:FRel G e σ w f a.tmps) (hL:Later e0 σ0 w0 e σ w) (hN:a.tmps.size=N) (bn:Marks ds e σ w a.defers) (hZ:Z a.tmps) (hd:∀d,o.dst=some d->d<N/\∀t v,Z t->Z (t.setIfInBounds d v))
  (hK:ZhZ f o.dst pv fun f=>K f σ1) (hst:Stepped e σ w e1 σ1 w1) (cx:SRel G e1 σ1 w1) (hr:VRel G e1 σ1 w1 pv v):KRel G e0 σ0 w0 ds N Z K (a.put o.dst v) w1:=by
 rw [Yr] at hK;exact ⟨_,e1,σ1,hK,cx,(hF.step hst).put hr (by rw [hN];exact fun d h=>(hd d h).1),hL.trans hst.toLater,by rw [Y8];exact hN,by rw [Wb];exact bn.later hst.toLater,Zjt hd hZ⟩
theorem Zfu {args:Array Operand} (hρ:∀x,VRel G e σ w (ev f x) (a.eval x)):ArgsRel G e σ w (args.toList.map (ev f)) (args.map a.eval):=by
 refine ⟨sM,fun i x u hx hu=>?_⟩;rw [TL] at hx;rw [Array.getElem?_map] at hu
 cases hq:args[i]? with
 | none=>rw [hq] at hu;cases hu
 | some q =>
 exact m181
theorem ArgsRel.append {x y:List PV} {vx vy:Array Value} (h1:ArgsRel G e σ w x vx) (h2:ArgsRel G e σ w y vy):ArgsRel G e σ w (x++y) (vx++vy):=by
 refine ⟨by rw [Array.size_append,Tb,h1.1,h2.1],fun i p u hp hu=>?_⟩
 by_cases hi:i<x.length
 ·rw [TM hi] at hp;rw [Array.getElem?_append_left (by rw [h1.1];exact hi)] at hu;exact h1.2 i p u hp hu
 rw [TX oM] at hp;rw [Array.getElem?_append_right (by rw [h1.1];omega),h1.1] at hu;exact h2.2 _ p u hp hu
theorem ZmK {G:GE} {C:Cx} {e e':Env} {σ σ':St} {w w':World} {f:Frame} {tm:Array Value} (hF:FRel G e σ w f tm) (hL:Later e σ w e' σ' w'):FRel G e' σ' w' (C.pf f) tm:=by
 unfold Cx.pf
 split
 ·exact hF.clean hL
 exact fun i=>.undef _
theorem J8 (hC:CxOK G C ro e0 σ0 w0) (hS:SRel G e σ w) (hF:FRel G e σ w f a.tmps) (hL:Later e0 σ0 w0 e σ w) (hN:a.tmps.size=N) (bn:Marks ds e σ w a.defers) (hZ:Z a.tmps) {o:Oper} (hd:∀d,o.dst=some d->d<N/\∀t v,Z t->Z (t.setIfInBounds d v))
  (h:W4 C o f σ Q K):o.wpIn (fw ro) n G.P a w (KRel G e0 σ0 w0 ds N Z K) (Yf G e0 σ0 w0 ds N Z Q):=by
 have hρ:∀x,VRel G e σ w (ev f x) (a.eval x):=fun x=>Zb8 hF x
 refine ⟨fun _ _=>trivial,?_⟩;unfold W4 at h
 simp only [Y3,YC] at h;split at h
 ·rename_i hE
  have ju:∀c,o.op≠.defer c:=fun c hc=>by rw [hc] at h;exact h
  rw [show (fw ro).round=ro from rfl,Oper.semAt_eq _ _ _ ju];obtain ⟨pv,v,w1,hK,hg,hr,am⟩:=Zli hC.tab hS hρ o h;rw [am];exact KRel.put hF hL hN bn hZ hd hK (hg.stepped e σ) (hS.grow hg) hr
 rename_i hE
 have ju:∀c,o.op≠.defer c:=fun c hc=>by rw [hc] at hE;cases hE
 rw [show (fw ro).round=ro from rfl,Oper.semAt_eq _ _ _ ju];split at h
 ·rename_i x args at' ho
  have hx:=hρ x;have kq:∀(next:World->Ending->World->Prop),True:=fun _=>trivial
  unfold ZeD at h
  split at h
  ·rename_i g first caps cz
   rw [cz] at hx;generalize hv:a.eval x=v at hx
   cases hx with
   | func g first caps va vc ha hc h1 h2 =>
   obtain ⟨mi,lm⟩:=hC.call _ _ _ _ h;have aq:ArgsRel G e σ w (first++args.toList.map (ev f)++caps) (va++args.map a.eval++vc):=(ArgsRel.append (ArgsRel.append ⟨ha,h1⟩ (Zfu hρ)) ⟨hc,h2⟩)
   have am:(execOp a.eval o).run G.P w=.ok (.enter g (va++args.map a.eval++vc)) w:=by
    unfold execOp
    simp only [ho,resolve,hv,Deferred.ofValue,Sem.run_bind,Sem.run_pure,Result.andThen,invoke];exact mi _ _
   rw [am,Oper.uponIn_enter];refine ⟨fun h=>by simp [fw] at h,(lm ro (n - 1) e w _ hS aq).mono fun en w' hA=>?_⟩;obtain ⟨pe,σ',e',hK,qj,ey,hst⟩:=hA
   cases pe with
   | ret pv =>
    obtain ⟨u,rfl,hr⟩:=qj;exact KRel.put hF hL hN bn hZ hd hK hst ey hr
   | panic pv =>
   obtain ⟨u,rfl,hr⟩:=qj;exact ⟨.panic pv,_,e',σ',hK,⟨u,rfl,hr⟩,ey,ZmK hF hst.toLater,hL.trans hst.toLater,hN,bn.later hst.toLater,hZ⟩
  ·rename_i v cz
   rw [cz] at hx;generalize hv:a.eval x=v' at hx
   cases hx with
   | raw v =>
   obtain ⟨l,rfl,uw⟩:=hC.raw _ _ _ _ h;obtain ⟨fn,tmps,asg,body,hy,mj⟩:=uw ro (n - 1) e w _ hS hL (Zfu hρ);have am:(execOp a.eval o).run G.P w=.ok (.round l fn tmps asg body) w:=by
    unfold execOp
    simp only [ho,resolve,hv,Deferred.ofValue,Sem.run_bind,Sem.run_pure,Result.andThen,invoke,Array.empty_append,hy]
   rw [am,Oper.uponIn_round];refine ⟨fun h=>by simp [fw] at h,mj.mono fun en w' hA=>?_⟩;obtain ⟨pe,σ',e',hK,qj,ey,hst⟩:=hA
   cases pe with
   | ret pv =>
    obtain ⟨u,rfl,hr⟩:=qj;simp only at hK;rw [Yr] at hK;exact ⟨_,e',σ',hK,ey,(hF.clean hst).put hr (by rw [hN];exact fun d h=>(hd d h).1),hL.trans hst,by rw [Y8];exact hN,by rw [Wb];exact bn.later hst,Zjt hd hZ⟩
   | panic pv =>
   obtain ⟨u,rfl,hr⟩:=qj;exact ⟨.panic pv,_,e',σ',hK,⟨u,rfl,hr⟩,ey,ZmK (hF.clean (Later.refl _ _ _)) hst,hL.trans hst,hN,bn.later hst,hZ⟩
  exact h.elim
 ·rename_i x ho
  have hx:=hρ x;split at h
  ·rename_i t pv cz
   rw [cz] at hx;generalize hv:a.eval x=v at hx
   cases hx with
   | iface _ _ u hu =>
   have am:(execOp a.eval o).run G.P w=.halt (.panic (.iface t u)) w:=by
    unfold execOp
    simp only [ho,hv,Instr.panic];rfl
   rw [am];exact ⟨.panic (.iface t pv),_,e,σ,h,⟨.iface t u,rfl,.iface t pv u hu⟩,hS,ZmK hF (Later.refl _ _ _),hL,hN,bn,hZ⟩
  exact h.elim
 obtain ⟨pv,σ1,v,w1,e1,hK,ux,hst,cx,hr⟩:=ZmG hC.tab hS hρ o h;rcases ux with am | ⟨am,rfl⟩
 ·rw [am];exact KRel.put hF hL hN bn hZ hd hK hst cx hr
 rw [am];exact KRel.put hF hL hN bn hZ hd hK hst cx hr
theorem Uq (hC:CxOK G C ro e0 σ0 w0) (hS:SRel G e σ w) (hF:FRel G e σ w f a.tmps) (hL:Later e0 σ0 w0 e σ w) (hN:a.tmps.size=N) (bn:Marks ds e σ w a.defers) (hZ:Z a.tmps) {ops:Array Oper} {o:Oper} (hd:∀d,o.dst=some d->d<N/\∀t v,Z t->Z (t.setIfInBounds d v))
  (h:UL C ops.toList Q o f σ K) :
  if Region.wanted o (yielded ops a.tmps)=true then o.wpIn (fw ro) n G.P a w (KRel G e0 σ0 w0 ds N Z K) (Yf G e0 σ0 w0 ds N Z Q)
  else KRel G e0 σ0 w0 ds N Z K (a.put o.dst Go.undef) w:=by
 unfold UL at h
 split at h
 ·rename_i hg
  have:Region.wanted o (yielded ops a.tmps)=true:=by simp [Region.wanted,hg]
  rw [Tg this];exact J8 hC hS hF hL hN bn hZ hd h
 rename_i j want hg
 split at h
 ·rename_i s hs
  have si:(ops[j]?).bind (·.dst)=some s:=by
   unfold VT at hs
   rw [TA] at hs
   cases hoj:ops[j]? with
   | none=>rw [hoj] at hs;cases hs
   | some oj=>rw [hoj] at hs;exact hs
  have yk:=hF s;split at h
  ·rename_i t oe
   rw [oe] at yk;have hv:=yk.dbool;have hy:yielded ops a.tmps j=some t:=by
    unfold yielded
    rw [si];have:a.tmps[s]?=some (.bool t):=by
     rw [Array.getD_eq_getD_getElem?] at hv
     cases h2:a.tmps[s]? with
     | none=>rw [h2] at hv;cases hv
     | some u=>rw [h2] at hv;simp at hv;rw [hv]
    simp [this]
   have o5:Region.wanted o (yielded ops a.tmps)=(t == want):=by simp [Region.wanted,hg,hy]
   rw [o5]
   cases t <;> cases want <;> simp only [CondP] at h
   ·rw [UV oe] at h;simp only [beq_self_eq_true,if_true];exact J8 hC hS hF hL hN bn hZ hd h
   ·rw [UV oe] at h;rw [Tc dM];exact KRel.put hF hL hN bn hZ hd h (.refl _ _ _) hS (.raw _)
   ·rw [UV oe] at h;rw [Tc dM];exact KRel.put hF hL hN bn hZ hd h (.refl _ _ _) hS (.raw _)
   rw [UV oe] at h;simp only [beq_self_eq_true,if_true];exact J8 hC hS hF hL hN bn hZ hd h
  ·rename_i vs oe
   rw [oe] at yk;generalize hv:a.tmps.getD s Go.undef=v at yk
   cases yk
   have hy:yielded ops a.tmps j=none:=by
    unfold yielded
    rw [si];rw [Array.getD_eq_getD_getElem?] at hv
    cases h2:a.tmps[s]? with
    | none=>simp [h2]
    | some u=>rw [h2] at hv;simp at hv;subst hv;simp [h2]
   have o5:Region.wanted o (yielded ops a.tmps)=false:=by simp [Region.wanted,hg,hy]
   rw [o5,Tc sM];exact KRel.put hF hL hN bn hZ hd h (.refl _ _ _) hS (.raw _)
  exact h.elim
 exact h.elim
theorem Zca (hC:CxOK G C ro e0 σ0 w0) (hS:SRel G e σ w) (hF:FRel G e σ w f a.tmps) (hL:Later e0 σ0 w0 e σ w) (hN:a.tmps.size=N) (bn:Marks ds e σ w a.defers) (hZ:Z a.tmps) {ops:Array Oper} {o:Oper} (hd:∀d,o.dst=some d->d<N/\∀t v,Z t->Z (t.setIfInBounds d v))
  (h:Zjr C ops.toList Q o f σ K) :
  if Region.wanted o (yielded ops a.tmps)=true then o.wpIn (fw ro) n G.P a w (KRel G e0 σ0 w0 ds N Z K) (Yf G e0 σ0 w0 ds N Z Q)
  else KRel G e0 σ0 w0 ds N Z K (a.put o.dst Go.undef) w:=by
 unfold Zjr at h
 split at h
 ·rename_i hb
  have hg:o.guard=none:=by
   unfold Zjq at hb
   split at hb
   ·split at hb
    ·assumption
    cases hb
   cases hb
  have:Region.wanted o (yielded ops a.tmps)=true:=by simp [Region.wanted,hg]
  rw [Tg this];simp only [Y3] at h;have ju:∀c,o.op≠.defer c:=fun c hc=>by rw [hc] at h;exact h
  refine ⟨fun _ _=>trivial,?_⟩;rw [show (fw ro).round=ro from rfl,Oper.semAt_eq _ _ _ ju];obtain ⟨pv,σ1,v,w1,e1,hK,am,hst,cx,hr⟩:=Zlh hC.tab hS (fun x=>Zb8 hF x) o h;rw [am];exact KRel.put hF hL hN bn hZ hd hK hst cx hr
 exact Uq hC hS hF hL hN bn hZ hd h
theorem ZeO (hC:CxOK G C ro e0 σ0 w0) {ops:Array Oper} (hd:∀o,o∈ops->∀d,o.dst=some d->d<N/\∀t v,Z t->Z (t.setIfInBounds d v)):∀(l:List Oper) (k:Nat),(∀j,l[j]?=ops[k+j]?)->∀{e:Env} {σ:St} {w:World} {a:Act} {f:Frame},
  SRel G e σ w->FRel G e σ w f a.tmps->Later e0 σ0 w0 e σ w->a.tmps.size=N->Marks ds e σ w a.defers->Z a.tmps->Zqj C ops.toList Q l f σ ->
  wpOpsIn (fw ro) n G.P ops (Yf G e0 σ0 w0 ds N Z Q) (List.range' k l.length) a w
 | [],k,_,e,σ,w,a,f,hS,hF,hL,hN,bn,hZ,h=>⟨.normal,f,e,σ,h,rfl,hS,hF,hL,hN,bn,hZ⟩
 | o::l,k,hl,e,σ,w,a,f,hS,hF,hL,hN,bn,hZ,h=>by
  have h0:ops[k]?=some o:=by simpa using (hl 0).symm
  have az:=Zca (ro:=ro) (n:=n) hC hS hF hL hN bn hZ (ops:=ops) (hd o (Sc h0)) h;have next:∀a' w',KRel G e0 σ0 w0 ds N Z (Zqj C ops.toList Q l) a' w'->wpOpsIn (fw ro) n G.P ops (Yf G e0 σ0 w0 ds N Z Q) (List.range' (k+1) l.length) a' w':=fun a' w' ⟨f',e',σ',h1,h2,h3,h4,h5,h6,h7⟩ =>
   ZeO hC hd l (k+1) (fun j=>by have:=hl (j+1);simpa [Sg,Nat.add_comm 1 j] using this) h2 h3 h4 h5 h6 h7 h1
  rw [Td,List.range'_succ];simp only [wpOpsIn,h0];split at az
  ·rename_i hw
   rw [Tg hw];exact Oper.wpIn_mono next az
  rename_i hw
  rw [Tc hw];exact ⟨fun _ _=>trivial,next _ _ az⟩
end
end Go.PM
end

section
namespace Go.PM
theorem ZcA {k:IntKind} {n:Int} {K:PV->Prop} (h:ZcR k n K):∃v,K v/\∀K':PV->Prop,K' v->ZcR k n K':=by
 rcases h with ⟨h1,h2⟩ | h
 ·exact ⟨_,h2,fun K' h'=>.inl ⟨h1,h'⟩⟩
 exact ⟨_,h,fun K' h'=>.inr h'⟩
theorem ZtG {op:BinOp} {k:IntKind} {a b:Int} {K:PV->Prop} (h:Zwv op k a b K):∃v,K v/\∀K':PV->Prop,K' v->Zwv op k a b K':=by
 cases op <;> simp only [Zwv] at h <;> first
  | exact h.elim
  | exact ZcA h
  | exact ⟨_,h,fun K' h'=>h'⟩
  | (obtain ⟨v,h1,h2⟩:=ZcA h.2;exact ⟨v,h1,fun K' h'=>⟨h.1,h2 K' h'⟩⟩)
  | exact ⟨_,h.2,fun K' h'=>⟨h.1,h'⟩⟩
theorem Ur {T:Tab}:∀{fs:List (Nat×Nat)} {i:Nat} {xs ys:List PV} {K:Bool->Prop},Xp T i fs xs ys K->∃v,K v/\∀K':Bool->Prop,K' v->Xp T i fs xs ys K'
 | [],i,xs,ys,K,h=>by cases xs <;> cases ys <;> first | exact ⟨_,h,fun K' h'=>h'⟩ | exact h.elim
 | (o,t)::fs,i,[],ys,K,h=>h.elim
 | (o,t)::fs,i,x::xs,[],K,h=>h.elim
 | (o,t)::fs,i,x::xs,y::ys,K,h=>by
  simp only [Xp] at h;split at h
  ·rename_i h1 h2
   split at h
   ·rename_i h3
    obtain ⟨v,g1,g2⟩:=Ur h;exact ⟨_,g1,fun K' h'=>by simp only [Xp,h1,h2,h3];exact g2 (fun r=>K' _) h'⟩
   exact h.elim
  ·exact m159
  ·exact m159
  exact h.elim
theorem ZwN {T:Tab} {t:TypeId} {x y:Operand} {px py:PV} {K:Bool->Prop} (h:peq T t x y px py K):∃v,K v/\∀K':Bool->Prop,K' v->peq T t x y px py K':=by
 unfold peq at h
 split at h
 case h_6 =>
  rename_i hk
  split at h
  ·rename_i he
   split at h
   ·obtain ⟨v,g1,g2⟩:=Ur h;exact ⟨v,g1,fun K' h'=>by simp only [peq,hk,he];exact g2 K' h'⟩
   exact h.elim
  exact h.elim
 all_goals (repeat' split at h) <;> first
  | exact h.elim
  | exact ⟨_,h,fun K' h'=>by simp only [peq, *];exact h'⟩
  | exact ⟨_,h,fun K' h'=>by simp only [peq, *]⟩
theorem ZtH {T:Tab} {op:BinOp} {t:TypeId} {x y:Operand} {px py:PV} {K:PV->Prop} (h:ZsA T op t x y px py K):∃v,K v/\∀K':PV->Prop,K' v->ZsA T op t x y px py K':=by
 unfold ZsA at h
 split at h
 ·split at h
  ·obtain ⟨v,h1,h2⟩:=ZcA h.2;exact ⟨_,h1,fun K' h'=>⟨h.1,h2 K' h'⟩⟩
  ·exact ⟨_,h.2,fun K' h'=>⟨h.1,h'⟩⟩
  rename_i h1 h2
  split at h
  ·rename_i hk
   obtain ⟨v,g1,g2⟩:=ZtG h;refine ⟨v,g1,fun K' h'=>?_⟩
   cases op <;> first
    | exact absurd rfl h1
    | exact absurd rfl h2
    | (simp only [ZsA,hk];exact g2 K' h')
  exact h.elim
 ·cases op <;> simp only at h <;> first
   | exact h.elim
   | exact ⟨_,h,fun K' h'=>h'⟩
   | exact ⟨_,h.2,fun K' h'=>⟨h.1,h'⟩⟩
 rename_i h1 h2
 cases op <;> simp only at h <;> first
  | exact h.elim
  | (obtain ⟨v, g1, g2⟩ := ZwN h
     refine ⟨_,g1,fun K' h'=>?_⟩;unfold ZsA
     split
     ·exact absurd rfl (h1 _ _ _ _ rfl)
     ·exact absurd rfl (h2 _ _ rfl)
     exact g2 _ h')
theorem Zc3 {lo hi:Option PV} {n:Nat} {K:Nat->Nat->Prop} (h:Uk lo hi n K):∃a b,K a b/\∀K':Nat->Nat->Prop,K' a b->Uk lo hi n K':=by
 unfold Uk at h
 split at h
 ·exact ⟨_,_,h,fun K' h'=>h'⟩
 ·split at h
  ·exact ⟨_,_,h.2.2,fun K' h'=>⟨h.1,h.2.1,h'⟩⟩
  exact h.elim
 ·split at h
  ·exact ⟨_,_,h.2.2,fun K' h'=>⟨h.1,h.2.1,h'⟩⟩
  exact h.elim
 split at h
 ·exact ⟨_,_,h.2.2.2,fun K' h'=>⟨h.1,h.2.1,h.2.2.1,h'⟩⟩
 exact h.elim
theorem Zfv {T:Tab} {t:TypeId} {x:PV} {bx:List Box} {K:PV->Prop} (h:Zbm T t x bx K):∃v,K v/\∀K':PV->Prop,K' v->Zbm T t x bx K':=by
 unfold Zbm at h
 (repeat' split at h) <;> first
  | exact h.elim
  | exact ⟨_,h,fun K' h'=>by simp only [Zbm, *];exact h'⟩
  | exact ⟨_,h,fun K' h'=>by simp_all [Zbm]⟩
theorem ZmL {T:Tab} {t:TypeId} {x:PV} {lo hi:Option PV} {K:PV->Prop} (h:JI T t x lo hi K):∃v,K v/\∀K':PV->Prop,K' v->JI T t x lo hi K':=by
 unfold JI at h
 split at h
 ·rename_i hk
  split at h
  ·obtain ⟨a,b,h1,h2⟩:=Zc3 h;exact ⟨_,h1,fun K' h'=>by simp only [JI,hk];exact h2 (fun a b=>K' _) h'⟩
  exact h.elim
 ·rename_i el hk
  split at h
  ·exact h.elim
  rename_i cj
  split at h
  ·rename_i rows bj
   obtain ⟨hw,h⟩:=h;obtain ⟨a,b,h1,h2⟩:=Zc3 h;refine ⟨_,h1,fun K' h'=>?_⟩;unfold JI
   rw [hk];dsimp only
   cases iq:(T.get el).kind
   case other=>exact absurd iq cj
   all_goals (dsimp only;rw [bj];exact ⟨hw,h2 (fun a b=>K' _) h'⟩)
  exact h.elim
 ·rename_i n el hk
  split at h
  ·exact h.elim
  rename_i cj
  split at h
  ·refine ⟨_,h,fun K' h'=>?_⟩;unfold JI
   rw [hk];dsimp only
   cases iq:(T.get el).kind
   case other=>exact absurd iq cj
   all_goals exact h'
  ·rename_i sa sb
   obtain ⟨g1,g2,h⟩:=h;refine ⟨_,h,fun K' h'=>?_⟩;unfold JI
   rw [hk];dsimp only
   cases iq:(T.get el).kind
   case other=>exact absurd iq cj
   all_goals exact ⟨g1,g2,h'⟩
  exact h.elim
 exact h.elim
theorem Zie {T:Tab} {fs:List (Nat×Nat)} {ρ:Operand->PV}:∀{ps:List (Nat×Operand)} {cs:List PV} {K:List PV->Prop},YX T fs ρ ps cs K->∃v,K v/\∀K':List PV->Prop,K' v->YX T fs ρ ps cs K'
 | [],cs,K,h=>⟨cs,h,fun K' h'=>h'⟩
 | (i,x)::ps,cs,K,h=>by
  simp only [YX] at h;split at h
  ·split at h
   ·exact h.elim
   ·obtain ⟨v,h1,h2⟩:=Zie h;exact ⟨v,h1,fun K' h'=>by have:=h2 K' h';simp only [YX, *]⟩
   exact h.elim
  exact h.elim
theorem ZwO {T:Tab} {o:Op} {ty:TypeId} {ρ:Operand->PV} {bx:List Box} {K:PV->Prop} (h:qop T o ty ρ bx K):∃v,K v/\∀K':PV->Prop,K' v->qop T o ty ρ bx K':=by
 unfold qop at h
 split at h
 case h_5=>obtain ⟨v,h1,h2⟩:=Zfv h;exact ⟨v,h1,fun K' h'=>h2 K' h'⟩
 case h_7=>obtain ⟨v,h1,h2⟩:=ZtH h;exact ⟨v,h1,fun K' h'=>h2 K' h'⟩
 case h_14=>obtain ⟨v,h1,h2⟩:=ZmL h;exact ⟨v,h1,fun K' h'=>h2 K' h'⟩
 case h_4 =>
  split at h
  ·rename_i fs hk;obtain ⟨v,h1,h2⟩:=Zie h;exact ⟨_,h1,fun K' h'=>by simp only [qop,hk];exact h2 (fun cs=>K' (.agg cs)) h'⟩
  ·rename_i n el hk
   split at h
   ·exact h.elim
   rename_i cj
   split at h
   ·rename_i aj
    obtain ⟨v,h1,h2⟩:=Zie h;refine ⟨_,h1,fun K' h'=>?_⟩;have h3:=h2 (fun cs=>K' (.agg cs)) h';simp only [qop,hk]
    cases ym:(T.get el).kind
    case other=>exact absurd ym cj
    all_goals (simp only [aj];exact h3)
   exact h.elim
  exact h.elim
 case h_3 =>
  split at h
  ·rename_i t cz
   cases t
   ·exact ⟨_,h,fun K' h'=>by simp only [qop,cz];exact h'⟩
   exact ⟨_,h,fun K' h'=>by simp only [qop,cz];exact h'⟩
  exact h.elim
 all_goals (repeat' split at h) <;> first
  | exact h.elim
  | exact ⟨_,h,fun K' h'=>by first | (simp only [qop, *];exact h') | (simp only [qop, *])⟩
  | (obtain ⟨v,h1,h2⟩:=ZcA h;exact ⟨_,h1,fun K' h'=>by first | (simp only [qop, *];exact h2 K' h') | (simp only [qop, *])⟩)
  | (obtain ⟨h1,h2⟩:=h;exact ⟨_,h2,fun K' h'=>by simp only [qop, *];exact ⟨h1,h'⟩⟩)
  | (obtain ⟨h0,h1,h2⟩:=h;exact ⟨_,h2,fun K' h'=>by first | (simp only [qop, *];exact ⟨h0,h1,h'⟩) | (simp only [qop, *];exact ⟨trivial,trivial,h'⟩)⟩)
  | skip
 ·rename_i h1 _ h2 _ h3 _ rows h4
  obtain ⟨l,hl,hK⟩:=h;exact ⟨_,hK,fun K' h'=>by simp only [qop,h1,h2,h3,h4];exact ⟨l,hl,h'⟩⟩
 ·rename_i h1 _ h2 _ s h3
  obtain ⟨h4,h5,hK⟩:=h;exact ⟨_,hK,fun K' h'=>by simp only [qop,h1,h2,h3];exact ⟨h4,h5,h'⟩⟩
 ·rename_i hi _ m el hk _ cs hx _ ha _ l hl
  obtain ⟨h4,h5,hK⟩:=h;exact ⟨_,hK,fun K' h'=>by simp only [qop,hi,hk,hx,ha,hl];exact ⟨h4,h5,h'⟩⟩
 ·rename_i hi _ m el hk _ cs hx _ ha _ ho _ hs _ v hv
  obtain ⟨h4,h5,hK⟩:=h;refine ⟨_,hK,fun K' h'=>?_⟩;simp only [qop,hi,hk,hx,ha]
  cases iq:(T.get el).kind
  case other=>exact absurd iq ho
  all_goals (simp only [hs,hv];exact ⟨h4,h5,h'⟩)
 ·rename_i hi _ el hk _ ho _ b off m hx
  exact m125
 ·rename_i hi _ el hk _ ho _ an _ rows hr
  obtain ⟨r,h4,h5,h6⟩:=h;split at h6
  ·rename_i h7
   refine ⟨_,h6,fun K' h'=>?_⟩;simp only [qop,hi,hk]
   cases iq:(T.get el).kind
   case other=>exact absurd iq ho
   all_goals
    split
    ·rename_i dt;rw [hr] at dt;cases dt;exact ⟨r,h4,h5,by simp only [h7];exact h'⟩
    rename_i dt;exact (dt _ hr).elim
  exact h6.elim
 rename_i hi _ m el hk _ ho _ b off hx
 exact m125
theorem Zlj {T:Tab} {o:Op} {ty:TypeId} {ρ:Operand->PV} {bx:List Box} {K:PV->Prop} (h1:Zk6 T o=none) (h2:∀t n ps,o=.buildSlice t n ps->False) (h3:∀t l c,o=.makeSlice t l c->False):ZgE T o ty ρ bx K=qop T o ty ρ bx K:=by
 unfold ZgE
 rw [h1]
 cases o <;> first | rfl | exact (h2 _ _ _ rfl).elim | exact (h3 _ _ _ rfl).elim
theorem ZmM {T:Tab} {o:Op} {ty:TypeId} {ρ:Operand->PV} {bx:List Box} {K:PV->Prop} (h:ZgE T o ty ρ bx K):∃v,K v/\∀K':PV->Prop,K' v->ZgE T o ty ρ bx K':=by
 unfold ZgE at h
 split at h
 ·rename_i x hx
  split at h
  ·rename_i s cz
   exact ⟨_,h,fun K' h'=>by unfold ZgE;rw [hx];simp only [cz];exact h'⟩
  exact h.elim
 rename_i hx
 split at h
 ·rename_i t n ps
  exact m176
 ·rename_i t l c
  exact m176
 rename_i i6 xy
 obtain ⟨v,h1,h2⟩:=ZwO h;exact ⟨v,h1,fun K' h'=>by rw [Zlj hx i6 xy];exact h2 K' h'⟩
theorem Zif {bx bx':List Box} {b off n:Nat} (h:XK bx b off n=XK bx' b off n) {t:TypeId} {cs:List PV} (hb:bx[b]?=some (.cells t cs)) :
  ∃t' cs',bx'[b]?=some (.cells t' cs')/\(cs.drop off).take n=(cs'.drop off).take n:=by
 unfold XK at h
 rw [hb] at h;simp only at h;split at h
 ·rename_i t' cs' rc;exact ⟨t',cs',rc,Option.some.inj h⟩
 cases h
theorem Zc4 {α:Type}:∀{n:Nat} {l m:List α},l.take n=m.take n->UK n l=UK n m
 | 0,_,_,_=>rfl
 | n+1,[],[],_=>rfl
 | n+1,[],y::m,h=>by simp at h
 | n+1,x::l,[],h=>by simp at h
 | n+1,x::l,y::m,h=>by
  simp only [List.take_succ_cons,List.cons.injEq] at h;obtain ⟨rfl,h⟩:=h;simp only [UK,Zc4 h]
theorem Zig {T:Tab} {t:TypeId} {x:PV} {bx bx':List Box} {K:PV->Prop} (ay:(T.get t).kind≠.other->(T.get t).kind.isAgg=false->(T.get t).size=1) (hl:∀b off,x=.ptr b off->XK bx b off (T.get t).size=XK bx' b off (T.get t).size)
  (h:Zbm T t x bx K):Zbm T t x bx' K:=by
 unfold Zbm at h |-
 split at h
 ·rename_i b off
  have hc:=hl b off rfl;split at h
  ·rename_i ty cs hb
   obtain ⟨t',cs',rc,sj⟩:=Zif hc hb;simp only [rc];split at h
   ·rename_i hk
    rw [<- Zc4 sj];exact h
   rename_i hk
   have h1:(T.get t).kind≠.other->cs[off]?=cs'[off]?:=fun ho=>by
    have hp:=ay ho hk;have:=congrArg (·[0]?) sj
    simpa [List.getElem?_take,hp] using this
   cases cj:(T.get t).kind <;> rw [cj] at h <;> simp only at h |- <;> first | exact h.elim | (rw [<- h1 (by rw [cj];simp)];exact h)
  exact h.elim
 ·exact h
 exact h.elim
theorem ZmN {T:Tab} {o:Op} {ty:TypeId} {ρ ρ':Operand->PV} {bx bx':List Box} {K:PV->Prop} (hρ:∀x,x∈o.operands->ρ x=ρ' x)
  (ay:∀t,(T.get t).kind≠.other->(T.get t).kind.isAgg=false->(T.get t).size=1)
  (hl:∀t a b off,o=.load t a->ρ a=.ptr b off->XK bx b off (T.get t).size=XK bx' b off (T.get t).size) (h:qop T o ty ρ bx K):qop T o ty ρ' bx' K:=by
 cases o with
 | load t a =>
  have ha:ρ a=ρ' a:=hρ a oP;simp only [qop] at h |-;rw [<- ha];exact Zig (ay t) (fun b off hx=>hl t a b off rfl hx) h
 | build t ps =>
  simp only [qop] at h |-;have fillC:∀fs (l:List (Nat×Operand)),(∀p∈l,ρ p.2=ρ' p.2)->∀cs (K:List PV->Prop),YX T fs ρ l cs K->YX T fs ρ' l cs K:=by
    intro fs l
    induction l with
    | nil=>intro _ cs K h;exact h
    | cons p l ih =>
    intro hp cs K h
    obtain ⟨i,x⟩:=p;simp only [YX] at h |-;rw [<- hp (i,x) sM];split at h
    ·rename_i h1 h2
     split at h
     ·exact h.elim
     ·rename_i h3 h4 h5
      simp only [h1,h2,h3,h4]
      cases ym:(T.get _).kind
      case other=>exact absurd ym h5
      all_goals exact ih (fun q hq=>hp q (by simp [hq])) _ _ h
     exact h.elim
    exact h.elim
  have ut:∀p∈ps.toList,ρ p.2=ρ' p.2:=fun p hp=>hρ p.2 (by simp only [Op.operands];exact TP.2 (by simp only [SC];exact ⟨p,hp,rfl⟩))
  split at h
  ·exact fillC _ ps.toList ut _ _ h
  ·rename_i n el hk
   split at h
   ·exact h.elim
   rename_i cj
   split at h
   ·rename_i aj
    cases ym:(T.get el).kind
    case other=>exact absurd ym cj
    all_goals (exact fillC _ ps.toList ut _ _ h)
   exact h.elim
  exact h.elim
 | slice t x lo hi mx =>
  cases mx with
  | some _=>exact h
  | none =>
  simp only [qop] at h |-;have h1:ρ x=ρ' x:=hρ x oP;have h2:lo.map ρ=lo.map ρ':=by cases lo with | none=>rfl | some a=>simp [hρ a oP]
  have h3:hi.map ρ=hi.map ρ':=by cases hi with | none=>rfl | some a=>simp [hρ a oP]
  rw [<- h1,<- h2,<- h3];exact h
 | makeFunc fn a c =>
  cases fn with
  | func g =>
   simp only [qop] at h |-;have h1:a.toList.map ρ=a.toList.map ρ':=Su fun x hx=>hρ x (by simp only [Op.operands,Array.mem_append];exact .inl (TP.2 hx))
   have h2:c.toList.map ρ=c.toList.map ρ':=Su fun x hx=>hρ x (by simp only [Op.operands,Array.mem_append];exact .inr (TP.2 hx))
   rw [<- h1,<- h2];exact h
  | _=>exact h
 | call c =>
  obtain ⟨callee,args,argTypes⟩:=c
  cases callee with
  | builtin b =>
   simp only [qop] at h |-;exact m141
  | _=>exact h
 | move x=>simp only [qop] at h |-;rw [<- hρ x oP];exact h
 | assign x=>simp only [qop] at h |-;rw [<- hρ x oP];exact h
 | pick c a b=>simp only [qop] at h |-;rw [<- hρ c oP,<- hρ a oP,<- hρ b oP];exact h
 | nilCheck x=>simp only [qop] at h |-;rw [<- hρ x oP];exact h
 | binOp op t x y yt=>simp only [qop] at h |-;rw [<- hρ x oP,<- hρ y oP];exact h
 | unOp op t x=>simp only [qop] at h |-;rw [<- hρ x oP];exact h
 | convert s d x=>simp only [qop] at h |-;rw [<- hρ x oP];exact h
 | fieldAddr s x i=>simp only [qop] at h |-;rw [<- hρ x oP];exact h
 | field s x i=>simp only [qop] at h |-;rw [<- hρ x oP];exact h
 | index t x i=>simp only [qop] at h |-;rw [<- hρ x oP,<- hρ i oP];exact h
 | indexAddr t x i=>simp only [qop] at h |-;rw [<- hρ x oP,<- hρ i oP];exact h
 | extract x i=>simp only [qop] at h |-;rw [<- hρ x oP];exact h
 | makeInterface t x=>simp only [qop] at h |-;rw [<- hρ x oP];exact h
 | typeAssert x xt t b=>cases b <;> simp only [qop] at h |- <;> first | exact h.elim | (rw [<- hρ x oP];exact h)
 | _=>exact h
theorem Zfw {T:Tab} {o:Op} {x:Operand} (h:Zk6 T o=some x):x∈o.operands/\∀t a,o≠.load t a:=by
 unfold Zk6 at h
 split at h
 ·(repeat' split at h) <;> first | cases h;done | (cases h;exact ⟨oP,fun t a hh=>by cases hh⟩)
 cases h
theorem JP {w:Nat} {ρ ρ':Operand->PV}:∀{ps:List (Nat×Operand)} (_:∀p∈ps,ρ p.2=ρ' p.2) (rows:List (List D)),WT w ρ ps rows=WT w ρ' ps rows
 | [],_,_=>rfl
 | (i,x)::ps,h,rows=>by
  simp only [WT];rw [<- h (i,x) sM]
  cases Zh8 (ρ x) with
  | none=>rfl
  | some r =>
  have ih:=JP (w:=w) (ρ:=ρ) (ρ':=ρ') (ps:=ps) (fun p hp=>h p (Tx _ hp)) (rows.set i r);simp only [ih]
theorem ZeP {T:Tab} {o:Op} {ty:TypeId} {ρ ρ':Operand->PV} {bx bx':List Box} {K:PV->Prop} (hρ:∀x,x∈o.operands->ρ x=ρ' x)
  (ay:∀t,(T.get t).kind≠.other->(T.get t).kind.isAgg=false->(T.get t).size=1)
  (hl:∀t a b off,o=.load t a->ρ a=.ptr b off->XK bx b off (T.get t).size=XK bx' b off (T.get t).size) (h:ZgE T o ty ρ bx K):ZgE T o ty ρ' bx' K:=by
 unfold ZgE at h |-
 split at h
 ·rename_i x hx
  rw [<- hρ x (Zfw hx).1];exact h
 rename_i hx
 split at h
 ·rename_i t n ps
  have:∀w rows,WT w ρ ps.toList rows=WT w ρ' ps.toList rows:=fun w rows=>JP (fun p hp=>hρ p.2 (by simp only [Op.operands];exact TP.2 (by simp only [SC];exact ⟨p,hp,rfl⟩))) rows
  simp only [ZcS,this] at h |-;exact h
 ·rename_i t l c
  rw [<- hρ l oP,<- hρ c oP];exact h
 exact ZmN hρ ay hl h
theorem ZmO {T:Tab} {o:Op} {ρ ρ':Operand->PV} {σ:St} {K:PV->St->Prop} (hρ:∀x,x∈o.operands->ρ x=ρ' x) (h:eop T o ρ σ K):eop T o ρ' σ K:=by
 cases o with
 | box e x=>simp only [eop] at h |-;rw [<- hρ x oP];exact h
 | store t a x=>simp only [eop] at h |-;rw [<- hρ a oP,<- hρ x oP];exact h
 | range t x=>simp only [eop] at h |-;rw [<- hρ x oP];exact h
 | next x b=>cases b <;> simp only [eop] at h |- <;> first | exact h | (rw [<- hρ x oP];exact h)
 | call c =>
  obtain ⟨callee,args,argTypes⟩:=c
  cases callee with
  | builtin b =>
   cases b with
   | append =>
    simp only [eop] at h |-;exact m141
   | _=>exact h
  | _=>exact h
 | _=>exact h
end Go.PM
end

section
namespace Go.PM
def XT (all:List Oper) (o:Oper) (f:Frame):Option Bool:=match o.guard with
 | none=>some true
 | some (j,want)=>match VT all j with
  | some s=>match f s with
   | .d (.bool t)=>some (t == want)
   | .raw (.tuple _)=>some false
   | _=>none
  | none=>none
theorem XG (C:Cx) (all:List Oper) (Q:PQ) (o:Oper) (f:Frame) (σ:St) (K:Frame->St->Prop) :
  UL C all Q o f σ K↔match XT all o f with
   | some true=>W4 C o f σ Q K
   | some false=>K (YK f o.dst (.raw Go.undef)) σ
   | none=>False:=by
 unfold UL XT
 cases hg:o.guard with
 | none=>exact Iff.rfl
 | some p =>
 obtain ⟨j,want⟩:=p;simp only
 cases hs:VT all j with
 | none=>exact Iff.rfl
 | some s =>
 simp only
 cases hf:f s with
 | d x =>
  cases x with
  | bool t=>cases t <;> cases want <;> simp only [CondP,UV hf,Yr] <;> exact Iff.rfl
  | _=>exact Iff.rfl
 | raw v=>cases v <;> simp only [Yr] <;> exact Iff.rfl
 | _=>exact Iff.rfl
structure CxMono (C:Cx):Prop where
 one:∀t,(C.T.get t).kind≠.other->(C.T.get t).kind.isAgg=false->(C.T.get t).size=1
 call:∀g args σ (K K':PEnd->St->Prop),(∀e σ,K e σ->K' e σ)->C.call g args σ K->C.call g args σ K'
 raw:∀v args σ (K:PEnd->St->Prop),¬C.raw v args σ K
 quiet:C.pk=false
theorem ZaH {T:Tab} {o:Op} {ty:TypeId} {ρ:Operand->PV} {bx:List Box} {K K':PV->Prop} (hK:∀v,K v->K' v) (h:ZgE T o ty ρ bx K):ZgE T o ty ρ bx K' :=
 let ⟨v,h1,h2⟩:=ZmM h;h2 K' (hK v h1)
theorem Zlk {t:Bool} {X Y X' Y':Prop} (h1:X->X') (h2:Y->Y') (h:CondP t X Y):CondP t X' Y':=by cases t;exact h2 h;exact h1 h
theorem ZcB {T:Tab} {o:Op} {ρ:Operand->PV} {σ:St} {K K':PV->St->Prop} (hK:∀v σ,K v σ->K' v σ) (h:eop T o ρ σ K):eop T o ρ σ K':=by
 unfold eop at h |-
 (repeat' split at h) <;> first
  | exact h.elim
  | exact hK _ _ h
  | exact Zlk (hK _ _) (hK _ _) h
  | exact ⟨h.1,h.2.1,h.2.2.1,hK _ _ h.2.2.2⟩
  | (rename_i hk;exfalso;simp_all;done)
section
variable {C:Cx} {all:List Oper} {Q:PQ} {f:Frame} {σ:St} {K K':Frame->St->Prop}
theorem Zll (hM:CxMono C) {o:Oper} (hK:∀f σ,K f σ->K' f σ) (h:W4 C o f σ Q K):W4 C o f σ Q K':=by
 unfold W4 at h |-
 simp only [Y3,YC] at h |-;split at h
 ·exact ZaH (fun v hv=>by rw [Yr] at hv |-;exact hK _ _ hv) h
 split at h
 ·unfold ZeD at h |-
  split at h
  ·refine hM.call _ _ _ _ _ (fun e σ he=>?_) h
   cases e with
   | ret v=>simp only at he |-;rw [Yr] at he |-;exact hK _ _ he
   | panic v=>exact he
  ·exact (hM.raw _ _ _ _ h).elim
  exact h
 ·exact h
 exact ZcB (fun v σ hv=>by rw [Yr] at hv |-;exact hK _ _ hv) h
theorem Zbr (hM:CxMono C) {o:Oper} (hK:∀f σ,K f σ->K' f σ) (h:UL C all Q o f σ K):UL C all Q o f σ K':=by
 rw [XG] at h |-;split at h
 ·exact Zll hM hK h
 ·exact hK _ _ h
 exact h
def looks (all:List Oper) (o:Oper):List Nat :=
 (o.op.operands.toList.filterMap fun | .tmp t=>some t | _=>none)++(match o.guard with | some (j,_)=>(VT all j).toList | none=>[])
theorem Zih {f f':Frame} {o:Oper} (h:∀d,d∈looks all o->f d=f' d) {x:Operand} (hx:x∈o.op.operands):ev f x=ev f' x:=by
 cases x with
 | tmp t =>
  refine h t ?_;unfold looks
  refine TZ.2 (.inl (List.mem_filterMap.2 ⟨.tmp t,TP.1 hx,rfl⟩))
 | _=>rfl
theorem Zbs {f f':Frame} {o:Oper} (h:∀d,d∈looks all o->f d=f' d):XT all o f=XT all o f':=by
 unfold XT
 cases hg:o.guard with
 | none=>rfl
 | some p =>
 obtain ⟨j,want⟩:=p;simp only
 cases hs:VT all j with
 | none=>rfl
 | some s =>
 simp only;rw [h s (by unfold looks;rw [hg];simp only [hs];simp)]
theorem ZeQ {d d':Option Nat} (h:∀i,d=some i->d'≠some i) (f:Frame) (v u:PV):YK (YK f d v) d' u=YK (YK f d' u) d v:=by
 cases d with
 | none=>rfl
 | some i =>
 cases d' with
 | none=>rfl
 | some j =>
 have km:i≠j:=fun e=>h i rfl (by rw [e])
 funext k
 simp only [YK]
 by_cases h1:j=k
 ·subst h1;rw [YY,X1 _ _ km,YY]
 rw [X1 _ _ h1]
 by_cases h2:i=k
 ·subst h2;rw [YY,YY]
 rw [X1 _ _ h2,X1 _ _ h2,X1 _ _ h1]
theorem ZaI {d:Option Nat} {v:PV} {k:Nat} (h:∀i,d=some i->i≠k):YK f d v k=f k:=by
 cases d with
 | none=>rfl
 | some i=>exact X1 f v (h i rfl)
theorem calls_operands {x:Operand} {args:Array Operand} {at':Array TypeId} {y:Operand}:y∈(Op.call { callee:=.value x,args,argTypes:=at' }).operands↔y=x\/y∈args:=by
 simp [Op.operands,Call.operands]
theorem ZmP (hM:CxMono C) {o:Oper} {d:Option Nat} {v:PV} (h1:∀i,d=some i->i∉looks all o) (h2:∀i,d=some i->o.dst≠some i) (h:W4 C o (YK f d v) σ Q K) :
  W4 C o f σ Q (fun f' σ'=>K (YK f' d v) σ'):=by
 have gm:∀k,k∈looks all o->YK f d v k=f k:=fun k hk=>ZaI fun i hi e=>h1 i hi (e ▸ hk)
 have yo:∀x,x∈o.op.operands->ev (YK f d v) x=ev f x:=fun x hx=>Zih gm hx
 have o6:∀u,YK (YK f d v) o.dst u=YK (YK f o.dst u) d v:=fun u=>ZeQ h2 f v u
 unfold W4 at h |-
 simp only [Y3,YC,Cx.pf,hM.quiet] at h |-;split at h
 ·refine ZaH (fun u hu=>?_) (ZeP yo hM.one (fun _ _ _ _ _ _=>rfl) h);rw [Yr] at hu |-;rw [o6] at hu;exact hu
 split at h
 ·rename_i x args at' ho
  have hx:ev (YK f d v) x=ev f x:=yo x (by rw [ho];exact calls_operands.2 (.inl rfl));have aq:args.toList.map (ev (YK f d v))=args.toList.map (ev f):=Su fun y hy=>yo y (by rw [ho];exact calls_operands.2 (.inr (TP.2 hy)))
  rw [hx,aq] at h;have hk:∀(e:PEnd) (σ':St),(match e with | .ret u=>ZhZ (YK f d v) o.dst u fun f=>K f σ' | .panic v=>Q (.panic v) (fun _=>.undef) σ':Prop)->(match e with | .ret u=>ZhZ f o.dst u fun f=>K (YK f d v) σ' | .panic v=>Q (.panic v) (fun _=>.undef) σ':Prop):=fun e σ' he=>by
   cases e with
   | ret u=>simp only at he |-;rw [Yr] at he |-;rw [o6] at he;exact he
   | panic v=>exact he
  unfold ZeD at h |-
  split at h
  ·exact hM.call _ _ _ _ _ hk h
  ·exact (hM.raw _ _ _ _ h).elim
  exact h
 ·rename_i x ho
  rw [yo x (by rw [ho];simp [Op.operands])] at h;exact h
 refine ZcB (fun u σ' hu=>?_) (ZmO (fun x hx=>yo x hx) h);rw [Yr] at hu |-;rw [o6] at hu;exact hu
theorem Zii (hM:CxMono C) {o:Oper} (hK:∀u σ',(XJ o.op=false->σ'=σ)->K (YK f o.dst u) σ'->K' (YK f o.dst u) σ') (h:W4 C o f σ Q K):W4 C o f σ Q K':=by
 unfold W4 at h |-
 simp only [Y3,YC] at h |-;split at h
 ·rename_i hE
  exact ZaH (fun v hv=>by rw [Yr] at hv |-;exact hK _ _ (fun _=>rfl) hv) h
 rename_i hE
 have qj:∀σ',XJ o.op=false->σ'=σ:=fun σ' h=>by rw [hE] at h;cases h
 split at h
 ·unfold ZeD at h |-
  split at h
  ·refine hM.call _ _ _ _ _ (fun e σ he=>?_) h
   cases e with
   | ret v=>simp only at he |-;rw [Yr] at he |-;exact hK _ _ (qj _) he
   | panic v=>exact he
  ·exact (hM.raw _ _ _ _ h).elim
  exact h
 ·exact h
 exact ZcB (fun v σ hv=>by rw [Yr] at hv |-;exact hK _ _ (qj _) hv) h
theorem Zij (hM:CxMono C) {o:Oper} (hK:∀u σ',(XJ o.op=false->σ'=σ)->K (YK f o.dst u) σ'->K' (YK f o.dst u) σ') (h:UL C all Q o f σ K):UL C all Q o f σ K':=by
 rw [XG] at h |-;split at h
 ·exact Zii hM hK h
 ·exact hK _ _ (fun _=>rfl) h
 exact h
theorem ZmQ (hM:CxMono C) {o:Oper} {d:Option Nat} {v:PV} (h1:∀i,d=some i->i∉looks all o) (h2:∀i,d=some i->o.dst≠some i) (h:UL C all Q o (YK f d v) σ K) :
  UL C all Q o f σ (fun f' σ'=>K (YK f' d v) σ'):=by
 rw [XG] at h |-;rw [Zbs (f':=f) (fun k hk=>ZaI fun i hi e=>h1 i hi (e ▸ hk))] at h;split at h
 ·exact ZmP hM h1 h2 h
 ·rw [ZeQ h2] at h;exact h
 exact h
theorem Zik (hM:CxMono C) {o:Oper} (hE:XJ o.op=false) (h:UL C all Q o f σ K):∃v,K (YK f o.dst v) σ/\∀f' σ',(∀d,d∈looks all o->f d=f' d) ->
  (∀t a b off,o.op=.load t a->ev f a=.ptr b off->XK σ.bx b off (C.T.get t).size=XK σ'.bx b off (C.T.get t).size)->∀K':Frame->St->Prop,K' (YK f' o.dst v) σ'->UL C all Q o f' σ' K':=by
 rw [XG] at h;split at h
 ·rename_i hg
  unfold W4 at h
  simp only [hE] at h;obtain ⟨v,hv,cd⟩:=ZmM h;rw [Yr] at hv;refine ⟨v,hv,fun f' σ' hf hl K' hK'=>?_⟩;rw [XG,<- Zbs hf,hg];simp only [W4,hE];refine ZeP (fun x hx=>Zih hf hx) hM.one hl (cd _ ?_);rw [Yr];exact hK'
 ·rename_i hg
  refine ⟨_,h,fun f' σ' hf hl K' hK'=>?_⟩;rw [XG,<- Zbs hf,hg];exact hK'
 exact h.elim
theorem chkL_iff {ms:List Nat} {j:Nat} {pre post:List Box} {X:Prop}:∀{l:List Ld},Zqq ms j pre post l X↔(∀d,d∈l->anc ms d.i j=false->XK pre d.b d.off d.n=XK post d.b d.off d.n)/\X
 | []=>by simp [Zqq]
 | d::l=>by
  obtain ⟨di,db,doff,dn⟩:=d;simp only [Zqq]
  cases hd:anc ms di j with
  | true=>simp only [chkL_iff,Tv,forall_eq_or_imp,hd,Bool.true_eq_false,false_implies,true_and]
  | false=>simp only [chkL_iff,Tv,forall_eq_or_imp,hd,true_implies,and_assoc]
theorem Zbt {o:Oper} {f':Frame} (h:∀d,d∈looks all o->f d=f' d) (T:Tab) (i:Nat) (ctx:List Ld):Um T o i f ctx=Um T o i f' ctx:=by
 unfold Um
 split
 ·rename_i t a ho
  rw [Zih h (by rw [ho];simp [Op.operands]:a∈o.op.operands)]
 rfl
theorem ZmR {o:Oper} {ctx ctx':List Ld} (h:∀d,d∈ctx'->d∈ctx) (T:Tab) (i:Nat):∀d,d∈Um T o i f ctx'->d∈Um T o i f ctx:=by
 unfold Um
 split
 ·split
  ·intro d hd;rcases Tv.1 hd with rfl | hd
   ·simp
   exact Tx _ (h d hd)
  exact h
 exact h
theorem ZmS {o:Oper} {ctx:List Ld} (T:Tab) (i:Nat):∀d,d∈ctx->d∈Um T o i f ctx:=by
 unfold Um
 split
 ·split
  ·intro d hd;exact Tx _ hd
  exact fun _ h=>h
 exact fun _ h=>h
theorem ZmT {o o':Oper} {f':Frame} {ctx:List Ld} (T:Tab) (i i':Nat):∀d,d∈Um T o i f (Um T o' i' f' ctx)->d∈Um T o' i' f' (Um T o i f ctx):=by
 have key:∀(o:Oper) (i:Nat) (f:Frame),∃l,∀c,Um T o i f c=l++c:=fun o i f=>by
  unfold Um
  split
  ·split
   ·exact ⟨[_],fun c=>rfl⟩
   exact ⟨[],fun c=>rfl⟩
  exact ⟨[],fun c=>rfl⟩
 obtain ⟨l,hl⟩:=key o i f;obtain ⟨l',hl'⟩:=key o' i' f';intro d hd
 rw [hl,hl'] at hd;rw [hl',hl];simp only [TZ] at hd |-;rcases hd with h | h | h
 ·exact .inr (.inl h)
 ·exact .inl h
 exact .inr (.inr h)
theorem Zc5 (hM:CxMono C) {ms:List Nat} {i:Nat} {o:Oper} {ctx ctx':List Ld} {K:List Ld->Frame->St->Prop} (hs:∀d,d∈ctx'->d∈ctx) (hK:∀c c' f σ,(∀d,d∈c'->d∈c)->K c f σ->K c' f σ)
  (h:W5 C all ms Q i o ctx f σ K):W5 C all ms Q i o ctx' f σ K:=by
 unfold W5 at h |-
 refine Zbr hM (fun f' σ' hk=>?_) h
 cases hE:XJ o.op with
 | true=>simp only [hE] at hk |-;rw [chkL_iff] at hk |-;exact ⟨fun d hd=>hk.1 d (hs d hd),hK _ _ _ _ hs hk.2⟩
 | false=>simp only [hE] at hk |-;exact hK _ _ _ _ (ZmR hs _ _) hk
theorem ZgP (hM:CxMono C) {ms:List Nat}:∀(l:List (Nat×Oper)) (c c':List Ld) (f:Frame) (σ:St),(∀d,d∈c'->d∈c)->Vp C all ms Q l c f σ->Vp C all ms Q l c' f σ
 | [],_,_,_,_,_,h=>h
 | (i,o)::l,c,c',f,σ,hs,h=>Zc5 hM hs (fun c c' f σ=>ZgP hM l c c' f σ) h
def Zcb (all:List Oper) (x y:Oper):Bool :=
 (match x.dst with | some d=>!(Zh0 d (looks all y)) && (match y.dst with | some d'=>!(Nat.beq d d') | none=>true) | none=>true) &&
 (match y.dst with | some d=>!(Zh0 d (looks all x)) | none=>true)
theorem Zil {x y:Oper} (h:Zcb all x y=true):(∀i,x.dst=some i->i∉looks all y)/\(∀i,x.dst=some i->y.dst≠some i)/\(∀i,y.dst=some i->i∉looks all x):=by
 unfold Zcb at h
 rw [Tk] at h;refine ⟨fun i hi=>?_,fun i hi=>?_,fun i hi=>?_⟩
 ·have:=h.1;rw [hi] at this;simp only [Tk,TV] at this;intro hm;rw [(Y7 _ _).2 hm] at this;cases this.1
 ·have:=h.1;rw [hi] at this;simp only [Tk,TV] at this;intro hm;rw [hm] at this;simp at this
 have:=h.2;rw [hi] at this;simp only [TV] at this;intro hm;rw [(Y7 _ _).2 hm] at this;cases this
theorem Zza (hM:CxMono C) {ms:List Nat} {ix iy:Nat} {x y:Oper} {ctx:List Ld} {K0:List Ld->Frame->St->Prop} (hK:∀c c' f σ,(∀d,d∈c'->d∈c)->K0 c f σ->K0 c' f σ)
  (hE:XJ x.op=false) (hap:Zcb all x y=true) (aca:anc ms ix iy=false) (h:W5 C all ms Q ix x ctx f σ (fun c f σ=>W5 C all ms Q iy y c f σ K0)) :
  W5 C all ms Q iy y ctx f σ (fun c f σ=>W5 C all ms Q ix x c f σ K0):=by
 obtain ⟨ha,hb,hc⟩:=Zil hap;unfold W5 at h
 simp only [hE] at h;obtain ⟨v,hv,cd⟩:=Zik hM hE h;have gm:∀u d,d∈looks all x->f d=YK f y.dst u d:=fun u d hd=>(ZaI fun i hi e=>hc i hi (e ▸ hd)).symm
 have hv:=ZmQ hM ha hb hv;unfold W5
 refine Zij hM (fun u σ' hq hk=>?_) hv
 cases hEy:XJ y.op with
 | true =>
  simp only [hEy] at hk |-;rw [chkL_iff] at hk |-;refine ⟨fun d hd hda=>hk.1 d (ZmS _ _ d hd) hda,?_⟩;simp only [hE];refine cd _ _ (gm u) (fun t a b off ho ha=>?_) _ ?_
  ·exact hk.1 ⟨ix,b,off,(C.T.get t).size⟩ (by simp [Um,ho,ha]) aca
  rw [<- Zbt (gm u)];exact hk.2
 | false =>
 simp only [hEy] at hk |-;simp only [hE];obtain rfl:=hq hEy;refine cd _ _ (gm u) (fun t a b off ho ha=>rfl) _ ?_;rw [<- Zbt (gm u)];refine hK _ _ _ _ ?_ hk;rw [<- Zbt (f:=f) (f':=YK f x.dst v) (o:=y) (fun d hd=>(ZaI fun i hi e=>ha i hi (e ▸ hd)).symm)];exact ZmT _ _ _
theorem Zim (hM:CxMono C) {ms:List Nat} {i:Nat} {o:Oper} {post:List (Nat×Oper)}:∀(pre:List (Nat×Oper)),(∀p,p∈pre->XJ p.2.op=false/\Zcb all p.2 o=true/\anc ms p.1 i=false)->∀(ctx:List Ld) (f:Frame) (σ:St),
  Vp C all ms Q (pre++(i,o)::post) ctx f σ->W5 C all ms Q i o ctx f σ (Vp C all ms Q (pre++post))
 | [],_,_,_,_,h=>h
 | (ix,x)::pre,hp,ctx,f,σ,h=>by
  obtain ⟨h1,h2,h3⟩:=hp (ix,x) sM;refine Zza hM (ZgP hM _) h1 h2 h3 ?_;have h':W5 C all ms Q ix x ctx f σ (Vp C all ms Q (pre++(i,o)::post)):=h;unfold W5 at h' |-
  refine Zbr hM (fun f' σ' hk=>?_) h'
  cases hE:XJ x.op with
  | true=>rw [hE] at h1;cases h1
  | false=>simp only [hE] at hk |-;exact Zim hM pre (fun p i7=>hp p (Tx _ i7)) _ _ _ hk
end
end Go.PM
end

section
namespace Go.PM
def Zfx (n i:Nat):List Edge->Bool
 | []=>true
 | e::l=>(match Region.binds .any e with | true=>Nat.ble (e.on+1) n && !(Nat.beq e.on i) | false=>true) && Zfx n i l
def ZcC (j:Nat):List Edge->Bool
 | []=>true
 | e::l=>(match Region.binds .any e with | true=>!(Nat.beq e.on j) | false=>true) && ZcC j l
def Zju (all:List Oper) (ms:List Nat) (i:Nat) (o:Oper):List (Nat×Oper)->Bool
 | []=>true
 | (j,p)::l=>!(Nat.beq i j) && ZcC j o.after.toList && (anc ms i j || (!(XJ o.op) && Zcb all o p)) && Zju all ms i o l
def ZgQ (all:List Oper) (ms:List Nat) (n:Nat):List (Nat×Oper)->Bool
 | []=>true
 | (i,o)::l=>Zju all ms i o l && Zfx n i o.after.toList && ZgQ all ms n l
def ZgR (cs:List (Nat×Oper)):Nat->Bool
 | 0=>true
 | n+1=>cs.any (fun p=>Nat.beq p.1 n) && ZgR cs n
def Zbu (ms:List Nat):List (Nat×Oper)->Bool
 | []=>true
 | (i,o)::l=>Nat.beq (ms.getD i 0) (JJ ms o.after.toList 0) && Zbu ms l
def ZmU (ops:List Oper):Bool :=
 let ms:=VJ ops []
 let cs:=ZgG ops
 Nat.beq cs.length ops.length && ZgQ ops ms ops.length cs && ZgR cs ops.length && Zbu ms cs
theorem Zcc {n i:Nat}:∀{l:List Edge},Zfx n i l=true->∀e∈l,Region.binds .any e=true->e.on<n/\e.on≠i
 | [],_,e,he,_=>by cases he
 | x::l,h,e,he,hb=>by
  simp only [Zfx,Tk] at h;rcases Tv.1 he with rfl | he
  ·have h1:=h.1;rw [hb] at h1;simp only [Tk,Nat.ble_eq,TV] at h1;exact ⟨h1.1,fun e=>by rw [e] at h1;simp at h1⟩
  exact Zcc h.2 e he hb
theorem ZaJ {j:Nat}:∀{l:List Edge},ZcC j l=true->∀e∈l,Region.binds .any e=true->e.on≠j
 | [],_,e,he,_=>by cases he
 | x::l,h,e,he,hb=>by
  simp only [ZcC,Tk] at h;rcases Tv.1 he with rfl | he
  ·have h1:=h.1;rw [hb] at h1;simp only [TV] at h1;exact fun e=>by rw [e] at h1;simp at h1
  exact ZaJ h.2 e he hb
def Zqu (all:List Oper) (ms:List Nat) (x y:Nat×Oper):Prop :=
 x.1≠y.1/\(∀e∈x.2.after.toList,Region.binds .any e=true->e.on≠y.1)/\(anc ms x.1 y.1=true\/(XJ x.2.op=false/\Zcb all x.2 y.2=true))
theorem Zc6 {all:List Oper} {ms:List Nat} {i:Nat} {o:Oper}:∀{l:List (Nat×Oper)},Zju all ms i o l=true->∀p∈l,Zqu all ms (i,o) p
 | [],_,p,hp=>by cases hp
 | (j,x)::l,h,p,hp=>by
  simp only [Zju,Tk,Sb,TV] at h;rcases Tv.1 hp with rfl | hp
  ·exact ⟨fun (e:i=j)=>by have:=h.1.1.1;rw [e] at this;simp at this,ZaJ h.1.1.2,h.1.2⟩
  exact Zc6 h.2 p hp
theorem W8 {all:List Oper} {ms:List Nat} {n:Nat}:∀{l:List (Nat×Oper)},ZgQ all ms n l=true->l.Pairwise (Zqu all ms)/\∀p∈l,∀e∈p.2.after.toList,Region.binds .any e=true->e.on<n/\e.on≠p.1
 | [],_=>⟨List.Pairwise.nil,fun p hp=>by cases hp⟩
 | (i,o)::l,h=>by
  simp only [ZgQ,Tk] at h;obtain ⟨h1,h2⟩:=W8 h.2;refine ⟨List.Pairwise.cons (Zc6 h.1.1) h1,fun p hp=>?_⟩;rcases Tv.1 hp with rfl | hp
  ·exact Zcc h.1.2
  exact h2 p hp
theorem J9 {cs:List (Nat×Oper)}:∀{n:Nat},ZgR cs n=true->∀k,k<n->∃p∈cs,p.1=k
 | 0,_,k,hk=>oM
 | n+1,h,k,hk=>by
  simp only [ZgR,Tk,List.any_eq_true] at h
  by_cases xa:k=n
  ·obtain ⟨p,hp,hb⟩:=h.1;exact ⟨p,hp,by rw [xa];exact Tn hb⟩
  exact J9 h.2 k oM
theorem Vw {ms:List Nat}:∀{l:List (Nat×Oper)},Zbu ms l=true->∀p∈l,ms.getD p.1 0=JJ ms p.2.after.toList 0
 | [],_,p,hp=>by cases hp
 | (i,o)::l,h,p,hp=>by
  simp only [Zbu,Tk] at h;rcases Tv.1 hp with rfl | hp
  ·exact Tn h.1
  exact Vw h.2 p hp
theorem VZ {ms:List Nat} {x:Nat}:∀{l:List Edge} {s:Nat},(JJ ms l s).testBit x=true->s.testBit x=true\/∃e∈l,Region.binds .any e=true/\(e.on=x\/anc ms x e.on=true)
 | [],s,h=>.inl h
 | e::l,s,h=>by
  unfold JJ at h
  cases hb:Region.binds .any e with
  | true =>
   rw [hb] at h;rcases VZ h with h1 | ⟨e',he',h1⟩
   ·rw [Nat.testBit_or,Nat.testBit_or,Sb,Sb] at h1;rcases h1 with (h1 | h1) | h1
    ·exact .inl h1
    ·rw [Nat.testBit_two_pow] at h1;exact .inr ⟨e,sM,hb,.inl (by simpa using h1)⟩
    exact .inr ⟨e,sM,hb,.inr h1⟩
   exact .inr ⟨e',Tx _ he',h1⟩
  | false =>
  rw [hb] at h;rcases VZ h with h1 | ⟨e',he',h1⟩
  ·exact .inl h1
  exact .inr ⟨e',Tx _ he',h1⟩
theorem ZgS {left:List (Nat×Oper)}:∀{l:List (Nat×Oper)} {p:Nat×Oper},Zfq left l=some p->p∈l
 | [],p,h=>by cases h
 | (i,o)::l,p,h=>by
  unfold Zfq at h
  split at h
  ·cases h;simp
  exact Tx _ (ZgS h)
theorem YZ {i:Nat}:∀{l:List (Nat×Oper)} {p:Nat×Oper},p∈YR i l->p∈l
 | [],p,h=>by cases h
 | (j,o)::l,p,h=>by
  unfold YR at h
  split at h
  ·exact Tx _ h
  rcases Tv.1 h with rfl | h
  ·simp
  exact Tx _ (YZ h)
theorem Jk:∀{n:Nat} {l:List (Nat×Oper)} {p:Nat×Oper},p∈UH n l->p∈l
 | 0,l,p,h=>h
 | n+1,[],p,h=>by cases h
 | n+1,x::l,p,h=>by
  unfold UH at h
  split at h
  ·rename_i i o hp
   rcases Tv.1 h with rfl | h
   ·exact ZgS hp
   exact YZ (Jk h)
  rcases Tv.1 h with rfl | h
  ·simp
  exact Tx _ (Jk h)
theorem Wq:∀{l:List Oper} {i:Nat} {p:Nat×Oper},p∈ZQ i l->i<=p.1/\l[p.1 - i]?=some p.2
 | [],i,p,h=>by cases h
 | o::l,i,p,h=>by
  unfold ZQ at h
  rcases Tv.1 h with rfl | h
  ·simp
  obtain ⟨h1,h2⟩:=Wq h;refine ⟨oM,?_⟩;rw [show p.1 - i=(p.1 - (i+1))+1 by omega];simpa using h2
theorem ZmV {ops:List Oper} {p:Nat×Oper} (h:p∈ZgG ops):ops[p.1]?=some p.2:=by
 have:=Wq (Jk h);simpa using this.2
section
variable {G:GE} {C:Cx} {e0 e:Env} {σ0 σ:St} {w0 w:World} {a:Act} {f:Frame} {Q:PQ} {ro:Option Nat} {n:Nat} {ds:Nat×List Deferred×Bool} {N:Nat} {Z:Array Value->Prop}
theorem ZgT (hC:CxOK G C ro e0 σ0 w0) (hM:CxMono C) {ops:Array Oper} (hd:∀o,o∈ops->∀d,o.dst=some d->d<N/\∀t v,Z t->Z (t.setIfInBounds d v)) {ms:List Nat} (yq:∀i o,ops[i]?=some o->ms.getD i 0=JJ ms o.after.toList 0) :
  ∀(k:Nat) (l:List (Nat×Oper)),l.length=k->(∀p∈l,ops[p.1]?=some p.2)->l.Pairwise (Zqu ops.toList ms)->(∀p∈l,∀e∈p.2.after.toList,Region.binds .any e=true->e.on<ops.size/\e.on≠p.1) ->
  ∀{listed:Array Bool},listed.size=ops.size->(∀k,k<ops.size->(listed.getD k false=true↔∀p∈l,p.1≠k))->(∀j,(∀p∈l,p.1≠j)->∀p∈l,anc ms p.1 j=false) ->
  ∀{ctx:List Ld} {e:Env} {σ:St} {w:World} {a:Act} {f:Frame},SRel G e σ w->FRel G e σ w f a.tmps->Later e0 σ0 w0 e σ w->a.tmps.size=N->Marks ds e σ w a.defers->Z a.tmps->Vp C ops.toList ms Q l ctx f σ ->
  wpAnyIn (fw ro) n G.P .any ops (Yf G e0 σ0 w0 ds N Z Q) k listed a w
 | 0,l,hl,dh,hp,hed,listed,hsz,eu,hdown,ctx,e,σ,w,a,f,hS,hF,hL,hN,bn,hZ,h=>by
  have ov:l=[]:=SA.1 hl;exact m74
 | k+1,l,hl,dh,hp,hed,listed,hsz,eu,hdown,ctx,e,σ,w,a,f,hS,hF,hL,hN,bn,hZ,h=>by
  have lb:∀i b,i<ops.size->listed.getD i b=listed.getD i false:=fun i b hi=>by
   exact m105
  refine ⟨fun hr=>?_,fun i hi=>?_⟩
  ·cases l with
   | nil=>simp at hl
   | cons x l =>
   exfalso;have hx:=dh x sM;have ah:=(Tq.1 hx).1;have:x.1∈Region.ready .any ops listed:=by
    refine mem_ready.2 ⟨?_,x.2,hx,fun ed jp hb=>?_⟩
    ·rw [lb _ _ ah]
     cases hv:listed.getD x.1 false with
     | false=>rfl
     | true=>exact absurd rfl ((eu x.1 ah).1 hv x sM)
    have h1:=hed x sM ed (TP.1 jp) hb;refine (eu ed.on h1.1).2 fun p i7=>?_
    exact m158
   rw [hr] at this;cases this
  obtain ⟨h1,o,ho,cd⟩:=mem_ready.1 hi;have ah:=(Tq.1 ho).1;rw [lb _ _ ah] at h1;have dq:∃p∈l,p.1=i:=by
   exact m170
  obtain ⟨p,jx,rfl⟩:=dq;have uy:p.2=o:=by have:=dh p jx;rw [ho] at this;exact (Option.some.inj this).symm
  obtain ⟨pre,post,rfl⟩:=List.append_of_mem jx;obtain ⟨i,o'⟩:=p;dsimp only at uy ho ah h1 hi;subst uy;have qk:=List.pairwise_append.1 hp;have ia:=(List.pairwise_cons.1 qk.2.1)
  have ib:∀x∈pre++(i,o')::post,anc ms x.1 i=false:=fun x hx=>by
   cases uz:anc ms x.1 i with
   | false=>rfl
   | true =>
   exfalso;unfold anc at uz
   rw [yq i o' ho] at uz;rcases VZ uz with h2 | ⟨ed,jp,hb,h2⟩
   ·simp at h2
   have u7:=cd ed (TP.2 jp) hb;have an:=(eu ed.on (hed _ jx ed jp hb).1).1 u7;rcases h2 with h2 | h2
   ·exact an x hx h2.symm
   rw [hdown ed.on an x hx] at h2;cases h2
  have jq:=Zim hM pre (fun x hx=>by
   have hA:=qk.2.2 x hx (i,o') sM;have yu:=ib x (by simp [hx]);rcases hA.2.2 with h2 | h2
   ·rw [yu] at h2;cases h2
   exact ⟨h2.1,h2.2,yu⟩) ctx f σ h
  have az:=Uq (ro:=ro) (n:=n) hC hS hF hL hN bn hZ (ops:=ops) (hd o' (Sc ho)) jq;have vb:∀x∈pre++post,x.1≠i:=fun x hx=>by
   exact m189
  have cm:∀x,x∈pre++post->x∈pre++(i,o')::post:=fun x hx=>by
   rcases TZ.1 hx with hx | hx <;> simp [hx]
  have next:∀a' w',KRel G e0 σ0 w0 ds N Z (fun f' σ'=>∃c,Vp C ops.toList ms Q (pre++post) c f' σ') a' w'->wpAnyIn (fw ro) n G.P .any ops (Yf G e0 σ0 w0 ds N Z Q) k (listed.setIfInBounds i true) a' w':=fun a' w' ⟨f',e',σ',⟨c,ir⟩,h2,h3,h4,h5,h6,h7⟩=>by
   refine ZgT hC hM hd yq k (pre++post) (by simp at hl |-;omega) (fun x hx=>dh x (cm x hx)) (List.pairwise_append.2 ⟨qk.1,ia.2,fun x hx y hy=>qk.2.2 x hx y (Tx _ hy)⟩)
    (fun x hx=>hed x (cm x hx)) (by simpa using hsz) (fun k hk=>?_) (fun j hj x hx=>?_) h2 h3 h4 h5 h6 h7 ir
   ·by_cases nw:k=i
    ·subst nw;have gq:k<listed.size:=by rw [hsz];exact ah
     have:(listed.setIfInBounds k true).getD k false=true:=by simp [Array.getD,gq]
     simp only [this,true_iff];exact vb
    have:(listed.setIfInBounds i true).getD k false=listed.getD k false:=getD_set_ne false (Ne.symm nw);rw [this,eu k hk]
    constructor
    ·exact fun hh x hx=>hh x (cm x hx)
    intro hh x hx
    rcases TZ.1 hx with hx | hx
    ·exact hh x (by simp [hx])
    rcases Tv.1 hx with rfl | hx
    ·exact fun e=>nw e.symm
    exact hh x (by simp [hx])
   by_cases hji:j=i
   ·subst hji;exact ib x (cm x hx)
   refine hdown j (fun y hy=>?_) x (cm x hx);exact m149
  have hK:∀a' w',KRel G e0 σ0 w0 ds N Z (fun f' σ'=>match XJ o'.op with | true=>Zqq ms i σ.bx σ'.bx ctx (Vp C ops.toList ms Q (pre++post) ctx f' σ') | false=>Vp C ops.toList ms Q (pre++post) (Um C.T o' i f ctx) f' σ') a' w' ->
    KRel G e0 σ0 w0 ds N Z (fun f' σ'=>∃c,Vp C ops.toList ms Q (pre++post) c f' σ') a' w':=fun a' w' ⟨f',e',σ',hk,ax⟩=>by
   refine ⟨f',e',σ',?_,ax⟩
   cases hE:XJ o'.op with
   | true=>rw [hE] at hk;exact ⟨_,(chkL_iff.1 hk).2⟩
   | false=>rw [hE] at hk;exact ⟨_,hk⟩
  exact m106
theorem Zlm (hC:CxOK G C ro e0 σ0 w0) (hM:CxMono C) {ops:Array Oper} (hd:∀o,o∈ops->∀d,o.dst=some d->d<N/\∀t v,Z t->Z (t.setIfInBounds d v)) (aw:ZmU ops.toList=true)
  (hS:SRel G e σ w) (hF:FRel G e σ w f a.tmps) (hL:Later e0 σ0 w0 e σ w) (hN:a.tmps.size=N) (bn:Marks ds e σ w a.defers) (hZ:Z a.tmps) (h:Vp C ops.toList (VJ ops.toList []) Q (ZgG ops.toList) [] f σ) :
  wpAnyIn (fw ro) n G.P .any ops (Yf G e0 σ0 w0 ds N Z Q) ops.size (Array.replicate ops.size false) a w:=by
 simp only [ZmU,Tk] at aw;obtain ⟨⟨⟨h1,h2⟩,h3⟩,h4⟩:=aw;have ab:(ZgG ops.toList).length=ops.size:=by simpa using Tn h1
 have kr:∀k,k<ops.size->∃p∈ZgG ops.toList,p.1=k:=fun k hk=>J9 h3 k (by simpa using hk)
 have dh:∀p∈ZgG ops.toList,ops[p.1]?=some p.2:=fun p hp=>by have:=ZmV hp;simpa using this
 refine ZgT hC hM hd (ms:=VJ ops.toList []) (fun i o ho=>?_) _ (ZgG ops.toList) ab dh (W8 h2).1 (fun p hp e he hb=>by have:=(W8 h2).2 p hp e he hb;simpa using this) sM (fun k hk=>?_) (fun j hj p hp=>?_) hS hF hL hN bn hZ h
 ·obtain ⟨p,hp,rfl⟩:=kr i (Tq.1 ho).1;have:=dh p hp;rw [ho] at this
  cases this
  exact Vw h4 p hp
 ·exact m130
 by_cases ny:j<ops.size
 ·obtain ⟨q,hq,he⟩:=kr j ny;exact absurd he (hj q hq)
 exact m85
end
end Go.PM
end
