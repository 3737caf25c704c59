/- A part of the proof: plain logic, contracts and laws over the given program. -/
import Derived.RangeFuncRecord
import Derived.Deep.AppendSrc
import Derived.Deep.Upon
import Derived.Lib.OthersKept
import Derived.Lib.ConvBytes
import Derived.OrdersIn
import Derived.Test.YtipdifmlclblhaaGreatDoorG01
set_option linter.unusedVariables false
set_option linter.unusedSimpArgs false
set_option linter.all false
set_option maxRecDepth 100000
set_option maxHeartbeats 16000000
section
namespace Go.PM
section
variable {G:GE} {e:Env} {σ:St} {w:World} {T:Tab}
structure Grows (w w1:World):Prop where
 os:w1.os=w.os
 tape:w1.tape=w.tape
 output:w1.output=w.output
 size:w.heap.size<=w1.heap.size
 old:∀b,b<w.heap.size->w1.heap[b]?=w.heap[b]?
theorem Grows.refl (w:World):Grows w w:=⟨rfl,rfl,rfl,Tq _,fun _ _=>rfl⟩
theorem Grows.trans {a b c:World} (h:Grows a b) (k:Grows b c):Grows a c :=
 ⟨k.os.trans h.os,k.tape.trans h.tape,k.output.trans h.output,T1 h.size k.size,fun i hi=>(k.old i (TD hi h.size)).trans (h.old i hi)⟩
theorem Grows.alloc (w:World) (o:Obj):Grows w (w.alloc o):=⟨rfl,rfl,rfl,by simp only [World.alloc,Array.size_push];omega,fun i hi=>heap_alloc_old w o i hi⟩
theorem Grows.drew (w:World):Grows w w.drew:=⟨rfl,rfl,rfl,Tq _,fun _ _=>rfl⟩
theorem Grows.cell {w w1:World} (h:Grows w w1) {b off:Nat} (hb:b<w.heap.size):w1.cell? ⟨b,off,none⟩=w.cell? ⟨b,off,none⟩:=by simp [World.cell?,h.old b hb]
theorem Grows.stepped {w1:World} (h:Grows w w1) (e:Env) (σ:St):Stepped e σ w e σ w1 where
 len:=Tq _
 beta:=fun _ _=>rfl
 X:=rfl
 pres:=fun b off u hc ho=>⟨ho,(h.cell (Vu hc)).trans hc⟩
 blocks:=fun b hb _ _=>h.old b hb
 size:=h.size
 os:=h.os
 tape:=h.tape
 output:=h.output
 fresh:=fun i h1 h2=>oM
 ftok:=fun t ht p hp=>.inr ⟨t,ht,p,hp,rfl⟩
 nx:=Tq _
 toks:=fun _ _ ht=>⟨ht,rfl⟩
 own:=fun _ _ _ _ _ hp=>h.old _ hp
theorem SRel.grow (hS:SRel G e σ w) {w1:World} (h:Grows w w1):SRel G e σ w1 where
 inj:=hS.inj
 box:=fun i x hx=>(hS.box i x hx).step (h.stepped e σ) (h.old _ (hS.lt (Th.1 hx).1))
 low:=hS.low
 tkn:=hS.tkn
 own:=fun t ht p hp=>by
  obtain ⟨h1,h2,cs,ty,fz,h3⟩:=hS.own t ht p hp;exact ⟨h1,h2,cs,ty,fz,(h.old _ (Tn.1 h3).1).trans h3⟩
 dis:=hS.dis
 xown:=hS.xown
 xlt:=fun b off hx=>TD (hS.xlt b off hx) h.size
 glob:=fun b hb=>(h.old b (TD hb hS.big)).trans (hS.glob b hb)
 big:=T1 hS.big h.size
def Env.more (e:Env) (n b:Nat):Env:={ e with β:=fun i=>if i=n then b else e.β i }
theorem ZDj (σ:St) (x:Box):(σ.new x).bx.length=σ.bx.length+1:=by simp [St.new]
theorem JO (hS:SRel G e σ w) (x:Box) (ob:Obj) (hob:∀e1 σ1 w1,Stepped e σ w e1 σ1 w1->w1.heap[w.heap.size]?=some ob->BRel G e1 σ1 w1 x w.heap.size) :
  Stepped e σ w (e.more σ.bx.length w.heap.size) (σ.new x) (w.alloc ob)/\SRel G (e.more σ.bx.length w.heap.size) (σ.new x) (w.alloc ob) /\
   VRel G (e.more σ.bx.length w.heap.size) (σ.new x) (w.alloc ob) (.ptr σ.bx.length 0) (.pointer (some ⟨w.heap.size,0,none⟩)):=by
 have hg:=Grows.alloc w ob;have hβ:∀i,i<σ.bx.length->(e.more σ.bx.length w.heap.size).β i=e.β i:=fun i hi=>by simp only [Env.more];rw [Tg oM]
 have pt:(e.more σ.bx.length w.heap.size).β σ.bx.length=w.heap.size:=by simp [Env.more]
 have hst:Stepped e σ w (e.more σ.bx.length w.heap.size) (σ.new x) (w.alloc ob):={
  len:=by rw [ZDj];omega
  beta:=hβ
  X:=rfl
  pres:=fun b off u hc ho=>⟨⟨ho.1,fun i hi=>by
    have hb:=Vu hc;rw [ZDj] at hi
    by_cases h:i=σ.bx.length
    ·rw [h,pt];omega
    rw [hβ i oM];exact ho.2.1 i oM,ho.2.2⟩,(hg.cell (Vu hc)).trans hc⟩
  blocks:=fun b hb _ _=>hg.old b hb
  size:=hg.size
  os:=rfl
  tape:=rfl
  output:=rfl
  fresh:=fun i h1 h2=>by
   rw [ZDj] at h2;rw [show i=σ.bx.length by omega,pt];exact Tq _
  ftok:=fun t ht p hp=>.inr ⟨t,ht,p,hp,rfl⟩
  nx:=Tq _
  toks:=fun _ _ ht=>⟨ht,rfl⟩
  own:=fun _ _ _ _ _ hp=>hg.old _ hp }
 refine ⟨hst,?_,?_⟩
 ·exact {
   inj:=fun i j hi hj ir=>by
    rw [ZDj] at hi hj
    by_cases h1:i=σ.bx.length <;> by_cases h2:j=σ.bx.length
    ·omega
    ·rw [h1,pt,hβ j oM] at ir;have:=hS.lt (i:=j) oM;omega
    ·rw [h2,pt,hβ i oM] at ir;have:=hS.lt (i:=i) oM;omega
    rw [hβ i oM,hβ j oM] at ir;exact hS.inj i j oM oM ir
   box:=fun i y hy=>by
    have hi:=(Th.1 hy).1;rw [ZDj] at hi
    by_cases h1:i=σ.bx.length
    ·subst h1;rw [pt];simp [St.new] at hy;subst hy;exact hob _ _ _ hst (heap_alloc_new w ob)
    have jj:i<σ.bx.length:=by omega
    rw [hβ i jj];simp only [St.new,TG jj] at hy;exact (hS.box i y hy).step hst (hg.old _ (hS.lt jj))
   low:=fun i hi=>by
    rw [ZDj] at hi
    by_cases h1:i=σ.bx.length
    ·rw [h1,pt];exact hS.big
    rw [hβ i oM];exact hS.low i oM
   tkn:=hS.tkn
   own:=fun t ht p hp=>by
    obtain ⟨h1,h2,cs,ty,fz,h3⟩:=hS.own t ht p hp;have ai:=(Tn.1 h3).1;refine ⟨h1,fun i hi=>?_,cs,ty,fz,(hg.old _ ai).trans h3⟩;rw [ZDj] at hi
    by_cases h4:i=σ.bx.length
    ·rw [h4,pt];omega
    rw [hβ i oM];exact h2 i oM
   dis:=hS.dis
   xown:=hS.xown
   xlt:=fun b off hx=>TD (hS.xlt b off hx) hg.size
   glob:=fun b hb=>(hg.old b (TD hb hS.big)).trans (hS.glob b hb)
   big:=T1 hS.big hg.size }
 have:=VRel.ptr (G:=G) (e:=e.more σ.bx.length w.heap.size) (σ:=σ.new x) (w:=w.alloc ob) σ.bx.length 0 (by rw [ZDj];omega)
 rwa [pt] at this
theorem Zct (hS:SRel G e σ w) (t:TypeId) (cs:List PV) (vs:Array Value) (hs:vs.size=cs.length) (hr:∀(i:Nat) (x:PV) (u:Value),cs[i]?=some x->vs[i]?=some u->VRel G e σ w x u/\u.oneCell'=true) :
  Stepped e σ w (e.more σ.bx.length w.heap.size) (σ.new (.cells t cs)) (w.alloc (.cells vs t))/\SRel G (e.more σ.bx.length w.heap.size) (σ.new (.cells t cs)) (w.alloc (.cells vs t)) /\
   VRel G (e.more σ.bx.length w.heap.size) (σ.new (.cells t cs)) (w.alloc (.cells vs t)) (.ptr σ.bx.length 0) (.pointer (some ⟨w.heap.size,0,none⟩)) :=
 JO hS (.cells t cs) (.cells vs t) (fun _ _ _ hst hh=>⟨vs,hh,hs,fun i x u hx hu=>⟨(hr i x u hx hu).1.step hst,(hr i x u hx hu).2⟩⟩)
def Zns (P:Program) (ρ':Operand->Value) (o:Oper) (w:World) (v:Value) (w1:World):Prop :=
 (execOp ρ' o).run P w=.ok (.value v) w1\/((execOp ρ' o).run P w=.ok .skip w1/\v=Go.undef)
theorem Y6 (b:Nat):∀(vs:List Value) (o:Nat) (w:World) (cs:Array Value) (ty:TypeId) (fz:Nat×Nat),w.heap[b]?=some (.cells cs ty fz) ->
  ∃cs',(w.setCells b o vs).heap[b]?=some (.cells cs' ty fz)/\cs'.size=cs.size/\∀i,cs'[i]?=if o<=i/\i<o+vs.length/\i<cs.size then vs[i - o]? else cs[i]?
 | [],o,w,cs,ty,fz,h=>⟨cs,h,rfl,fun i=>by rw [Tg];simp;omega⟩
 | v::vs,o,w,cs,ty,fz,h=>by
  have h1:(w.setCell ⟨b,o,none⟩ v).heap[b]?=some (.cells (cs.setIfInBounds o v) ty fz):=by
   simp [World.setCell,Array.getElem?_modify,h]
  obtain ⟨cs',h2,h3,h4⟩:=Y6 b vs (o+1) _ _ ty fz h1;refine ⟨cs',h2,by rw [h3];simp,fun i=>?_⟩;rw [h4];simp only [Array.size_setIfInBounds,Tc,TV]
  by_cases hi:o+1<=i/\i<o+1+vs.length/\i<cs.size
  ·rw [Tj hi,Tj ⟨oM,oM,oM⟩,show i - o=(i - (o+1))+1 by omega,TQ]
  rw [Tg hi]
  by_cases h5:o=i
  ·subst h5
   by_cases h6:o<cs.size
   ·rw [Tj rfl,Tj h6,Tj ⟨oM,oM,h6⟩];simp
   rw [Tj rfl,Tg h6,Tg oM];simp [h6]
  rw [Tg h5,Tg oM]
theorem Xz (b:Nat):∀(vs:List Value) (o:Nat) (w:World),(w.setCells b o vs).heap.size=w.heap.size
 | [],_,_=>rfl
 | v::vs,o,w=>by
  show ((w.setCell ⟨b,o,none⟩ v).setCells b (o+1) vs).heap.size=_;rw [Xz b vs];simp [World.setCell]
theorem YK (b:Nat):∀(vs:List Value) (o:Nat) (w:World),(w.setCells b o vs).os=w.os/\(w.setCells b o vs).tape=w.tape/\(w.setCells b o vs).output=w.output/\∀k,k≠b->(w.setCells b o vs).heap[k]?=w.heap[k]?
 | [],_,_=>⟨rfl,rfl,rfl,fun _ _=>rfl⟩
 | v::vs,o,w=>by
  obtain ⟨h1,h2,h3,h4⟩:=YK b vs (o+1) (w.setCell ⟨b,o,none⟩ v);exact ⟨h1,h2,h3,fun k hk=>(h4 k hk).trans (RowKit.Below.heap_setCell w ⟨b,o,none⟩ v k hk)⟩
theorem Zaw (hS:SRel G e σ w) {b:Nat} {x x':Box} (hb:σ.bx[b]?=some x) {w1:World} (r1:w1.os=w.os) (r2:w1.tape=w.tape) (r3:w1.output=w.output) (hsz:w1.heap.size=w.heap.size) (r4:∀k,k≠e.β b->w1.heap[k]?=w.heap[k]?)
  (ic:Stepped e σ w e (σ.set b x') w1->BRel G e (σ.set b x') w1 x' (e.β b)):Stepped e σ w e (σ.set b x') w1/\SRel G e (σ.set b x') w1:=by
 have cq:b<σ.bx.length:=(Th.1 hb).1;have lb:(σ.set b x').bx.length=σ.bx.length:=by simp [St.set]
 have hst:Stepped e σ w e (σ.set b x') w1:={
  len:=by rw [lb];exact Tq _
  beta:=fun _ _=>rfl
  X:=rfl
  pres:=fun k o u hk ho=>⟨⟨ho.1,fun j hj=>ho.2.1 j (by rw [lb] at hj;exact hj),ho.2.2⟩,by simpa [World.cell?,r4 k (fun h=>ho.2.1 b cq h.symm)] using hk⟩
  blocks:=fun k hk pu _=>r4 k (fun h=>pu b cq h.symm)
  size:=by rw [hsz];exact Tq _
  os:=r1
  tape:=r2
  output:=r3
  fresh:=fun i h1 h2=>by rw [lb] at h2;omega
  ftok:=fun t ht p hp=>.inr ⟨t,ht,p,hp,rfl⟩
  nx:=Tq _
  toks:=fun _ _ ht=>⟨ht,rfl⟩
  own:=fun t' hn ht p hp ai=>r4 _ (fun h=>(hS.own t' ht p hp).2.1 b cq h.symm) }
 refine ⟨hst,?_⟩;exact {
  inj:=fun i j hi hj=>hS.inj i j (by rw [lb] at hi;exact hi) (by rw [lb] at hj;exact hj)
  box:=fun k y hy=>by
   by_cases zd:k=b
   ·subst zd;have:y=x':=by
     simp only [St.set,List.getElem?_set_self cq] at hy;exact (Option.some.inj hy).symm
    subst this;exact ic hst
   have xe:σ.bx[k]?=some y:=by
    simp only [St.set] at hy
    rwa [List.getElem?_set_ne (fun h=>zd h.symm)] at hy
   have zf:=(Th.1 xe).1;exact (hS.box k y xe).step hst (r4 _ (fun h=>zd (hS.inj k b zf cq h)))
  low:=fun i hi=>hS.low i (by rw [lb] at hi;exact hi)
  tkn:=hS.tkn
  own:=fun t' ht p hp=>by
   obtain ⟨q1,q2,cs2,ty2,fz2,q3⟩:=hS.own t' ht p hp;refine ⟨q1,fun i hi=>q2 i (by rw [lb] at hi;exact hi),cs2,ty2,fz2,(r4 _ (fun h=>q2 b cq h.symm)).trans q3⟩
  dis:=hS.dis
  xown:=hS.xown
  xlt:=fun k o hx=>by rw [hsz];exact hS.xlt k o hx
  glob:=fun k hk=>(r4 k (fun h=>by have:=hS.low b cq;omega)).trans (hS.glob k hk)
  big:=by rw [hsz];exact hS.big }
theorem Ji (hT:TabOK T G.P) (hS:SRel G e σ w) {t:TypeId} {b off:Nat} {x:PV} {v:Value} {l cs:List PV} {ty:TypeId} (hb:σ.bx[b]?=some (.cells ty cs)) (hx:VRel G e σ w x v) (hl:x.cells=some l)
  (aa:l.length=(T.get t).size) (mo:off+l.length<=cs.length) (hk:(T.get t).kind≠.other) :
  ∃w1,(Instr.storeAt t (.pointer (some ⟨e.β b,off,none⟩)) v).run G.P w=.ok () w1/\Stepped e σ w e (σ.set b (.cells ty (ZJ cs off l))) w1/\SRel G e (σ.set b (.cells ty (ZJ cs off l))) w1:=by
 obtain ⟨i,d,z,hi,hd,hs,dm,aw,hz,cx,_⟩:=(hT.get hk).ex;have cq:b<σ.bx.length:=(Th.1 hb).1;obtain ⟨vs,lp,oq,xl⟩:=hS.box b _ hb;obtain ⟨cy,cu⟩:=W7 hx hl;have hvc:v.cells.toList.length=l.length:=by simpa using cy
 have jo:∀u∈v.cells.toList,u.oneCell'=true:=fun u hu=>by
  exact m139
 have ah:=run_storeCells_cells (P:=G.P) (e.β b) off v.cells.toList 0 w (fun j hj=>by
   have:off+j<vs.size:=oM;simp [World.cell?,lp,this]) (fun j hj=>by simp [World.frozen?,lp]) jo
 simp only [SC] at ah;obtain ⟨r1,r2,r3,r4⟩:=YK (e.β b) v.cells.toList off w;obtain ⟨cs',h1,h2,h3⟩:=Y6 (e.β b) v.cells.toList off w vs ty (0,0) lp;refine ⟨_,?_,Zaw hS hb r1 r2 r3 (Xz _ _ _ _) r4 fun hst=>?_⟩
 ·have mq:v.cells.size=i.size:=by rw [cy,aa,hs]
  exact m68
 refine ⟨cs',h1,by rw [h2,oq,Xh],fun j x u ge hu=>?_⟩;rw [WH] at ge;rw [h3,hvc] at hu
 by_cases pn:off<=j/\j<off+l.length/\j<cs.length
 ·rw [Tj pn] at ge;rw [Tj ⟨pn.1,pn.2.1,oM⟩,Tt] at hu;obtain ⟨q1,q2⟩:=cu _ x u ge hu;exact ⟨q1.step hst,q2⟩
 rw [Tg pn] at ge;rw [Tg oM] at hu;obtain ⟨q1,q2⟩:=xl j x u ge hu;exact ⟨q1.step hst,q2⟩
theorem ZlJ (hS:SRel G e σ w) {b:Nat} {s:List UInt8} {pos:Nat} (hb:σ.bx[b]?=some (.iter s pos)) (ty:TypeId) {K:PV->St->Prop}
  (h:CondP (decide (pos<s.length)) (K (.tuple [.d (.bool true),.d (.int .i64 pos),.d (.int .i32 (decodeL s pos).1)]) (σ.set b (.iter s (pos+(decodeL s pos).2)))) (K (.tuple [.d (.bool false)]) σ)) :
  ∃pv σ1 v w1,K pv σ1/\(Instr.next (.pointer (some ⟨e.β b,0,none⟩)) true ty).run G.P w=.ok v w1/\Stepped e σ w e σ1 w1/\SRel G e σ1 w1/\VRel G e σ1 w1 pv v:=by
 have cq:b<σ.bx.length:=(Th.1 hb).1;have lq:w.heap[e.β b]?=some (.stringIter ⟨s.toArray⟩ pos):=hS.box b _ hb
 by_cases hp:pos<s.length
 ·have:decide (pos<s.length)=true:=by simp [hp]
  rw [this] at h;refine ⟨_,_,_,_,h,Lib.run_next_any_at w (e.β b) ⟨s.toArray⟩ pos ty lq hp,?_⟩;have km:∀k,k≠e.β b->(w.iterAt (e.β b) ⟨s.toArray⟩ (pos+(Utf8.decode ⟨s.toArray⟩ pos).2)).heap[k]?=w.heap[k]?:=fun k hk=>Lib.iterAt_other w (e.β b) k _ _ hk
  obtain ⟨g1,g2⟩:=Zaw (x':=.iter s (pos+(decodeL s pos).2)) hS hb (w1:=w.iterAt (e.β b) ⟨s.toArray⟩ (pos+(Utf8.decode ⟨s.toArray⟩ pos).2)) rfl rfl rfl (by rw [Lib.iterAt_size]) km fun _=>Lib.iterAt_heap w (e.β b) _ pos _ lq
  refine ⟨g1,g2,?_⟩;refine .tuple _ _ rfl (fun i x u hx hu=>?_)
  match i with
  | 0=>cases hx;cases hu;exact .mkbool
  | 1=>cases hx;cases hu;exact .mkint
  | 2=>cases hx;cases hu;exact .mkint
  | n+3=>cases hx
 have:decide (pos<s.length)=false:=by simp [hp]
 rw [this] at h;refine ⟨_,_,_,_,h,Lib.run_next_end_at w (e.β b) ⟨s.toArray⟩ pos ty lq hp,.refl _ _ _,hS,.tuple _ _ rfl (fun i x u hx hu=>?_)⟩
 match i with
 | 0=>cases hx;cases hu;exact .mkbool
 | n+1=>cases hx
structure Flat (ok:Nat->Nat->Prop) (w:World) (rows:List (List D)) (sz:Nat) (xs:List Value):Prop where
 len:xs.length=rows.length * sz
 wid:∀r∈rows,r.length=sz
 rel:∀(a b:Nat) (y:D) (u:Value),b<sz->(rows[a]?.bind (·[b]?))=some y->xs[a * sz+b]?=some u->DRel ok w y u
theorem Flat.mono {ok ok':Nat->Nat->Prop} {w w':World} {rows:List (List D)} {sz:Nat} {xs:List Value} (h:Flat ok w rows sz xs) (hp:∀(y:D) (u:Value),DRel ok w y u->DRel ok' w' y u):Flat ok' w' rows sz xs :=
 ⟨h.len,h.wid,fun a b y u hb hy hu=>hp y u (h.rel a b y u hb hy hu)⟩
theorem Flat.nil (ok:Nat->Nat->Prop) (w:World) (sz:Nat):Flat ok w [] sz []:=⟨sM,fun r h=>(by cases h),fun a b y u _ hy=>by simp at hy⟩
theorem Flat.append {ok:Nat->Nat->Prop} {w:World} {r1 r2:List (List D)} {sz:Nat} {x1 x2:List Value} (h1:Flat ok w r1 sz x1) (h2:Flat ok w r2 sz x2):Flat ok w (r1++r2) sz (x1++x2):=by
 refine ⟨by rw [Tb,Tb,h1.len,h2.len,Si],fun r hr=>?_,fun a b y u hb hy hu=>?_⟩
 ·rcases TN.1 hr with h | h
  ·exact h1.wid r h
  exact h2.wid r h
 by_cases ha:a<r1.length
 ·rw [TG ha] at hy;have ai:a * sz+b<x1.length:=by
   rw [h1.len]
   calc a * sz+b<a * sz+sz:=by omega
    _=(a+1) * sz:=by rw [Si,Nat.one_mul]
    _<=r1.length * sz:=TZ _ ha
  rw [TG ai] at hu;exact h1.rel a b y u hb hy hu
 have rk:r1.length<=a:=by omega
 rw [TS rk] at hy;have kg:x1.length<=a * sz+b:=by
  rw [h1.len];exact T1 (TZ _ rk) (Nat.le_add_right _ _)
 rw [TS kg,h1.len] at hu;refine h2.rel (a - r1.length) b y u hb hy ?_;rw [<- hu]
 congr 1
 rw [Nat.sub_mul];have:=TZ sz rk;omega
theorem ZDm {ok:Nat->Nat->Prop} {w:World} {rows:List (List D)} {b off cap sz:Nat} (hsz:∀r∈rows,r.length=sz) (ay:0<sz) (h:DRel ok w (.sl rows) (.slice (some ⟨b,off,none⟩) rows.length cap)) :
  ∃xs,Flat ok w rows sz xs/\(∀(k:Nat) (u:Value),xs[k]?=some u->w.cell? ⟨b,off+k,none⟩=some u)/\(∀k,k<xs.length->ok b (off+k))/\∀u∈xs,u.oneCell'=true:=by
 cases h with
 | slz=>exact ⟨[],.nil _ _ _,fun k u h=>by simp at h,fun k h=>by simp at h,fun u h=>by cases h⟩
 | sl rows b off cap sz' u hcap ia hc ho hu =>
 by_cases hr:rows=[]
 ·subst hr;exact ⟨[],.nil _ _ _,fun k u h=>by simp at h,fun k h=>by simp at h,fun u h=>by cases h⟩
 have y3:sz'=sz:=by
  cases rows with
  | nil=>exact absurd rfl hr
  | cons r l=>rw [<- ia r sM,hsz r sM]
 subst y3;have hk:∀k,k<rows.length * sz'->k / sz'<rows.length/\k % sz'<sz'/\k / sz' * sz'+k % sz'=k:=fun k hk =>
  ⟨(Nat.div_lt_iff_lt_mul ay).2 hk,Nat.mod_lt _ ay,by rw [Nat.mul_comm];exact Nat.div_add_mod k sz'⟩
 have ol:∀k,k<rows.length * sz'->∃y,(rows[k / sz']?.bind (·[k % sz']?))=some y/\DRel ok w y (u (k / sz') (k % sz')):=fun k h=>by
  obtain ⟨h1,h2,h3⟩:=hk k h;have h4:(rows[k / sz']).length=sz':=ia _ (TB _);have h5:(rows[k / sz']?.bind (·[k % sz']?))=some ((rows[k / sz'])[k % sz']):=by
   rw [Te h1];simp only [Option.bind_some];rw [Te oM]
  exact ⟨_,h5,hu _ _ _ h5⟩
 refine ⟨(List.range (rows.length * sz')).map fun k=>u (k / sz') (k % sz'),⟨sM,ia,fun a b' y v hb hy hv=>?_⟩,fun k v hv=>?_,fun k h=>?_,fun v hv=>?_⟩
 ·rw [To] at hv;have ha:a<rows.length:=by
   rcases Nat.lt_or_ge a rows.length with h | h
   ·exact h
   rw [Sj h] at hy;cases hy
  have ai:a * sz'+b'<rows.length * sz':=by
   calc a * sz'+b'<a * sz'+sz':=by omega
    _=(a+1) * sz':=by rw [Si,Nat.one_mul]
    _<=rows.length * sz':=TZ _ ha
  rw [List.getElem?_range ai] at hv;have hd:(a * sz'+b') / sz'=a:=by rw [Nat.mul_comm,Nat.mul_add_div ay,Nat.div_eq_of_lt hb];omega
  have hm:(a * sz'+b') % sz'=b':=by rw [Nat.mul_comm,Nat.mul_add_mod,Nat.mod_eq_of_lt hb]
  simp only [Sk,hd,hm] at hv
  cases hv
  exact hu a b' y hy
 ·rw [To] at hv
  by_cases ai:k<rows.length * sz'
  ·rw [List.getElem?_range ai] at hv
   cases hv
   obtain ⟨h1,h2,h3⟩:=hk k ai;have:=hc _ _ h1 h2
   rwa [Sh,h3] at this
  rw [Sj (by simpa using ai)] at hv;cases hv
 ·simp only [Tf,List.length_range] at h;obtain ⟨h1,h2,h3⟩:=hk k h;have:=ho _ _ h1 h2
  rwa [Sh,h3] at this
 obtain ⟨k,lc,rfl⟩:=SB.1 hv;obtain ⟨y,_,hy⟩:=ol k (List.mem_range.1 lc);exact hy.one
theorem Flat.to_sl {ok:Nat->Nat->Prop} {w:World} {rows:List (List D)} {sz:Nat} {xs:List Value} (h:Flat ok w rows sz xs) (b off cap:Nat) (hcap:rows.length<=cap)
  (hc:∀(k:Nat) (u:Value),xs[k]?=some u->w.cell? ⟨b,off+k,none⟩=some u) (ho:∀k,k<xs.length->ok b (off+k)):DRel ok w (.sl rows) (.slice (some ⟨b,off,none⟩) rows.length cap):=by
 have ai:∀i j,i<rows.length->j<sz->i * sz+j<xs.length:=fun i j hi hj=>by
  rw [h.len]
  calc i * sz+j<i * sz+sz:=by omega
   _=(i+1) * sz:=by rw [Si,Nat.one_mul]
   _<=rows.length * sz:=TZ _ hi
 refine .sl rows b off cap sz (fun i j=>xs.getD (i * sz+j) Go.undef) hcap h.wid (fun i j hi hj=>?_) (fun i j hi hj=>?_) (fun i j x hx=>?_)
 ·have h1:=ai i j hi hj;rw [Sh];exact hc _ _ (by simp [List.getD,Te h1])
 ·rw [Sh];exact ho _ (ai i j hi hj)
 have hi:i<rows.length:=by
  rcases Nat.lt_or_ge i rows.length with h | h
  ·exact h
  rw [Sj h] at hx;cases hx
 have hj:j<sz:=by
  rw [Te hi] at hx;have:=(Th.1 hx).1
  rwa [h.wid _ (TB _)] at this
 exact h.rel i j x _ hj hx (by simp [List.getD,Te (ai i j hi hj)])
theorem ZtE (hT:TabOK T G.P) {tx el:Nat} {px:PV} {vx:Value} {more:List (List D)} {sz:Nat} (hm:X2 T tx el px=some more) (hx:VRel G e σ w px vx) (hsz:∀r∈more,r.length=sz) (ay:0<sz)
  (zg:sz=(T.get el).size):∃news,Src G.P sz tx vx more.length news w/\Flat (okc e σ) w more sz news:=by
 unfold X2 at hm
 split at hm
 ·rename_i hk
  obtain ⟨i,d,z,hi,hd,hs,dm,aw,hz,cx,_⟩:=(hT.get (t:=tx) (by rw [hk];simp)).ex;rw [hk] at aw;cases aw;split at hm
  ·rename_i bj
   split at hm
   ·rename_i s
    cases hm
    have hv:=hx.dstr;subst hv;have aa:(s.map fun b:UInt8=>[D.int .u8 b.toNat]).length=(⟨s.toArray⟩:ByteArray).size:=by simp;rfl
    have ey:∀sz',sz'=1->Flat (okc e σ) w (s.map fun b:UInt8=>[D.int .u8 b.toNat]) sz' (byteCells ⟨s.toArray⟩):=by
     rintro _ rfl
     refine ⟨by rw [byteCells_length,aa,Nat.mul_one],fun r hr=>?_,fun a b y u hb hy hu=>?_⟩
     ·obtain ⟨_,_,rfl⟩:=SB.1 hr;rfl
     have fc:b=0:=by omega
     subst fc;simp only [Nat.mul_one,SC,byteCells,To] at hu;rw [To] at hy
     cases hq:s[a]? with
     | none=>rw [hq] at hy;cases hy
     | some q =>
     rw [hq] at hy;simp at hy hu;rw [hq] at hu;simp at hu;subst hy;subst hu;exact .int _ _
    by_cases hs0:s=[]
    ·subst hs0;refine ⟨[],⟨.inr hd,fun _=>rfl,?_,?_,sM,fun u h=>by cases h⟩,.nil _ _ _⟩
     ·simp [Builtin.firstCells]
     simp [Builtin.firstCells]
    have h1:sz=1:=by
     cases s with
     | nil=>exact absurd rfl hs0
     | cons b l=>exact (hsz [.int .u8 b.toNat] sM).symm
    subst h1;rw [aa];exact ⟨byteCells ⟨s.toArray⟩,Src.ofString w hd _,ey 1 rfl⟩
   cases hm
  cases hm
 ·rename_i e' hk
  obtain ⟨i,d,z,hi,hd,hs,dm,aw,hz,cx,_⟩:=(hT.get (t:=tx) (by rw [hk];simp)).ex;rw [hk] at aw;cases aw;split at hm
  ·rename_i rows bh
   cases hm
   have hD:=Wi bh hx;generalize hg:D.sl more=dd at hD
   cases hD with
   | slnil=>cases hg;exact ⟨[],Src.ofNil w hd 0,.nil _ _ _⟩
   | slz ad=>cases hg;exact ⟨[],Src.ofSlice w hd ad 0 0 [] sM (fun j u hj=>by cases hj) (fun u h=>by cases h),.nil _ _ _⟩
   | sl rows b off cap sz' u hcap ia hc ho hu =>
    cases hg
    obtain ⟨xs,h1,h2,h3,h4⟩:=ZDm hsz ay (DRel.sl more b off cap sz' u hcap ia hc ho hu);exact ⟨xs,Src.ofSlice w hd ⟨b,off,none⟩ more.length cap xs h1.len (fun j u hj=>by rw [ZR];exact h2 j u hj) h4,h1⟩
   | _=>cases hg
  cases hm
 cases hm
theorem YA (t:Nat):∀(l:List Nat),ZdU t l=true↔t∈l
 | []=>by simp [ZdU]
 | x::l=>by
  unfold ZdU
  split
  ·rename_i h;have:=Ti h;simp [this]
  rename_i h
  rw [YA t l];have:x≠t:=fun h'=>by subst h';simp at h
  simp [Ne.symm this]
theorem WJ (t x:Nat):∀(l:List Nat),x∈UV t l↔x∈l/\x≠t
 | []=>by simp [UV]
 | y::l=>by
  unfold UV
  split
  ·rename_i h
   have:=Ti h;subst this;rw [WJ y x l]
   constructor
   ·exact fun h=>⟨Tu _ h.1,h.2⟩
   rintro ⟨h1,h2⟩
   rcases Tr.1 h1 with h | h
   ·exact absurd h h2
   exact ⟨h,h2⟩
  rename_i h
  have ao:y≠t:=fun h'=>by subst h';simp at h
  rw [Tr,Tr,WJ t x l]
  constructor
  ·rintro (rfl | h)
   ·exact ⟨.inl rfl,ao⟩
   exact ⟨.inr h.1,h.2⟩
  rintro ⟨rfl | h1,h2⟩
  ·exact .inl rfl
  exact .inr ⟨h1,h2⟩
def Env.own (e:Env) (t:Nat) (p:Option (Nat×Nat)):Env:={ e with M:=fun i=>if i=t then p else e.M i }
theorem Zew (hT:TabOK T G.P) (hS:SRel G e σ w) {t tx el ty:Nat} (ld:(T.get t).kind=.slice el) (cz:(T.get el).kind≠.other) (ay:0<(T.get el).size)
  {rows more:List (List D)} {v vx:Value} {news:List Value} (hD:DRel (okc e σ) w (.sl rows) v)
  (lr:∀r∈rows,r.length=(T.get el).size)
  (hO : (v = .slice none 0 0 /\ rows = []) \/ ∃ b off cap cs ty fz, v = .slice (some ⟨b, off, none⟩) rows.length cap /\ G.nG <= b /\ rows.length <= cap /\ w.heap[b]? = some (.cells cs ty fz) /\ (off + cap * (T.get el).size <= cs.size /\ off = 0 /\ ty = el /\ 0 < cap) /\
     (fz.1<=fz.2/\∀o,off+rows.length * (T.get el).size<=o->fz.1<=o->fz.2<=o)/\(∀i,i<σ.bx.length->e.β i≠b))
  (jp:Src G.P (T.get el).size tx vx more.length news w) (dt:Flat (okc e σ) w more (T.get el).size news)
  (iw:(rows.length+more.length) * (T.get el).bytes<=2 ^ 47) (aa:rows.length+more.length<=2 ^ 47) :
  ∃v' w1,(Builtin.append_ #[t,tx] ty #[v,vx]).run G.P w=.ok v' w1/\w1.os=w.os/\w1.tape=w.tape/\w1.output=w.output/\w.heap.size<=w1.heap.size /\
   (∀b off u,w.cell? ⟨b,off,none⟩=some u->okc e σ b off->w1.cell? ⟨b,off,none⟩=some u\/∃a o c,v=.slice (some ⟨a,o,none⟩) rows.length c/\b=a/\o+rows.length * (T.get el).size<=off) /\
   (∀b,b<w.heap.size->(∀a o c,v=.slice (some ⟨a,o,none⟩) rows.length c->b≠a)->w1.heap[b]?=w.heap[b]?) /\
   ((v'=.slice none 0 0/\rows++more=[])\/∃b off cap cs ty fz,v'=.slice (some ⟨b,off,none⟩) (rows++more).length cap/\G.nG<=b/\(rows++more).length<=cap/\w1.heap[b]?=some (.cells cs ty fz)/\(off+cap * (T.get el).size<=cs.size/\off=0/\ty=el/\0<cap) /\
    (fz.1<=fz.2/\∀o,off+rows.length * (T.get el).size<=o->fz.1<=o->fz.2<=o) /\
    ((∃c,v=.slice (some ⟨b,off,none⟩) rows.length c)\/w.heap.size<=b) /\
    ∃xs,Flat (okc e σ) w (rows++more) (T.get el).size xs/\∀(k:Nat) (u:Value),xs[k]?=some u->w1.cell? ⟨b,off+k,none⟩=some u):=by
 obtain ⟨ti,td,tz,l8,rl,_,_,aw,_,_,_⟩:=(hT.get (t:=t) (by rw [ld];simp)).ex;rw [ld] at aw;cases aw;obtain ⟨i,d,z,hi,hd,hs,dm,bm,hz,cx,ka,_⟩:=(hT.get cz).ex;have tv:z.cells.size=(T.get el).size:=by
  have:=(XF (G:=G) (e:=e) (σ:=σ) (w:=w) cx).1;rw [<- ka,<- this];simp
 rw [<- hs] at jp;have hsm:((rows.length+more.length:Nat):Int)<=9223372036854775807:=oM;have gz:(rows.length+more.length) * i.bytes<=140737488355328:=by rw [dm];omega
 have grow:∀(base:Option Addr) (cap:Nat) (olds:List Value),(Builtin.firstCells i.size rows.length (.slice base rows.length cap)).run G.P w.drew=.ok olds.toArray w.drew->Flat (okc e σ) w rows (T.get el).size olds->cap<rows.length+more.length ->
   ∃v' w1,(Builtin.append_ #[t,tx] ty #[.slice base rows.length cap,vx]).run G.P w=.ok v' w1/\Grows w w1 /\
    ∃b off cap cs ty fz,v'=.slice (some ⟨b,off,none⟩) (rows++more).length cap/\G.nG<=b/\(rows++more).length<=cap/\w1.heap[b]?=some (.cells cs ty fz)/\(off+cap * (T.get el).size<=cs.size/\off=0/\ty=el/\0<cap) /\
     (fz.1<=fz.2/\∀o,off+rows.length * (T.get el).size<=o->fz.1<=o->fz.2<=o)/\w.heap.size<=b /\
     ∃xs,Flat (okc e σ) w (rows++more) (T.get el).size xs/\∀(k:Nat) (u:Value),xs[k]?=some u->w1.cell? ⟨b,off+k,none⟩=some u:=by
  intro base cap olds ox ey ai
  have hr:=run_append_grow_src w t tx ty el i z rl hi hz base rows.length cap olds ox vx more.length news jp ai hsm (growslice_fits ai gz);refine ⟨_,_,hr,(Grows.drew w).trans (Grows.alloc _ _),w.heap.size,0,grownCap w (rows.length+more.length) cap el,_,el,(0,0),by rw [Tb],hS.big,by rw [Tb];exact grownCap_ge w _ _ _,heap_alloc_new w.drew _,⟨?_,rfl,rfl,by have:=grownCap_ge w (rows.length+more.length) cap el;omega⟩,⟨Tq _,fun o _ _=>T6 _⟩,Tq _,olds++news,ey.append dt,fun k u hk=>?_⟩
  ·have kg:=grownCap_ge w (rows.length+more.length) cap el;simp only [Array.size_append,List.size_toArray,Tb,size_zeroCells,tv,ey.len,dt.len,T5,<- Si];exact TZ _ oM
  have h1:k<(olds++news).length:=(Th.1 hk).1;simp only [T5,World.cell?];rw [show (w.drew.alloc _).heap[w.heap.size]?=_ from heap_alloc_new w.drew _];simp only [Option.isSome_none,Tp,if_false];rw [Array.getElem?_append_left (by simpa using h1)];simpa using hk
 rcases hO with ⟨rfl,rfl⟩ | ⟨b,off,cap,cs,tyb,fz,rfl,hb,hc,hh,dj,ji,pu⟩
 ·by_cases hm:more.length=0
  ·have hmn:more=[]:=TY hm;subst hmn;have du:news=[]:=TY (by rw [dt.len];simp);subst du;exact ⟨_,w,run_append_nothing w t tx ty el i rl hi none 0 0 (Tq _) vx jp,rfl,rfl,rfl,Tq _,fun _ _ _ h _=>.inl h,fun _ _ _=>rfl,.inl ⟨rfl,rfl⟩⟩
  obtain ⟨v',w1,hr,hg,b,off,cap,cs,ty',fz,h1,h2,h3,h4,h5,h6,h7,h8⟩:=grow none 0 [] (run_firstCells_none w.drew i.size 0 0 0) (.nil _ _ _) sO;exact ⟨v',w1,hr,hg.os,hg.tape,hg.output,hg.size,fun b' o' u hu _=>.inl ((hg.cell (Vu hu)).trans hu),fun b' iz _=>hg.old b' iz,.inr ⟨b,off,cap,cs,ty',fz,h1,h2,h3,h4,h5,h6,.inr h7,h8⟩⟩
 obtain ⟨olds,av,aj,bq,fu⟩:=ZDm lr ay hD
 by_cases jq:rows.length+more.length<=cap
 ·have mo:rows.length * (T.get el).size+news.length<=cap * (T.get el).size:=by
   rw [dt.len,<- Si];exact TZ _ jq
  have be:∀k,k<cs.size->(w.cell? ⟨b,k,none⟩).isSome=true:=fun k hk=>by simp [World.cell?,hh,hk]
  have hr:=run_append_room_src w t tx ty el i rl hi b off rows.length cap vx more.length news jp jq (fun j hj=>be _ (by have:=dj.1;rw [hs];omega)) (fun j hj=>by
   simp only [World.frozen?,hh];have h1:=ji.2 (off+rows.length * i.size+j) (by rw [hs];omega)
   by_cases h2:fz.1<=off+rows.length * i.size+j
   ·have:=h1 h2;simp;intro _;omega
   simp;omega)
  rw [hs] at hr;obtain ⟨r1,r2,r3,r4⟩:=YK b news (off+rows.length * (T.get el).size) w;obtain ⟨cs',q1,q2,q3⟩:=Y6 b news (off+rows.length * (T.get el).size) w cs tyb fz hh;refine ⟨_,_,hr,r1,r2,r3,by rw [Xz];exact Tq _,fun b' o' u hu ho=>?_,fun b' iz hn=>r4 b' (hn b off cap rfl),.inr ⟨b,off,cap,cs',tyb,fz,by rw [Tb],hb,by rw [Tb];exact jq,q1,⟨by rw [q2];exact dj.1,dj.2.1,dj.2.2.1,dj.2.2.2⟩,ji,.inl ⟨cap,rfl⟩,olds++news,av.append dt,fun k u hk=>?_⟩⟩
  ·by_cases kh:b'=b
   ·subst kh
    by_cases zh:off+rows.length * (T.get el).size<=o'
    ·exact .inr ⟨b',off,cap,rfl,rfl,zh⟩
    left
    rw [World.cell?_setCells_out b' news _ w ⟨b',o',none⟩ (fun _ _=>.inl (by show o'<_;omega))];exact hu
   left;simpa [World.cell?,r4 b' kh] using hu
  by_cases d7:k<olds.length
  ·rw [TG d7] at hk;rw [World.cell?_setCells_out b news _ w ⟨b,off+k,none⟩ (fun _ _=>.inl (by show off+k<_;rw [<- av.len];omega))];exact aj k u hk
  rw [TS oM] at hk;have t7:=(Th.1 hk).1;have:=World.cell?_setCells_in b news (off+rows.length * (T.get el).size) w (fun j hj=>be _ (by have:=dj.1;omega)) (k - olds.length) t7;exact m126
 obtain ⟨v',w1,hr,hg,b2,off2,cap2,cs2,ty2,fz2,h1,h2,h3,h4,h5,h6,h7,h8⟩:=grow (some ⟨b,off,none⟩) cap olds (run_firstCells_some w.drew i.size rows.length ⟨b,off,none⟩ rows.length cap olds (by rw [av.len,hs]) (fun j u hj=>by rw [ZR];exact aj j u hj)) av oM;exact ⟨v',w1,hr,hg.os,hg.tape,hg.output,hg.size,fun b' o' u hu _=>.inl ((hg.cell (Vu hu)).trans hu),fun b' iz _=>hg.old b' iz,.inr ⟨b2,off2,cap2,cs2,ty2,fz2,h1,h2,h3,h4,h5,h6,.inr h7,h8⟩⟩
theorem UB (hT:TabOK T G.P) (hS:SRel G e σ w) {el:Nat} (cz:(T.get el).kind≠.other) (ay:0<(T.get el).size)
  {rows more:List (List D)} {v v':Value} {w1:World} (hD:DRel (okc e σ) w (.sl rows) v) (tk0:List Nat) (bv:∀x,x∈tk0->x∈σ.tk) (lr:∀r∈rows,r.length=(T.get el).size) (hw:∀r∈more,r.length=(T.get el).size)
  (ff:∀a o c,v=.slice (some ⟨a,o,none⟩) rows.length c->∃tok,tok∈σ.tk/\tok∉tk0/\e.M tok=some (a,o+rows.length * (T.get el).size))
  (oy:w1.os=w.os) (jr:w1.tape=w.tape) (i5:w1.output=w.output) (ct:w.heap.size<=w1.heap.size)
  (be:∀b off u,w.cell? ⟨b,off,none⟩=some u->okc e σ b off->w1.cell? ⟨b,off,none⟩=some u\/∃a o c,v=.slice (some ⟨a,o,none⟩) rows.length c/\b=a/\o+rows.length * (T.get el).size<=off)
  (f6:∀b,b<w.heap.size->(∀a o c,v=.slice (some ⟨a,o,none⟩) rows.length c->b≠a)->w1.heap[b]?=w.heap[b]?)
  (i6:(v'=.slice none 0 0/\rows++more=[])\/∃b off cap cs ty fz,v'=.slice (some ⟨b,off,none⟩) (rows++more).length cap/\G.nG<=b/\(rows++more).length<=cap/\w1.heap[b]?=some (.cells cs ty fz)/\(off+cap * (T.get el).size<=cs.size/\off=0/\ty=el/\0<cap) /\
    (fz.1<=fz.2/\∀o,off+rows.length * (T.get el).size<=o->fz.1<=o->fz.2<=o) /\
    ((∃c,v=.slice (some ⟨b,off,none⟩) rows.length c)\/w.heap.size<=b) /\
    ∃xs,Flat (okc e σ) w (rows++more) (T.get el).size xs/\∀(k:Nat) (u:Value),xs[k]?=some u->w1.cell? ⟨b,off+k,none⟩=some u) :
  ∃e1,Stepped e σ w e1 { σ with tk:=σ.nx::tk0,nx:=σ.nx+1 } w1/\SRel G e1 { σ with tk:=σ.nx::tk0,nx:=σ.nx+1 } w1 /\
   VRel G e1 { σ with tk:=σ.nx::tk0,nx:=σ.nx+1 } w1 (.sl σ.nx el (rows++more)) v':=by
 obtain ⟨i,d,z,hi,hd,hs,dm,bm,hz,cx,ka,_⟩:=(hT.get cz).ex;have ef:∀b off u,w.cell? ⟨b,off,none⟩=some u->okc e σ b off->w1.cell? ⟨b,off,none⟩=some u:=fun b off u hu ho=>by
  rcases be b off u hu ho with h | ⟨a,o,c,hv,rfl,aq⟩
  ·exact h
  obtain ⟨tok,f3,_,im⟩:=ff _ o c hv;have:=ho.2.2 tok f3 _ im rfl;simp only at this;omega
 have js:∀b,b<w.heap.size->(∀t,t∈σ.tk->t∉tk0->∀p,e.M t=some p->p.1≠b)->w1.heap[b]?=w.heap[b]?:=fun b hb hn=>f6 b hb fun a o c hv h=>by
  obtain ⟨tok,f3,l9,im⟩:=ff a o c hv;exact hn tok f3 l9 _ im h.symm
 obtain ⟨p,hp,lu,hpn⟩:∃p:Option (Nat×Nat),(p=none\/∃b k,p=some (b,k)/\G.nG<=b/\(∃cs ty fz,w1.heap[b]?=some (.cells cs ty fz))/\((∃a o c,v=.slice (some ⟨a,o,none⟩) rows.length c/\a=b/\o+rows.length * (T.get el).size<=k)\/w.heap.size<=b)) /\
   (∀e1:Env,e1.M σ.nx=p->Owned G e1 w1 σ.nx el (rows++more) v') /\
   (∀b k,p=some (b,k)->True):=by
  rcases i6 with ⟨rfl,eu⟩ | ⟨b,off,cap,cs,tyb,fz,rfl,hb,hc,hh,dj,ji,io,xg⟩
  ·refine ⟨none,.inl rfl,fun e1 he=>.inl ⟨rfl,eu,he⟩,fun _ _ _=>trivial⟩
  refine ⟨some (b,off+(rows++more).length * (T.get el).size),.inr ⟨b,_,rfl,hb,⟨cs,tyb,fz,hh⟩,?_⟩,fun e1 he=>.inr ⟨i.size,by rw [hi];rfl,oM,fun r hr=>?_,b,off,cap,cs,tyb,fz,rfl,hb,hc,hh,by rw [hs];exact dj,⟨ji.1,fun o ho=>ji.2 o (by rw [hs] at ho;rw [Tb,Si] at ho;omega)⟩,by rw [hs];exact he⟩,fun _ _ _=>trivial⟩
  ·rcases io with ⟨c,hv⟩ | h
   ·refine .inl ⟨b,off,c,hv,rfl,?_⟩;rw [Tb,Si];omega
   exact .inr h
  rw [hs];rcases TN.1 hr with h | h
  ·exact lr r h
  exact hw r h
 have lf:∀x,x∈tk0->(e.own σ.nx p).M x=e.M x:=fun x hx=>by
  have:=hS.tkn x (bv x hx);simp only [Env.own];rw [Tg oM]
 have n6:(e.own σ.nx p).M σ.nx=p:=by simp [Env.own]
 have gj:∀b off,b<w.heap.size->okc e σ b off->okc (e.own σ.nx p) { σ with tk:=σ.nx::tk0,nx:=σ.nx+1 } b off:=fun b off hb ho=>by
  refine ⟨ho.1,ho.2.1,fun x hx q hq rm=>?_⟩;rcases Tr.1 hx with rfl | hx
  ·rw [n6] at hq;rcases hp with h | ⟨b2,k,h,_,_,io⟩
   ·rw [h] at hq;cases hq
   rw [h] at hq;cases hq;simp only at rm;subst rm;rcases io with ⟨a,o,c,hv,rfl,aq⟩ | kg
   ·obtain ⟨tok,f3,_,im⟩:=ff _ o c hv;have:=ho.2.2 tok f3 _ im rfl;simp only at this |-;omega
   omega
  rw [lf x hx] at hq;exact ho.2.2 x (bv x hx) q hq rm
 have hst:Stepped e σ w (e.own σ.nx p) { σ with tk:=σ.nx::tk0,nx:=σ.nx+1 } w1:={
  len:=Tq _
  beta:=fun _ _=>rfl
  X:=rfl
  pres:=fun b off u hu ho=>⟨gj b off (Vu hu) ho,ef b off u hu ho⟩
  blocks:=fun b hb _ hn=>js b hb fun t ht _ q hq=>hn t ht q hq
  size:=ct
  os:=oy
  tape:=jr
  output:=i5
  fresh:=fun i h1 h2=>by simp only at h2;omega
  ftok:=fun x hx q hq=>by
   rcases Tr.1 hx with rfl | h
   ·rw [n6] at hq;rcases hp with h | ⟨b2,k,h,_,_,io⟩
    ·rw [h] at hq;cases hq
    rw [h] at hq;cases hq;rcases io with ⟨a,o,c,hv,rfl,_⟩ | kg
    ·obtain ⟨tok,f3,_,im⟩:=ff _ o c hv;exact .inr ⟨tok,f3,_,im,rfl⟩
    exact .inl kg
   rw [lf x h] at hq;exact .inr ⟨x,bv x h,q,hq,rfl⟩
  nx:=by show σ.nx<=σ.nx+1;omega
  toks:=fun x hx hm=>by
   rcases Tr.1 hm with rfl | h
   ·omega
   exact ⟨bv x h,lf x h⟩
  own:=fun x hx hm q hq ai=>by
   rcases Tr.1 hm with rfl | h
   ·omega
   refine js _ ai fun t f3 l9 r hr=>?_
   exact hS.dis t x f3 (bv x h) (fun h'=>l9 (h' ▸ h)) r q hr hq }
 have lv:∀b k,p=some (b,k)->G.nG<=b/\(∀i,i<σ.bx.length->e.β i≠b)/\(∀x,x∈tk0->∀q,e.M x=some q->q.1≠b)/\(∀off,k<=off->¬e.X b off)/\∃cs ty fz,w1.heap[b]?=some (.cells cs ty fz):=fun b k ki=>by
  rcases hp with h | ⟨b2,k2,h,hb,dj,io⟩
  ·rw [h] at ki;cases ki
  rw [h] at ki;cases ki;refine ⟨hb,fun j hj h'=>?_,fun x hx q hq h'=>?_,fun off ho hX=>?_,dj⟩
  ·rcases io with ⟨a,o,c,hv,rfl,aq⟩ | kg
   ·obtain ⟨tok,f3,_,im⟩:=ff _ o c hv;exact (hS.own tok f3 _ im).2.1 j hj h'
   have:=hS.lt hj;omega
  ·rcases io with ⟨a,o,c,hv,rfl,aq⟩ | kg
   ·obtain ⟨tok,f3,l9,im⟩:=ff _ o c hv;exact hS.dis tok x f3 (bv x hx) (fun h2=>l9 (h2 ▸ hx)) _ q im hq h'.symm
   obtain ⟨_,_,cs,tyy,fz,hh⟩:=hS.own x (bv x hx) q hq;have:=(Tn.1 hh).1;omega
  rcases io with ⟨a,o,c,hv,rfl,aq⟩ | kg
  ·obtain ⟨tok,f3,_,im⟩:=ff _ o c hv;exact hS.xown tok f3 _ im off (by simp only;omega) hX
  have:=hS.xlt _ _ hX;omega
 refine ⟨e.own σ.nx p,hst,?_,?_⟩
 ·exact {
   inj:=hS.inj
   box:=fun k y hy=>by
    have hk:=(Th.1 hy).1;exact (hS.box k y hy).step hst (js _ (hS.lt hk) fun t ht _ q hq h=>(hS.own t ht q hq).2.1 k hk h.symm)
   low:=hS.low
   tkn:=fun x hx=>by
    rcases Tr.1 hx with rfl | h
    ·show σ.nx<σ.nx+1;omega
    have:=hS.tkn x (bv x h);show x<σ.nx+1;omega
   own:=fun x hx q hq=>by
    rcases Tr.1 hx with rfl | h
    ·rw [n6] at hq;obtain ⟨h1,h2,_,_,h3⟩:=lv q.1 q.2 hq;exact ⟨h1,h2,h3⟩
    rw [lf x h] at hq;obtain ⟨h1,h2,cs,tyy,fz,hh⟩:=hS.own x (bv x h) q hq;refine ⟨h1,h2,cs,tyy,fz,(js _ (Tn.1 hh).1 fun t f3 l9 r hr=>?_).trans hh⟩;exact hS.dis t x f3 (bv x h) (fun h'=>l9 (h' ▸ h)) r q hr hq
   dis:=fun x y hx hy hxy q r hq hr=>by
    rcases Tr.1 hx with rfl | h1 <;> rcases Tr.1 hy with rfl | h2
    ·exact absurd rfl hxy
    ·rw [n6] at hq;rw [lf y h2] at hr;exact fun h=>(lv q.1 q.2 hq).2.2.1 y h2 r hr h.symm
    ·rw [n6] at hr;rw [lf x h1] at hq;exact fun h=>(lv r.1 r.2 hr).2.2.1 x h1 q hq h
    rw [lf x h1] at hq;rw [lf y h2] at hr;exact hS.dis x y (bv x h1) (bv y h2) hxy q r hq hr
   xlt:=fun b off hX=>TD (hS.xlt b off hX) ct
   xown:=fun x hx q hq off ho=>by
    rcases Tr.1 hx with rfl | h
    ·rw [n6] at hq;exact (lv q.1 q.2 hq).2.2.2.1 off ho
    rw [lf x h] at hq;exact hS.xown x (bv x h) q hq off ho
   glob:=fun b hb=>(js b (TD hb hS.big) fun t ht _ q hq h=>by have:=(hS.own t ht q hq).1;omega).trans (hS.glob b hb)
   big:=T1 hS.big ct }
 refine .sl _ _ _ _ (by show σ.nx<σ.nx+1;omega) ?_ (fun _=>lu _ n6);rcases i6 with ⟨rfl,eu⟩ | ⟨b,off,cap,cs,tyb,fz,rfl,hb,hc,hh,dj,ji,io,xs,uy,zi⟩
 ·rw [eu];exact .slnil
 have ey:Flat (okc (e.own σ.nx p) { σ with tk:=σ.nx::tk0,nx:=σ.nx+1 }) w1 (rows++more) (T.get el).size xs:=uy.mono fun y u h=>h.later hst.toLater
 refine ey.to_sl b off cap hc zi fun k hk=>?_
 have zj:=lu (e.own σ.nx p) n6;rcases zj with ⟨h1,_⟩ | ⟨sz,gk,n7,hq3,b',off',cap',cs',ty',fz',h1,_,_,_,_,_,oz⟩
 ·cases h1
 cases h1
 rw [n6] at oz;rw [hi] at gk;simp only [Sk,Option.some.injEq] at gk;subst gk;obtain ⟨g1,g2,g3,g4,g5⟩:=lv _ _ oz;rw [uy.len] at hk;refine ⟨fun hX=>?_,g2,fun x hx q hq rm=>?_⟩
 ·rcases io with ⟨c,hv⟩ | kg
  ·obtain ⟨tok,f3,_,im⟩:=ff _ off c hv
   by_cases ik:k<rows.length * (T.get el).size
   ·subst hv;obtain ⟨olds,av,aj,bq,fu⟩:=ZDm lr ay hD;exact (bq k (by rw [av.len];exact ik)).1 hX
   exact hS.xown tok f3 _ im (off+k) (by simp only;omega) hX
  have:=hS.xlt _ _ hX;omega
 rcases Tr.1 hx with rfl | h
 ·rw [n6,oz] at hq;cases hq;simp only;rw [hs];omega
 rw [lf x h] at hq;exact absurd rm (g3 x h q hq)
theorem Jj (hT:TabOK T G.P) (hS:SRel G e σ w) {el:Nat} (cz:(T.get el).kind≠.other) {rows:List (List D)} {v:Value} (tk0:List Nat)
  (hO:(v=.slice none 0 0/\rows=[])\/∃tok,tok∈σ.tk/\tok∉tk0/\Owned G e w tok el rows v) :
  ((v = .slice none 0 0 /\ rows = []) \/ ∃ b off cap cs ty fz, v = .slice (some ⟨b, off, none⟩) rows.length cap /\ G.nG <= b /\ rows.length <= cap /\ w.heap[b]? = some (.cells cs ty fz) /\ (off + cap * (T.get el).size <= cs.size /\ off = 0 /\ ty = el /\ 0 < cap) /\
     (fz.1<=fz.2/\∀o,off+rows.length * (T.get el).size<=o->fz.1<=o->fz.2<=o)/\(∀i,i<σ.bx.length->e.β i≠b))/\(∀r∈rows,r.length=(T.get el).size) /\
     (∀a o c,v=.slice (some ⟨a,o,none⟩) rows.length c->∃tok,tok∈σ.tk/\tok∉tk0/\e.M tok=some (a,o+rows.length * (T.get el).size)):=by
 obtain ⟨i,d,z,hi,hd,hs,dm,bm,hz,cx,ka,_⟩:=(hT.get cz).ex;rcases hO with ⟨rfl,rfl⟩ | ⟨tok,f3,l9,⟨rfl,rfl,_⟩ | ⟨sz,h1,h2,h3,b,off,cap,cs,tyb,fz,rfl,hb,hc,hh,dj,ji,im⟩⟩
 ·exact ⟨.inl ⟨rfl,rfl⟩,fun r h=>(by cases h),fun a o c h=>by simp at h⟩
 ·exact ⟨.inl ⟨rfl,rfl⟩,fun r h=>(by cases h),fun a o c h=>by simp at h⟩
 rw [hi] at h1;simp only [Sk,Option.some.injEq] at h1;subst h1;rw [hs] at h3 dj ji im;exact ⟨.inr ⟨b,off,cap,cs,tyb,fz,rfl,hb,hc,hh,dj,ji,(hS.own tok f3 _ im).2.1⟩,h3,fun a o c hv=>by cases hv;exact ⟨tok,f3,l9,im⟩⟩
theorem Zex (hT:TabOK T G.P) (hS:SRel G e σ w) {t tx el ty:Nat} (ld:(T.get t).kind=.slice el) (cz:(T.get el).kind≠.other) (ay:0<(T.get el).size)
  {rows more:List (List D)} {v vx:Value} {px:PV} (hD:DRel (okc e σ) w (.sl rows) v) (tk0:List Nat) (bv:∀x,x∈tk0->x∈σ.tk)
  (hO:(v=.slice none 0 0/\rows=[])\/∃tok,tok∈σ.tk/\tok∉tk0/\Owned G e w tok el rows v)
  (hm:X2 T tx el px=some more) (hx:VRel G e σ w px vx) (hw:∀r∈more,r.length=(T.get el).size)
  (iw:(rows.length+more.length) * (T.get el).bytes<=2 ^ 47) (aa:rows.length+more.length<=2 ^ 47) :
  ∃v' w1 e1,(Builtin.append_ #[t,tx] ty #[v,vx]).run G.P w=.ok v' w1/\Stepped e σ w e1 { σ with tk:=σ.nx::tk0,nx:=σ.nx+1 } w1/\SRel G e1 { σ with tk:=σ.nx::tk0,nx:=σ.nx+1 } w1 /\
   VRel G e1 { σ with tk:=σ.nx::tk0,nx:=σ.nx+1 } w1 (.sl σ.nx el (rows++more)) v':=by
 obtain ⟨i,d,z,hi,hd,hs,dm,bm,hz,cx,ka,_⟩:=(hT.get cz).ex;obtain ⟨news,jp,dt⟩:=ZtE hT hm hx hw ay rfl;obtain ⟨uz,lr,ff⟩:=Jj hT hS cz tk0 hO;obtain ⟨v',w1,ah,oy,jr,i5,ct,be,f6,i6⟩:=Zew (ty:=ty) hT hS ld cz ay hD lr uz jp dt iw aa;obtain ⟨e1,h1,h2,h3⟩:=UB hT hS cz ay hD tk0 bv lr hw ff oy jr i5 ct be f6 i6;exact ⟨v',w1,e1,ah,h1,h2,h3⟩
theorem UC {ok:Nat->Nat->Prop}:∀{l:List PV} {r:List D},ZlC l=some r->r.length=l.length/\∀(i:Nat) (x:PV) (y:D),l[i]?=some x->r[i]?=some y->toD x=some y
 | [],r,h=>by cases h;exact ⟨rfl,fun i x y hx=>by simp at hx⟩
 | v::l,r,h=>by
  simp only [ZlC] at h;split at h
  ·rename_i d hd
   split at h
   ·rename_i r' hr
    cases h
    obtain ⟨h1,h2⟩:=UC (ok:=ok) hr;refine ⟨by simp [h1],fun i x y hx hy=>?_⟩
    cases i with
    | zero=>simp at hx hy;subst hx;subst hy;exact hd
    | succ i=>exact h2 i x y (by simpa using hx) (by simpa using hy)
   cases h
  cases h
theorem ZgW {ρ:Operand->PV} {ρ':Operand->Value} (hρ:∀x,VRel G e σ w (ρ x) (ρ' x)) {sz:Nat} (ay:0<sz) :
  ∀(ps:List (Nat×Operand)) (rows rows':List (List D)) (vs:Array Value),Flat (okc e σ) w rows sz vs.toList->(∀u∈vs,u.oneCell'=true)->X1 sz ρ ps rows=some rows' ->
   ∃vs':Array Value,Instr.fill (fun i=>some (i * sz,sz)) vs (ps.map fun p=>(p.1,ρ' p.2))=some vs'/\Flat (okc e σ) w rows' sz vs'.toList/\rows'.length=rows.length/\(∀u∈vs',u.oneCell'=true)
 | [],rows,rows',vs,hf,h1,h=>by cases h;exact ⟨vs,rfl,hf,rfl,h1⟩
 | (i,x)::ps,rows,rows',vs,hf,h1,h=>by
  simp only [X1] at h;split at h
  ·rename_i r hr
   split at h
   ·rename_i aa ai
    have e1:=Ti aa;have e2:=Ta ai;unfold ZgK at hr
    split at hr
    ·rename_i l hl
     obtain ⟨cy,cu⟩:=W7 (hρ x) hl;obtain ⟨dq,ca⟩:=UC (ok:=okc e σ) hr;have bz:vs.size=rows.length * sz:=by have:=hf.len;simpa using this
     have hsz:(ρ' x).cells.size=sz:=by rw [cy,<- dq,e1]
     have pn:i * sz+sz<=rows.length * sz:=by
      calc i * sz+sz=(i+1) * sz:=by rw [Si,Nat.one_mul]
       _<=rows.length * sz:=TZ _ e2
     simp only [TC,Instr.fill];rw [Tg (by rw [hsz,bz];simp;omega)];rw [Znp];have cf:∀k,((((ρ' x).cells.toList.zipIdx 0).foldl (fun cs (p:Value×Nat)=>cs.setIfInBounds (i * sz+p.2) p.1) vs))[k]?=if i * sz<=k/\k<i * sz+sz then (ρ' x).cells[k - i * sz]? else vs[k]?:=fun k=>by
      rw [Zcs];simp only [SC,T4,hsz,Tt]
      by_cases hk:i * sz<=k/\k<i * sz+sz
      ·rw [Tj hk,Tj ⟨hk.1,hk.2,oM⟩]
      rw [Tg hk,Tg oM]
     have ct:((((ρ' x).cells.toList.zipIdx 0).foldl (fun cs (p:Value×Nat)=>cs.setIfInBounds (i * sz+p.2) p.1) vs)).size=vs.size:=Zbm vs (i * sz) (ρ' x).cells.toList 0 vs;generalize ((((ρ' x).cells.toList.zipIdx 0).foldl (fun cs (p:Value×Nat)=>cs.setIfInBounds (i * sz+p.2) p.1) vs))=vs2 at cf ct |-;have rn:Flat (okc e σ) w (rows.set i r) sz vs2.toList:=by
      refine ⟨by rw [T4,ct,bz,Sv],fun r' n5=>?_,fun a b y u hb hy hu=>?_⟩
      ·rcases List.mem_or_eq_of_mem_set n5 with h' | rfl
       ·exact hf.wid r' h'
       exact e1
      rw [Tt,cf] at hu
      by_cases zk:a=i
      ·subst zk;rw [Tj ⟨oM,oM⟩,show a * sz+b - a * sz=b by omega] at hu;rw [List.getElem?_set_self oM] at hy;simp only [Option.bind_some] at hy;have cq:b<l.length:=oM;have:=ca b l[b] y (Te cq) hy;exact Wi this (cu b l[b] u (Te cq) hu).1
      rw [List.getElem?_set_ne (Ne.symm zk)] at hy;have ao:¬(i * sz<=a * sz+b/\a * sz+b<i * sz+sz):=fun hh=>by
       rcases Nat.lt_or_gt_of_ne zk with h' | h'
       ·have:(a+1) * sz<=i * sz:=TZ _ h';rw [Si,Nat.one_mul] at this;omega
       have:(i+1) * sz<=a * sz:=TZ _ h';rw [Si,Nat.one_mul] at this;omega
      rw [Tg ao] at hu;exact hf.rel a b y u hb hy (by rw [Tt];exact hu)
     have u7:∀u∈vs2,u.oneCell'=true:=by
      intro u hu
      obtain ⟨k,hk,rfl⟩:=Sx hu;have h3:=cf k;rw [Tx hk] at h3
      by_cases bj:i * sz<=k/\k<i * sz+sz
      ·rw [Tj bj] at h3;have cq:k - i * sz<l.length:=oM;exact (cu (k - i * sz) l[k - i * sz] _ (Te cq) h3.symm).2
      rw [Tg bj] at h3;exact h1 _ (Sa h3.symm)
     obtain ⟨vs',q1,q2,q3,q4⟩:=ZgW hρ ay ps (rows.set i r) rows' vs2 rn u7 h;exact ⟨vs',q1,q2,by rw [q3,Sv],q4⟩
    cases hr
   cases h
  cases h
theorem U0 (hT:TabOK T G.P) {ρ:Operand->PV} {ρ':Operand->Value} (hρ:∀x,VRel G e σ w (ρ x) (ρ' x)) {t n el:Nat} {ps:Array (Nat×Operand)} {zero:List D} {rows:List (List D)}
  (ld:(T.get t).kind=.slice el) (cz:(T.get el).kind≠.other) (em:ZlC (T.get el).zero=some zero) (ay:1<=zero.length) (dc:n * zero.length<=16777216) (bh:Zat zero ρ n ps.toList=some rows) :
  ∃vs',(Instr.buildSlice t n (ps.map fun p=>(p.1,ρ' p.2))).run G.P w=.ok (.slice (some ⟨w.heap.size,0,none⟩) n n) (w.alloc (.cells vs' el))/\Flat (okc e σ) w rows zero.length vs'.toList/\rows.length=n/\zero.length=(T.get el).size:=by
 obtain ⟨ti,td,tz,l8,rl,_,_,aw,_,_,_⟩:=(hT.get (t:=t) (by rw [ld];simp)).ex;rw [ld] at aw;cases aw;obtain ⟨i,d,z,hi,hd,hs,dm,bm,hz,cx,ka,_⟩:=(hT.get cz).ex;obtain ⟨dq,ca⟩:=UC (ok:=okc e σ) em;have o3:i.size=zero.length:=by rw [hs,<- ka,dq]
 obtain ⟨rd,lw⟩:=XF (G:=G) (e:=e) (σ:=σ) (w:=w) cx;have tv:z.cells.size=zero.length:=by rw [dq,<- rd];simp
 have hsz:0<zero.length:=ay;have h0:Flat (okc e σ) w (List.replicate n zero) zero.length ((Array.range (n * zero.length)).map (fun k=>z.cells[k % z.cells.size]!)).toList:=by
  exact m27
 have h01:∀u∈(Array.range (n * zero.length)).map (fun k=>z.cells[k % z.cells.size]!),u.oneCell'=true:=fun u hu=>by
  obtain ⟨k,hk,rfl⟩:=Array.mem_map.1 hu;have hm:k % z.cells.size<z.cells.size:=Nat.mod_lt _ oM;rw [getElem!_pos z.cells _ hm];have cq:k % z.cells.size<(T.get el).zero.length:=oM;exact (lw _ _ _ (Te cq) (by rw [Tt,Tx hm])).2
 obtain ⟨vs',q1,q2,q3,q4⟩:=ZgW hρ hsz ps.toList _ rows _ h0 h01 bh;rw [List.length_replicate] at q3;have ah:(Instr.buildSlice t n (ps.map fun p=>(p.1,ρ' p.2))).run G.P w=.ok (.slice (some ⟨w.heap.size,0,none⟩) n n) (w.alloc (.cells vs' el)):=by
  unfold Instr.buildSlice
  simp only [Sem.run_bind,Za rl,Result.andThen,Zq hi,o3];rw [Tg oM];have rp:(ps.map fun p=>(p.1,ρ' p.2)).toList=ps.toList.map fun p=>(p.1,ρ' p.2):=sM
  split
  ·rename_i zl
   have ez:(Array.range (n * zero.length)).map (fun k=>(#[]:Array Value)[k % (#[]:Array Value).size]!)=(Array.range (n * zero.length)).map (fun k=>z.cells[k % z.cells.size]!):=by
    rw [zl];simp
   simp only [Sem.run_bind,Sem.run_pure,Result.andThen];rw [ez,rp,q1];exact m91
  simp only [Sem.run_bind,Sem.run_pure,Result.andThen,zeroValue,Z4 hi,hz];rw [rp,q1];exact m91
 exact ⟨vs',ah,q2,q3,by rw [<- o3,hs]⟩
theorem ZbT (hT:TabOK T G.P) (hS:SRel G e σ w) {ρ:Operand->PV} {ρ':Operand->Value} (hρ:∀x,VRel G e σ w (ρ x) (ρ' x)) {t n el:Nat} {ps:Array (Nat×Operand)} {zero:List D} {rows:List (List D)}
  (ld:(T.get t).kind=.slice el) (cz:(T.get el).kind≠.other) (em:ZlC (T.get el).zero=some zero) (ay:1<=zero.length) (dc:n * zero.length<=16777216) (bh:Zat zero ρ n ps.toList=some rows) :
  ∃v w1,(Instr.buildSlice t n (ps.map fun p=>(p.1,ρ' p.2))).run G.P w=.ok v w1/\Grows w w1/\DRel (okc e σ) w1 (.sl rows) v:=by
 obtain ⟨vs',ah,q2,aa,_⟩:=U0 (ρ':=ρ') hT hρ ld cz em ay dc bh;refine ⟨_,_,ah,Grows.alloc w _,?_⟩;have hg:=Grows.alloc w (.cells vs' el);have hst:=hg.stepped e σ;have ey:Flat (okc e σ) (w.alloc (.cells vs' el)) rows zero.length vs'.toList:=q2.mono fun y u h=>h.later hst.toLater
 have:=ey.to_sl w.heap.size 0 n oM (fun k u hk=>by
  simp only [World.cell?,T5];rw [heap_alloc_new w (.cells vs' el)];simpa using hk) (fun k hk=>⟨fun hX=>by have:=hS.xlt _ _ hX;omega,fun j hj h=>by have:=hS.lt hj;omega,fun x hx q hq rm=>by
   obtain ⟨_,_,cs,tyy,fz,hh⟩:=hS.own x hx q hq;have:=(Tn.1 hh).1;omega⟩)
 rwa [aa] at this
theorem Zcu (hT:TabOK T G.P) (hS:SRel G e σ w) {t n el:Nat} {zero:List D}
  (ld:(T.get t).kind=.slice el) (cz:(T.get el).kind≠.other) (em:ZlC (T.get el).zero=some zero) (ay:1<=zero.length) (dc:n * zero.length<=16777216) (kh:n * (T.get el).bytes<=16777216) :
  ∃v w1,(Instr.makeSlice t (.int .i64 n) (.int .i64 n)).run G.P w=.ok v w1/\Grows w w1/\DRel (okc e σ) w1 (.sl (List.replicate n zero)) v:=by
 obtain ⟨ti,td,tz,l8,rl,_,_,aw,_,_,_⟩:=(hT.get (t:=t) (by rw [ld];simp)).ex;rw [ld] at aw;cases aw;obtain ⟨i,d,z,hi,hd,hs,dm,bm,hz,cx,ka,_⟩:=(hT.get cz).ex;obtain ⟨dq,ca⟩:=UC (ok:=okc e σ) em;have o3:i.size=zero.length:=by rw [hs,<- ka,dq]
 obtain ⟨rd,lw⟩:=XF (G:=G) (e:=e) (σ:=σ) (w:=w) cx;have tv:z.cells.size=zero.length:=by rw [dq,<- rd];simp
 have hsz:0<zero.length:=ay;have hn:n<=16777216:=T1 (Nat.le_mul_of_pos_right n hsz) dc;obtain ⟨V,hV⟩:∃V,(Array.range (n * zero.length)).map (fun k=>z.cells[k % z.cells.size]!)=V:=⟨_,rfl⟩
 have h0:Flat (okc e σ) w (List.replicate n zero) zero.length V.toList:=by
  rw [<- hV];exact m27
 have hwr:IntKind.i64.wrap (n:Int)=n:=by
  unfold IntKind.wrap
  exact m133
 have mr:(decide ((n:Int)<0) || decide ((i.bytes:Int) * (n:Int)>2 ^ 48))=false:=by
  have:(i.bytes:Int) * (n:Int)=((n * (T.get el).bytes:Nat):Int):=by rw [dm];push_cast;exact Int.mul_comm _ _
  rw [this];simp only [Sc,decide_eq_false_iff_not];exact ⟨oM,oM⟩
 have ah:(Instr.makeSlice t (.int .i64 n) (.int .i64 n)).run G.P w=.ok (.slice (some ⟨w.heap.size,0,none⟩) n n) (w.alloc (.cells V el)):=by
  unfold Instr.makeSlice
  have ha:Sem.run G.P (asIntOf (.int .i64 (n:Int))) w=.ok (.i64,(n:Int)) w:=rfl;have mj:decide ((n:Int)<0)=false:=decide_eq_false oM;have cn:decide ((n:Int)>(n:Int))=false:=decide_eq_false oM;have gl:decide ((i.bytes:Int) * (n:Int)>2 ^ 48)=false:=by
   rw [Sc] at mr;exact mr.2
  have jq:(askRoom (n * i.bytes)).run G.P w=.ok () w:=by
   unfold askRoom
   rw [Tg (by rw [dm];unfold roomBytes;omega)];rfl
  simp only [Sem.run_bind,Za rl,Result.andThen,asInt,Functor.map,Sem.run_pure,Z4 hi,ha,hwr,mj,cn,gl,Sr,Tp,if_false,Tw,jq,Zq hi,o3];split
  ·rename_i zl
   have ez:(Array.range (n * zero.length)).map (fun k=>(#[]:Array Value)[k % (#[]:Array Value).size]!)=V:=by
    rw [<- hV,zl];simp
   simp only [Sem.run_bind,Sem.run_pure,Result.andThen];rw [ez];exact m91
  simp only [Sem.run_bind,Sem.run_pure,Result.andThen,zeroValue,Z4 hi,hz];rw [hV];exact m91
 refine ⟨_,_,ah,Grows.alloc w _,?_⟩;have hg:=Grows.alloc w (.cells V el);have hst:=hg.stepped e σ;have ey:Flat (okc e σ) (w.alloc (.cells V el)) (List.replicate n zero) zero.length V.toList:=h0.mono fun y u h=>h.later hst.toLater
 have:=ey.to_sl w.heap.size 0 n (by rw [List.length_replicate];exact Tq _) (fun k u hk=>by
  simp only [World.cell?,T5];rw [heap_alloc_new w (.cells V el)];simpa using hk) (fun k hk=>⟨fun hX=>by have:=hS.xlt _ _ hX;omega,fun j hj h=>by have:=hS.lt hj;omega,fun x hx q hq rm=>by
   obtain ⟨_,_,cs,tyy,fz,hh⟩:=hS.own x hx q hq;have:=(Tn.1 hh).1;omega⟩)
 rwa [List.length_replicate] at this
theorem ZlK (hT:TabOK T G.P) (hS:SRel G e σ w) {K:PV->St->Prop} {ρ:Operand->PV} {ρ':Operand->Value} (hρ:∀x,VRel G e σ w (ρ x) (ρ' x)) (o:Oper) (h:ZtC T o.op ρ σ K) :
  ∃pv σ1 v w1 e1,K pv σ1/\(execOp ρ' o).run G.P w=.ok (.value v) w1/\Stepped e σ w e1 σ1 w1/\SRel G e1 σ1 w1/\VRel G e1 σ1 w1 pv v:=by
 unfold ZtC at h
 split at h
 ·rename_i t n ps ho
  split at h
  ·rename_i el hk
   split at h
   ·exact h.elim
   rename_i bj
   split at h
   ·rename_i zero em
    split at h
    ·rename_i rows ay dc hn bh
     have hn:=Ta hn;obtain ⟨vs',ah,eg,aa,hzs⟩:=U0 (ρ':=ρ') hT hρ hk (fun h0=>bj h0) em (Ta ay) (Ta dc) bh;rw [hzs] at eg;have bz:vs'.size=n * (T.get el).size:=by have:=eg.len;rw [aa,T4] at this;exact this
     obtain ⟨e1,h1,h2,h3⟩:=UB (more:=rows) (v':=.slice (some ⟨w.heap.size,0,none⟩) n n) (w1:=w.alloc (.cells vs' el)) hT hS (fun h0=>bj h0) (by have:=Ta ay;omega) (.slnil) σ.tk (fun _ h=>h) (fun r hr=>by cases hr) (fun r hr=>eg.wid r hr)
      (fun a o c hv=>by simp at hv) rfl rfl rfl (Grows.alloc w _).size (fun b off u hu _=>.inl (by rw [(Grows.alloc w _).cell (Vu hu)];exact hu)) (fun b hb _=>heap_alloc_old w _ b hb)
      (.inr ⟨w.heap.size,0,n,vs',el,(0,0),by simp [aa],hS.big,by simp [aa],heap_alloc_new w _,⟨oM,rfl,rfl,oM⟩,⟨Tq _,fun o _ _=>sM⟩,.inr (Tq _),vs'.toList,by simpa using eg,fun k u hk=>by
       simp only [World.cell?,T5];rw [heap_alloc_new w (.cells vs' el)];simpa using hk⟩)
     refine ⟨_,_,_,_,e1,h,?_,h1,h2,h3⟩;exact m111
    exact h.elim
   exact h.elim
  exact h.elim
 ·rename_i s d x ho
  have hx:=hρ x;split at h
  ·rename_i el hk
   obtain ⟨i,ds,z,hi,hd,hs,dm,aw,hz,cx,_⟩:=(hT.get (t:=s) (by rw [hk];simp)).ex;rw [hk] at aw;cases aw;split at h
   ·rename_i b off n bj eh mn
    obtain ⟨i2,dd,z2,af,ca,ew,gz,bm,cx,rc,_⟩:=(hT.get (t:=d) (by rw [bj];simp)).ex;rw [bj] at bm;cases bm;obtain ⟨i3,de,z3,hi3,ou,xn,uw,jn,rd,za,_⟩:=(hT.get (t:=el) (by rw [eh];simp)).ex;rw [eh] at jn;cases jn;rw [mn] at hx;split at h
    ·rename_i tb cs fq
     obtain ⟨l,y5,bw,hK⟩:=h;generalize hv:ρ' x=vx at hx
     cases hx with
     | asl _ _ _ hb =>
     refine ⟨_,_,_,_,e,hK,?_,Stepped.refl e σ w,hS,.mkstr⟩;unfold execOp
     simp only [ho,convert,Sem.run_bind,Za hd,Za ca,Result.andThen,hv];simp only [Za ou,Sem.run_bind,Result.andThen,Znq (hS.box b _ fq) bw y5,Sem.run_pure]
    exact h.elim
   exact h.elim
  exact h.elim
 exact h.elim
theorem ZlL (hT:TabOK T G.P) (hS:SRel G e σ w) {K:PV->Prop} {ρ:Operand->PV} {ρ':Operand->Value} (hρ:∀x,VRel G e σ w (ρ x) (ρ' x)) (o:Oper) (h:Zfr T o.op o.type ρ σ.bx K) :
  ∃pv v w1,K pv/\Grows w w1/\VRel G e σ w1 pv v/\(execOp ρ' o).run G.P w=.ok (.value v) w1:=by
 unfold Zfr at h
 split at h
 ·rename_i x hx
  unfold ZgJ at hx
  split at hx
  ·rename_i s d x' ho
   split at hx
   ·rename_i dz
    split at hx
    ·rename_i el aw
     split at hx
     ·rename_i xq
      cases hx
      obtain ⟨i1,d1,z1,xp,dq,l6,ac9,vb,_⟩:=(hT.get (t:=s) (by rw [dz];simp)).ex;obtain ⟨i2,d2,z2,af,ca,ew,gz,bm,_⟩:=(hT.get (t:=d) (by rw [aw];simp)).ex;obtain ⟨i3,d3,z3,hi3,ou,xn,uw,jn,_⟩:=(hT.get (t:=el) (by rw [xq];simp)).ex;rw [dz] at vb;rw [aw] at bm;rw [xq] at jn;obtain rfl:d1=.string:=vb;obtain rfl:d2=.slice el:=bm;obtain rfl:d3=.int .u8:=jn;have hx:=hρ x;split at h
      ·rename_i l bu
       rw [bu] at hx;have hg:Grows w (Lib.bytesWorld w el ⟨l.toArray⟩):=⟨rfl,rfl,rfl,by rw [Lib.bytesWorld_size];omega,fun b hb=>Lib.bytesWorld_at_old w el _ b hb⟩
       refine ⟨_,.slice (some ⟨w.heap.size,0,none⟩) l.length (grownCap w l.length 0 el),_,h,hg,?_,?_⟩
       ·refine .d _ _ ?_;have:=DRel.sl (ok:=okc e σ) (w:=Lib.bytesWorld w el ⟨l.toArray⟩) (l.map fun b:UInt8=>[D.int .u8 b.toNat]) w.heap.size 0 (grownCap w l.length 0 el) 1 (fun i _=>.int .u8 (l.getD i 0).toNat) ?_ ?_ ?_ ?_ ?_
        ·simpa using this
        ·simp only [Tf];exact grownCap_ge w l.length 0 el
        ·intro r hr;simp only [SB] at hr;obtain ⟨b,_,rfl⟩:=hr;rfl
        ·intro i j hi hj
         simp only [Tf] at hi;have:j=0:=oM;subst this;simp only [T5,Nat.mul_one,SC];have:=Lib.bytesWorld_cell w el ⟨l.toArray⟩ i (show i<l.toArray.size by simpa using hi);simpa using this
        ·intro i j hi hj
         refine ⟨fun hX=>?_,fun k hk=>?_,fun t ht p hp rq=>?_⟩
         ·have:=hS.xlt _ _ hX;omega
         ·have:=hS.lt hk;omega
         obtain ⟨_,_,cs,ty,fz,hh⟩:=hS.own t ht p hp;have:=(Tn.1 hh).1;omega
        intro i j y hy
        rw [To] at hy
        cases dg:l[i]? with
        | none=>rw [dg] at hy;simp at hy
        | some b =>
        rw [dg] at hy
        cases j with
        | zero=>simp at hy;subst hy;simp only [T9,dg,Sm];exact .int _ _
        | succ j=>simp at hy
       unfold execOp
       simp only [ho,hx.dstr];rw [Sem.run_bind,Lib.run_convert_string_bytes w s d el ⟨l.toArray⟩ dq ca ou];rfl
      exact h.elim
     cases hx
    cases hx
   cases hx
  cases hx
 split at h
 ·rename_i t n ps ho
  split at h
  ·rename_i el hk
   split at h
   ·exact h.elim
   rename_i bj
   split at h
   ·rename_i zero em
    split at h
    ·rename_i rows ay dc bh
     obtain ⟨v,w1,ah,hg,hD⟩:=ZbT hT hS hρ hk (fun h0=>bj h0) em (Ta ay) (Ta dc) bh;refine ⟨_,v,w1,h,hg,.d _ _ hD,?_⟩;exact m111
    exact h.elim
   exact h.elim
  exact h.elim
 ·rename_i t l c ho
  split at h
  ·rename_i el hk
   split at h
   ·exact h.elim
   rename_i bj
   split at h
   ·rename_i zero n m em hl hc
    split at h
    ·rename_i hnm ay dc kh
     obtain rfl:=Ti hnm;obtain ⟨v,w1,ah,hg,hD⟩:=Zcu hT hS hk (fun h0=>bj h0) em (Ta ay) (Ta dc) (Ta kh);refine ⟨_,v,w1,h,hg,.d _ _ hD,?_⟩;have e1:ρ' l=.int .i64 (n:Int):=by have:=hρ l;rw [hl] at this;exact this.dint
     have e2:ρ' c=.int .i64 (n:Int):=by have:=hρ c;rw [hc] at this;exact this.dint
     unfold execOp
     simp only [ho,Sem.run_bind,e1,e2];rw [ah];rfl
    exact h.elim
   exact h.elim
  exact h.elim
 obtain ⟨pv,v,h1,h2,h3⟩:=Znr hT hS hρ o h;exact ⟨pv,v,w,h1,Grows.refl w,h2,h3⟩
theorem Zey {P:Program} {r ck ck':Nat} {es es':Array MapEntry} (h:w.heap[r]?=some (.map es ck)):(setObj r (.map es' ck')).run P w=.ok () (w.putObj r (.map es' ck')):=by
 simp only [setObj,Sem.run,h,World.putObj]
theorem MRel.step {e':Env} {σ':St} {w':World} (hs:Stepped e σ w e' σ' w'):∀{cs:List PV} {l:List MapEntry},MRel G e σ w cs l->MRel G e' σ' w' cs l
 | [],[],_=>trivial
 | [],_::_,h=>h.elim
 | .d (.str k)::x::cs,u::l,h=>⟨h.1,h.2.1.step hs,MRel.step hs h.2.2⟩
 | .d (.str _)::_::_,[],h=>h.elim
 | [.d (.str _)],_,h=>by cases h
theorem MRel.push {k:List UInt8} {x:PV} {u:MapEntry} (h1:u.key=.string ⟨k.toArray⟩) (h2:VRel G e σ w x u.val):∀{cs:List PV} {l:List MapEntry},MRel G e σ w cs l->MRel G e σ w (cs++[.d (.str k),x]) (l++[u])
 | [],[],_=>⟨h1,h2,trivial⟩
 | [],_::_,h=>h.elim
 | .d (.str _)::y::cs,v::l,h=>⟨h.1,h.2.1,MRel.push h1 h2 h.2.2⟩
 | .d (.str _)::_::_,[],h=>h.elim
 | [.d (.str _)],_,h=>by cases h
theorem ZrG {px:PV} {x:MV} {v:Value} (h:ZAd px=some x) (hv:VRel G e σ w px v):VRel G e σ w x.pv v:=by
 unfold ZAd at h
 split at h
 ·rename_i cs
  split at h
  ·rename_i l hl
   cases h
   cases hv with
   | agg _ vs h1 h2 h3 =>
   obtain ⟨g1,g2⟩:=UC (ok:=fun _ _=>True) hl;refine .agg _ vs (by rw [h1,Tf,g1]) (fun i y u hy hu=>?_) h3;rw [To] at hy;obtain ⟨d,hd,rfl⟩:=TW.1 hy;have hi:=(Th.1 hd).1;have hc:cs[i]?=some cs[i]:=Te oM;exact .d _ _ (Wi (g2 i _ d hc hd) (h2 i _ u hc hu))
  cases h
 split at h
 ·rename_i y hy
  cases h
  exact .d _ _ (Wi hy hv)
 cases h
theorem Zez {t el kt:TypeId} (hd:G.P.underlying t=some (.map kt el)) (dz:G.P.underlying kt=some .string) {key:List UInt8} {px:PV} {vx:Value} {cs:List PV} {bn:List Nat} {ck b:Nat} (hB:BRel G e σ w (.map cs bn ck) b) (hx:VRel G e σ w px vx) :
  ∃w1,(Instr.mapUpdate t (.map (some b)) (.string ⟨key.toArray⟩) vx).run G.P w=.ok () w1/\(w1.os=w.os/\w1.tape=w.tape/\w1.output=w.output/\w1.heap.size=w.heap.size/\∀k,k≠b->w1.heap[k]?=w.heap[k]?) /\
   ((∃cs',Zm7 key px cs=some cs'/\∀σ1,Stepped e σ w e σ1 w1->BRel G e σ1 w1 (.map cs' bn ck) b)\/(Zm7 key px cs=none/\∀σ1,Stepped e σ w e σ1 w1->BRel G e σ1 w1 (.map (cs++[.d (.str key),px]) (bn++[ck]) (ck+1)) b)):=by
 obtain ⟨es,g1,g2,g3⟩:=hB.mrel;have ai:b<w.heap.size:=(Tn.1 g1).1;have h0:(getObj b).run G.P w=.ok (.map es ck) w:=by simp only [getObj,Sem.run,g1]
 have h1:=Jh dz false ⟨key.toArray⟩ w;have other:∀ob:Obj,(w.putObj b ob).os=w.os/\(w.putObj b ob).tape=w.tape/\(w.putObj b ob).output=w.output/\(w.putObj b ob).heap.size=w.heap.size/\∀k,k≠b->(w.putObj b ob).heap[k]?=w.heap[k]?:=fun ob=>⟨rfl,rfl,rfl,World.putObj_size,fun k hk=>World.putObj_heap_other hk⟩
 rcases WI (n:=0) (key:=key) g2 with ⟨x,v,j,q1,q2,q3,_,q5,q6,en,q7,q8⟩ | ⟨q1,q2,q3⟩
 ·obtain ⟨cs',q9,q10⟩:=q6 px vx hx;have h2:=Uy (P:=G.P) dz q2 w;simp only [Nat.sub_zero] at q5 q7 q10;have q7':es[j]?=some en:=by rw [<- Tt];exact q7
  have hl:(es.modify j fun e0=>{ e0 with key:=.string ⟨key.toArray⟩,val:=vx }).toList=es.toList.modify j fun e0=>{ e0 with key:=.string ⟨key.toArray⟩,val:=vx }:=sM
  refine ⟨w.putObj b (.map (es.modify j fun e0=>{ e0 with key:=.string ⟨key.toArray⟩,val:=vx }) ck),?_,other _,.inl ⟨cs',q9,fun σ1 hst=>.ofM (World.putObj_heap_same ai) (by rw [hl];exact q10.step hst) (by
    rw [hl,<- g3]
    apply List.ext_getElem?
    intro i
    rw [To,To,List.getElem?_modify]
    cases es.toList[i]? with
    | none=>rfl
    | some e0 =>
    simp only [Option.map_eq_map,Sk];split <;> rfl)⟩⟩
  unfold Instr.mapUpdate
  have h3:(Instr.keyThatStays en.key (.string ⟨key.toArray⟩)).run G.P w=.ok (.string ⟨key.toArray⟩) w:=by
   unfold Instr.keyThatStays
   rw [q8,Tj]
   ·rfl
   show ((⟨key.toArray⟩:ByteArray) == ⟨key.toArray⟩)=true;rw [Zj1];simp
  simp only [Sem.run_bind,Za hd,Result.andThen,h0,h1,h2,q7',Sk,Sm,h3,Zey g1]
 have h2:=Uy (P:=G.P) dz q2 w;refine ⟨w.putObj b (.map (es.push { key:=.string ⟨key.toArray⟩,val:=vx,born:=ck }) (ck+1)),?_,other _,.inr ⟨q3 px,fun σ1 hst=>.ofM (World.putObj_heap_same ai) (by rw [Array.toList_push];exact MRel.step hst (MRel.push rfl hx g2)) (by rw [Array.toList_push,Sp,g3];rfl)⟩⟩;unfold Instr.mapUpdate
 simp only [Sem.run_bind,Za hd,Result.andThen,h0,h1,h2,Zey g1]
theorem Zcv (hT:TabOK T G.P) (hS:SRel G e σ w) {t:TypeId} {pm pk px:PV} {vm vk vx:Value} {K:PV->St->Prop} (hm:VRel G e σ w pm vm) (hk:VRel G e σ w pk vk) (hx:VRel G e σ w px vx) (h:JM T t pm pk px σ K) :
  ∃σ1 w1,K .undef σ1/\(Instr.mapUpdate t vm vk vx).run G.P w=.ok () w1/\Stepped e σ w e σ1 w1/\SRel G e σ1 w1:=by
 unfold JM at h
 split at h
 ·rename_i kt el bf
  obtain ⟨i,d,z0,hi,hd,_,_,aw,_⟩:=(hT.get (t:=t) (by rw [bf];simp)).ex;rw [bf] at aw;obtain ⟨rfl,dz⟩:=aw;split at h
  ·rename_i key b
   cases hk.dstr
   cases hm with
   | mp _ hb =>
   split at h
   ·rename_i cs bn ck fq
    obtain ⟨w1,ah,⟨r1,r2,r3,r4,r5⟩,hc⟩:=Zez hd dz (key:=key) (hS.box _ _ fq) hx;rcases hc with ⟨cs',q1,q2⟩ | ⟨q1,q2⟩
    ·rw [q1] at h;exact ⟨_,w1,h,ah,Zaw hS fq r1 r2 r3 r4 r5 fun hst=>q2 _ hst⟩
    rw [q1] at h;exact ⟨_,w1,h,ah,Zaw hS fq r1 r2 r3 r4 r5 fun hst=>q2 _ hst⟩
   ·rename_i l fq
    split at h
    ·rename_i x hmv
     obtain ⟨bn,ck,hB⟩:=(hS.box _ _ fq).of_dmap;obtain ⟨w1,ah,⟨r1,r2,r3,r4,r5⟩,hc⟩:=Zez hd dz (key:=key) hB (ZrG hmv hx);refine ⟨_,w1,h,ah,Zaw hS fq r1 r2 r3 r4 r5 fun hst=>?_⟩;rcases ZgU (k:=key) (y:=x) l with g1 | ⟨g1,g2⟩
     ·rcases hc with ⟨cs',q1,q2⟩ | ⟨q1,q2⟩
      ·rw [g1] at q1;cases q1;exact (q2 _ hst).to_dmap
      rw [g1] at q1;cases q1
     rcases hc with ⟨cs',q1,q2⟩ | ⟨q1,q2⟩
     ·rw [g1] at q1;cases q1
     have:=q2 _ hst;rw [<- g2] at this;exact this.to_dmap
    exact h.elim
   exact h.elim
  exact h.elim
 exact h.elim
theorem Znt (hT:TabOK T G.P) (hS:SRel G e σ w) {K:PV->St->Prop} {ρ:Operand->PV} {ρ':Operand->Value} (hρ:∀x,VRel G e σ w (ρ x) (ρ' x)) (o:Oper) (h:eop T o.op ρ σ K) :
  ∃pv σ1 v w1 e1,K pv σ1/\Zns G.P ρ' o w v w1/\Stepped e σ w e1 σ1 w1/\SRel G e1 σ1 w1/\VRel G e1 σ1 w1 pv v:=by
 unfold eop at h
 split at h
 ·rename_i el ho
  split at h
  ·exact h.elim
  rename_i hk
  obtain ⟨i,d,z,hi,hd,hs,dm,aw,hz,cx,ka,_⟩:=(hT.get (t:=el) (fun h0=>hk h0)).ex;obtain ⟨rd,lw⟩:=XF (G:=G) (e:=e) (σ:=σ) (w:=w) cx;obtain ⟨h1,h2,h3⟩:=Zct hS el (T.get el).zero z.cells (by simpa using rd) (fun i x u hx hu=>lw i x u hx (by rw [Tt];exact hu));refine ⟨_,_,_,_,_,h,.inl ?_,h1,h2,h3⟩;unfold execOp
  simp only [ho,Instr.alloc,zeroValue,Sem.run_bind,Z4 hi,Result.andThen,hz,Sem.run_pure];rfl
 ·rename_i el x ho
  split at h
  ·rename_i l hl
   obtain ⟨cy,cu⟩:=W7 (hρ x) hl;obtain ⟨h1,h2,h3⟩:=Zct hS el l (ρ' x).cells cy cu;exact ⟨_,_,_,_,_,h,.inl (by unfold execOp;simp only [ho];rfl),h1,h2,h3⟩
  exact h.elim
 ·rename_i t a x ho
  have ha:=hρ a;split at h
  ·rename_i b off bu;rw [bu] at ha
   split at h
   ·rename_i ty cs hb
    split at h
    ·rename_i l hl
     split at h
     ·exact h.elim
     ·rename_i h1 h2 hk
      generalize hv:ρ' a=v at ha
      cases ha with
      | ptr b off cq =>
      obtain ⟨w1,ah,hst,gg⟩:=Ji hT hS hb (hρ x) hl (Ti h1) (Ta h2) (fun h0=>hk h0);refine ⟨_,_,Go.undef,w1,e,h,.inr ⟨?_,rfl⟩,hst,gg,.undef _⟩;unfold execOp
      simp only [ho,hv,Sem.run_bind,ah,Result.andThen,Sem.run_pure]
     exact h.elim
    exact h.elim
   exact h.elim
  exact h.elim
 ·rename_i t x ho
  split at h
  ·rename_i hk
   obtain ⟨i,d,z,hi,hd,hs,dm,aw,hz,cx,ka,_⟩:=(hT.get (t:=t) (by rw [hk];simp)).ex;rw [hk] at aw;cases aw;split at h
   ·rename_i s bu
    have hx:=hρ x;rw [bu] at hx;have zb:=hx.dstr;obtain ⟨h1,h2,h3⟩:=JO hS (.iter s 0) (.stringIter ⟨s.toArray⟩ 0) (fun _ _ _ _ hh=>hh);refine ⟨_,_,_,_,_,h,.inl ?_,h1,h2,h3⟩;unfold execOp
    simp only [ho,zb,Instr.range,Sem.run_bind,Za hd,Result.andThen,Sem.run_pure,run_newObj];rfl
   exact h.elim
  exact h.elim
 ·rename_i t ho
  split at h
  ·rename_i kt el hk
   have mk:∀x:Box,(∀e1 σ1 w1,Stepped e σ w e1 σ1 w1->w1.heap[w.heap.size]?=some (.map #[] 0)->BRel G e1 σ1 w1 x w.heap.size)->K (.mp σ.bx.length) (σ.new x) ->
     ∃pv σ1 v w1 e1,K pv σ1/\Zns G.P ρ' o w v w1/\Stepped e σ w e1 σ1 w1/\SRel G e1 σ1 w1/\VRel G e1 σ1 w1 pv v:=by
    intro x hx h
    obtain ⟨h1,h2,h3⟩:=JO hS x (.map #[] 0) hx;refine ⟨_,_,.map (some w.heap.size),_,_,h,.inl ?_,h1,h2,?_⟩
    ·unfold execOp
     simp only [ho,Instr.makeMap,Sem.run_bind,Result.andThen,Sem.run_pure,run_newObj,Option.map_none];rfl
    have:=VRel.mp (G:=G) (e:=e.more σ.bx.length w.heap.size) (σ:=σ.new x) (w:=w.alloc (.map #[] 0)) σ.bx.length (by rw [ZDj];omega)
    rwa [show (e.more σ.bx.length w.heap.size).β σ.bx.length=w.heap.size by simp [Env.more]] at this
   split at h
   ·exact mk (.map [] [] 0) (fun _ _ _ _ hh=>BRel.ofM hh trivial rfl) h
   ·exact mk (.map [] [] 0) (fun _ _ _ _ hh=>BRel.ofM hh trivial rfl) h
   exact mk _ (fun e1 σ1 w1 _ hh=>(show BRel G e1 σ1 w1 (.map (Zcj []) [] 0) w.heap.size from .ofM hh trivial rfl).to_dmap) h
  exact h.elim
 ·exact m75
 ·exact m75
 ·rename_i x ho
  have hx:=hρ x;split at h
  ·rename_i b bu;rw [bu] at hx
   split at h
   ·rename_i s pos hb
    generalize hv:ρ' x=v at hx
    cases hx with
    | ptr b off cq =>
    obtain ⟨pv,σ1,v,w1,hK,ah,hst,gg,hr⟩:=ZlJ hS hb o.type h;refine ⟨pv,σ1,v,w1,e,hK,.inl ?_,hst,gg,hr⟩;unfold execOp
    simp only [ho,hv,Sem.run_bind,ah,Result.andThen,Sem.run_pure]
   exact h.elim
  exact h.elim
 ·rename_i args argTypes ho
  split at h
  ·rename_i t tx s x ux bz
   have ow:argTypes=#[t,tx]:=by rw [<- Array.toArray_toList (xs:=argTypes),ux]
   obtain ⟨q1,q2,am⟩:∃q1 q2,args.toList=[q1,q2]:=by
    cases hl:args.toList with
    | nil=>rw [hl] at bz;cases bz
    | cons a l=>cases l with
     | nil=>rw [hl] at bz;cases bz
     | cons b l=>cases l with
      | nil=>exact ⟨a,b,rfl⟩
      | cons c l=>rw [hl] at bz;simp at bz
   have ha:args=#[q1,q2]:=by rw [<- Array.toArray_toList (xs:=args),am]
   rw [am] at bz;simp only [TC,TL,List.cons.injEq,and_true] at bz;obtain ⟨mf,ge⟩:=bz;have mt:=hρ q1;have zm:=hρ q2;rw [mf] at mt;rw [ge] at zm;have lg:∀v' w1,(Builtin.append_ #[t,tx] o.type #[ρ' q1,ρ' q2]).run G.P w=.ok v' w1->Zns G.P ρ' o w v' w1:=fun v' w1 hr=>.inl (by
    unfold execOp
    simp only [ho,resolve,invoke,builtin,Sem.run_bind,Sem.run_pure,Result.andThen,ha,ow];rw [show Array.map ρ' #[q1,q2]=#[ρ' q1,ρ' q2] from sM,hr])
   split at h
   ·rename_i el hk
    split at h
    ·exact h.elim
    rename_i bj
    split at h
    ·rename_i more ay hm
     split at h
     ·rename_i el2
      obtain ⟨hw,hb,hl,hK⟩:=h;generalize hv:ρ' q1=v at mt lg
      cases mt with
      | nils =>
      obtain ⟨v',w1,e1,ah,hst,gg,hr⟩:=Zex (ty:=o.type) hT hS hk (fun h0=>bj h0) (Ta ay) (rows:=[]) (.slnil) σ.tk (fun _ h=>h) (.inl ⟨rfl,rfl⟩) hm zm hw (by simpa using hb) (by simpa using hl);exact ⟨_,_,v',w1,e1,hK,lg v' w1 ah,hst,gg,hr⟩
     ·rename_i tok e2 rows
      split at h
      ·rename_i cg t8
       obtain ⟨hw,hb,hl,hK⟩:=h;have:=Ti t8;subst this;have pz:=(YA _ _).1 cg;generalize hv:ρ' q1=v at mt lg
       cases mt with
       | sl tok e2 rows v hn hd ht =>
       obtain ⟨v',w1,e1,ah,hst,gg,hr⟩:=Zex (ty:=o.type) hT hS hk (fun h0=>bj h0) (Ta ay) hd (UV tok σ.tk) (fun x hx=>((WJ _ _ _).1 hx).1) (.inr ⟨tok,pz,fun h=>((WJ _ _ _).1 h).2 rfl,ht pz⟩) hm zm hw hb hl;exact ⟨_,_,v',w1,e1,hK,lg v' w1 ah,hst,gg,hr⟩
      exact h.elim
     exact h.elim
    exact h.elim
   exact h.elim
  exact h.elim
 exact h.elim
end
end Go.PM
end

section
namespace Go.PM
def fw (ro:Option Nat):Fence:={ fn:=fun _=>True,depth:=none,alive:=false,round:=ro }
def W8 (P:Program) (g:FuncId):Prop:=∀(args:Array Value) (w:World),(callFunc g args).run P w=.ok (.enter g args) w
def ArgsRel (G:GE) (e:Env) (σ:St) (w:World) (args:List PV) (vs:Array Value):Prop :=
 vs.size=args.length/\∀(i:Nat) (x:PV) (u:Value),args[i]?=some x->vs[i]?=some u->VRel G e σ w x u
def Znu (G:GE) (e:Env) (σ:St) (w:World):PEnd->Ending->Prop
 | .ret x,en=>∃v,en=.returned v/\VRel G e σ w x v
 | .panic x,en=>∃v,en=.panicked [{ v:=v,recovered:=false }]/\VRel G e σ w x v
def ZxU (G:GE) (e:Env) (σ:St) (w:World) (K:PEnd->St->Prop) (en:Ending) (w':World):Prop :=
 ∃pe σ' e',K pe σ'/\Znu G e' σ' w' pe en/\SRel G e' σ' w'/\Stepped e σ w e' σ' w'
def Y2 (G:GE) (e:Env) (σ:St) (w:World) (K:PEnd->St->Prop) (en:Ending) (w':World):Prop :=
 ∃pe σ' e',K pe σ'/\Znu G e' σ' w' pe en/\SRel G e' σ' w'/\Later e σ w e' σ' w'
def CallSem (G:GE) (cc:FuncId->List PV->St->(PEnd->St->Prop)->Prop):Prop:=∀g args σ K,cc g args σ K ->
 W8 G.P g/\∀(ro:Option Nat) (n:Nat) (e:Env) (w:World) (vs:Array Value),SRel G e σ w->ArgsRel G e σ w args vs->CallsIn (fw ro) n G.P g vs w (ZxU G e σ w K)
def RawSem (G:GE) (e0:Env) (σ0:St) (w0:World) (cr:Value->List PV->St->(PEnd->St->Prop)->Prop):Prop:=∀v args σ K,cr v args σ K ->
 ∃l,v=.func (.yield l) #[] #[]/\∀(ro:Option Nat) (n:Nat) (e:Env) (w:World) (vs:Array Value),SRel G e σ w->Later e0 σ0 w0 e σ w->ArgsRel G e σ w args vs ->
  ∃f tmps asg body,(Instr.yield l vs).run G.P w=.ok (.round l f tmps asg body) w/\RoundIn (fw ro) n G.P l f tmps asg body w (Y2 G e σ w K)
def V6 (G:GE) (ci:FuncId->List PV->(Value->List PV->St->(PEnd->St->Prop)->Prop)->St->(PEnd->St->Prop)->Prop):Prop:=∀g args raw σ K,ci g args raw σ K ->
 W8 G.P g/\∀(n:Nat) (e:Env) (w:World) (vs:Array Value),SRel G e σ w->ArgsRel G e σ w args vs->RawSem G e σ w raw->CallsIn (fw none) n G.P g vs w (Y2 G e σ w K)
structure CxOK (G:GE) (C:Cx) (ro:Option Nat) (e0:Env) (σ0:St) (w0:World):Prop where
 tab:TabOK C.T G.P
 call:CallSem G C.call
 raw:RawSem G e0 σ0 w0 C.raw
 iter:V6 G C.iter
 out:ro=none\/∀g args raw σ K,¬C.iter g args raw σ K
theorem RawSem.later {G:GE} {e0 e:Env} {σ0 σ:St} {w0 w:World} {cr:Value->List PV->St->(PEnd->St->Prop)->Prop} (h:RawSem G e0 σ0 w0 cr) (hL:Later e0 σ0 w0 e σ w):RawSem G e σ w cr:=fun v args σ' K hc=>by
 obtain ⟨l,h1,h2⟩:=h v args σ' K hc;exact ⟨l,h1,fun ro n e' w' vs hS ig ha=>h2 ro n e' w' vs hS (hL.trans ig) ha⟩
theorem CxOK.later {G:GE} {C:Cx} {ro:Option Nat} {e0 e:Env} {σ0 σ:St} {w0 w:World} (h:CxOK G C ro e0 σ0 w0) (hL:Later e0 σ0 w0 e σ w):CxOK G C ro e σ w:=⟨h.tab,h.call,h.raw.later hL,h.iter,h.out⟩
theorem CxOK.calm {G:GE} {C:Cx} {ro:Option Nat} {e0:Env} {σ0:St} {w0:World} (h:CxOK G C ro e0 σ0 w0):CxOK G C.calm ro e0 σ0 w0:=⟨h.tab,h.call,fun _ _ _ _ h=>h.elim,h.iter,h.out⟩
def JP (r:Nat):Deferred:={ target:=.collected r,args:=#[] }
def Marks (lo:Nat×List Deferred×Bool) (e:Env) (σ:St) (w:World) (l:List Deferred):Prop:=lo.1<=w.heap.size/\∃rs:List Nat,l=rs.map JP++lo.2.1/\(lo.2.2=true->rs=[])/\rs.Nodup/\∀r,r∈rs->lo.1<=r/\w.heap[r]?=some (.deferred (some [])) /\
 (∀i,i<σ.bx.length->e.β i≠r)/\∀t,t∈σ.tk->∀p,e.M t=some p->p.1≠r
theorem Marks.nil {lo:Nat} {fl:Bool} (e:Env) (σ:St) {w:World} (h:lo<=w.heap.size):Marks (lo,[],fl) e σ w []:=⟨h,[],rfl,fun _=>rfl,List.nodup_nil,fun r h=>(by cases h)⟩
theorem Marks.later {lo:Nat×List Deferred×Bool} {e e':Env} {σ σ':St} {w w':World} {l:List Deferred} (h:Marks lo e σ w l) (hL:Later e σ w e' σ' w'):Marks lo e' σ' w' l:=by
 obtain ⟨h0,rs,h1,eg,h2,h3⟩:=h;refine ⟨T1 h0 hL.size,rs,h1,eg,h2,fun r hr=>?_⟩;obtain ⟨g1,g2,g3,g4⟩:=h3 r hr;have ai:=(Tn.1 g2).1;refine ⟨g1,(hL.blocks r ai g3 g4).trans g2,fun i hi=>?_,fun t ht p hp=>?_⟩
 ·by_cases h:i<σ.bx.length
  ·rw [hL.beta i h];exact g3 i h
  have:=hL.fresh i oM hi;omega
 rcases hL.ftok t ht p hp with h | ⟨t0,h0,p0,qx,h⟩
 ·omega
 rw [<- h];exact g4 t0 h0 p0 qx
theorem UD {n:Nat}:∀{l:List PV},Zes n l=true->∀(i:Nat) (x:PV),l[i]?=some x->bnd n x=true
 | [],_,i,x,hx=>by simp at hx
 | y::l,h,i,x,hx=>by
  simp only [Zes,Tl] at h
  cases i with
  | zero=>simp at hx;subst hx;exact h.1
  | succ i=>exact UD h.2 i x (by simpa using hx)
theorem Znv {n:Nat}:∀{l:List PV},(∀(i:Nat) (x:PV),l[i]?=some x->bnd n x=true)->Zes n l=true
 | [],_=>rfl
 | y::l,h=>by
  simp only [Zes,Tl];exact ⟨h 0 y sM,Znv fun i x hx=>h (i+1) x (by simpa using hx)⟩
theorem Wb:∀{l:List PV} (i:Nat) (y:PV),(YR l)[i]?=some y->∃x,l[i]?=some x/\y=clean x
 | [],i,y,h=>by simp [YR] at h
 | x::l,i,y,h=>by
  cases i with
  | zero=>simp [YR] at h;exact ⟨x,sM,h.symm⟩
  | succ i=>simp only [YR,TQ] at h;obtain ⟨z,h1,h2⟩:=Wb i y h;exact ⟨z,by simpa using h1,h2⟩
theorem YL:∀{l:List PV},(YR l).length=l.length
 | []=>rfl
 | x::l=>by simp [YR,YL]
section
variable {G:GE} {e e':Env} {σ σ':St} {w w':World}
theorem VRel.bnd {x:PV} {v:Value} (h:VRel G e σ w x v):bnd σ.bx.length x=true:=by
 have get:∀{l:List PV} {va:Array Value},va.size=l.length->(∀(i:Nat) (x:PV) (u:Value),l[i]?=some x->va[i]?=some u->PM.bnd σ.bx.length x=true)->Zes σ.bx.length l=true:=fun {l va} hs h=>Znv fun i x hx=>by
  have hi:=(Th.1 hx).1;exact h i x va[i] hx (Tx oM)
 induction h with
 | ptr b off h=>simp only [PM.bnd,SF];omega
 | mp b h=>simp only [PM.bnd,SF];omega
 | asl b off n h=>simp only [PM.bnd,SF];omega
 | func f a c va vc ha hc _ _ ih1 ih2=>simp only [PM.bnd,Tl];exact ⟨get ha ih1,get hc ih2⟩
 | iface t x v _ ih=>exact ih
 | agg cs vs hs _ _ ih=>exact get hs ih
 | tuple cs vs hs _ ih=>exact get hs ih
 | _=>rfl
theorem VRel.clean {n:Nat} (hn:n<=σ'.bx.length) (hβ:∀i,i<n->e'.β i=e.β i)
  (hp:∀b off u,w.cell? ⟨b,off,none⟩=some u->okc e σ b off->okc e' σ' b off/\w'.cell? ⟨b,off,none⟩=some u) {x:PV} {v:Value} (h:VRel G e σ w x v) (hb:PM.bnd n x=true):VRel G e' σ' w' (clean x) v:=by
 induction h with
 | d x v h=>exact .d _ _ (h.mono hp)
 | undef v=>exact .undef _
 | ptr b off h =>
  simp only [PM.bnd,SF] at hb;rw [<- hβ b oM];exact .ptr b off oM
 | asl b off m h =>
  simp only [PM.bnd,SF] at hb;rw [<- hβ b oM];exact .asl b off m oM
 | mp b h =>
  simp only [PM.bnd,SF] at hb;rw [<- hβ b oM];exact .mp b oM
 | nilm=>exact .nilm
 | elem r off b o u hc ho hu=>exact .elem r off b o u (fun j hj=>(hp b _ _ (hc j hj) (ho j hj)).2) (fun j hj=>(hp b _ _ (hc j hj) (ho j hj)).1) (fun j x hx=>(hu j x hx).mono hp)
 | sl t el rows v hn hd ht=>exact .d _ _ (hd.mono hp)
 | nils el=>exact .d _ _ .slnil
 | func f a c va vc ha hc _ _ ih1 ih2 =>
  simp only [PM.bnd,Tl] at hb;refine .func f _ _ va vc (by rw [YL];exact ha) (by rw [YL];exact hc) (fun i y u hy hu=>?_) (fun i y u hy hu=>?_)
  ·obtain ⟨x,hx,rfl⟩:=Wb i y hy;exact ih1 i x u hx hu (UD hb.1 i x hx)
  obtain ⟨x,hx,rfl⟩:=Wb i y hy;exact ih2 i x u hx hu (UD hb.2 i x hx)
 | iface t x v _ ih=>exact .iface t _ v (ih hb)
 | agg cs vs hs _ h1 ih=>exact .agg _ vs (by rw [YL];exact hs) (fun i y u hy hu=>by obtain ⟨x,hx,rfl⟩:=Wb i y hy;exact ih i x u hx hu (UD hb i x hx)) h1
 | tuple cs vs hs _ ih=>exact .tuple _ vs (by rw [YL];exact hs) (fun i y u hy hu=>by obtain ⟨x,hx,rfl⟩:=Wb i y hy;exact ih i x u hx hu (UD hb i x hx))
 | raw v=>exact .raw _
theorem U1:∀{l:List PV},(cleanNL l).length=l.length
 | []=>rfl
 | x::l=>by simp [PM.cleanNL,U1]
theorem Zcw:∀{l:List PV} (i:Nat) (y:PV),(cleanNL l)[i]?=some y->∃x,l[i]?=some x/\y=PM.cleanN x
 | [],i,y,h=>by simp [PM.cleanNL] at h
 | x::l,i,y,h=>by
  cases i with
  | zero=>simp [PM.cleanNL] at h;exact ⟨x,sM,h.symm⟩
  | succ i=>simp only [PM.cleanNL,TQ] at h;obtain ⟨z,h1,h2⟩:=Zcw i y h;exact ⟨z,by simpa using h1,h2⟩
theorem VRel.cleanN {n:Nat} (hn:n<=σ'.bx.length) (hβ:∀i,i<n->e'.β i=e.β i)
  (hp:∀b off u,w.cell? ⟨b,off,none⟩=some u->okc e σ b off->okc e' σ' b off/\w'.cell? ⟨b,off,none⟩=some u) {x:PV} {v:Value} (h:VRel G e σ w x v) (hb:PM.bnd n x=true):VRel G e' σ' w' (cleanN x) v:=by
 induction h with
 | d x v h=>exact .d _ _ (h.mono hp)
 | undef v=>exact .undef _
 | ptr b off h =>
  simp only [PM.bnd,SF] at hb;rw [<- hβ b oM];exact .ptr b off oM
 | asl b off m h =>
  simp only [PM.bnd,SF] at hb;rw [<- hβ b oM];exact .asl b off m oM
 | mp b h =>
  simp only [PM.bnd,SF] at hb;rw [<- hβ b oM];exact .mp b oM
 | nilm=>exact .nilm
 | elem r off b o u hc ho hu=>exact .elem r off b o u (fun j hj=>(hp b _ _ (hc j hj) (ho j hj)).2) (fun j hj=>(hp b _ _ (hc j hj) (ho j hj)).1) (fun j x hx=>(hu j x hx).mono hp)
 | sl t el rows v hn hd ht=>exact .d _ _ (hd.mono hp)
 | nils el=>exact .nils el
 | func f a c va vc ha hc h1 h2 ih1 ih2=>exact VRel.clean hn hβ hp (.func f a c va vc ha hc h1 h2) hb
 | iface t x v h ih=>exact VRel.clean hn hβ hp (.iface t x v h) hb
 | agg cs vs hs _ h1 ih=>exact .agg _ vs (by rw [U1];exact hs) (fun i y u hy hu=>by obtain ⟨x,hx,rfl⟩:=Zcw i y hy;exact ih i x u hx hu (UD hb i x hx)) h1
 | tuple cs vs hs h ih=>exact VRel.clean hn hβ hp (.tuple cs vs hs h) hb
 | raw v=>exact .raw _
end
theorem FRel.clean {G:GE} {e e':Env} {σ σ':St} {w w':World} {f:Frame} {tm:Array Value} (hF:FRel G e σ w f tm) (hL:Later e σ w e' σ' w'):FRel G e' σ' w' (VR f) tm :=
 fun i=>VRel.clean hL.len hL.beta hL.pres (hF i) (hF i).bnd
def ZxV (G:GE) (e:Env) (σ:St) (w:World):PExit->Exit->Prop
 | .normal,x=>x=.normal
 | .exit id,x=>x=.exit id
 | .goto l,x=>x=.goto l
 | .ret,x=>x=.ret
 | .panic p,x=>∃v,x=.panic [{ v:=v,recovered:=false }]/\VRel G e σ w p v
def ZD (G:GE) (e0:Env) (σ0:St) (w0:World) (ds:Nat×List Deferred×Bool) (n:Nat) (Z:Array Value->Prop) (Q:PQ):Exit->Act->World->Prop:=fun x a w =>
 ∃pe f e σ,Q pe f σ/\ZxV G e σ w pe x/\SRel G e σ w/\FRel G e σ w f a.tmps/\Later e0 σ0 w0 e σ w/\a.tmps.size=n/\Marks ds e σ w a.defers/\Z a.tmps
def KRel (G:GE) (e0:Env) (σ0:St) (w0:World) (ds:Nat×List Deferred×Bool) (n:Nat) (Z:Array Value->Prop) (K:Frame->St->Prop):Act->World->Prop:=fun a w =>
 ∃f e σ,K f σ/\SRel G e σ w/\FRel G e σ w f a.tmps/\Later e0 σ0 w0 e σ w/\a.tmps.size=n/\Marks ds e σ w a.defers/\Z a.tmps
theorem Wj:∀(n:Nat) (K:Nat->Prop),Yc n K=K n
 | 0,K=>rfl
 | n+1,K=>by simp only [Yc,Wj n]
theorem Znw (v:PV) (K:PV->Prop):Znb v K=K v:=by cases v <;> simp only [Znb,Wj]
theorem Zax:∀(l:List PV) (K:List PV->Prop),Vt l K=K l
 | [],_=>rfl
 | v::l,K=>by simp only [Vt,Znw,Zax l]
theorem ZgX (v:PV) (K:PV->Prop):ZjX v K=K v:=by cases v <;> simp only [ZjX,Wj,Zax]
theorem ZeA:∀(l:List PV) (K:List PV->Prop),Zfq l K=K l
 | [],_=>rfl
 | v::l,K=>by simp only [Zfq,ZgX,ZeA l]
theorem ZF (v:PV) (K:PV->Prop):Jd v K=K v:=by cases v <;> simp only [Jd,Wj,Zax,ZgX,ZeA]
theorem Zcx:∀(l:List PV) (K:List PV->Prop),ZgL l K=K l
 | [],_=>rfl
 | v::l,K=>by simp only [ZgL,ZF,Zcx l]
theorem Wk:∀(l:List Nat) (K:List Nat->Prop),Zck l K=K l
 | [],_=>rfl
 | t::l,K=>by simp only [Zck,Wj,Wk l]
theorem W9:∀(l:List Box) (K:List Box->Prop),VS l K=K l
 | [],_=>rfl
 | .cells t cs::l,K=>by simp only [VS,Zcx,W9 l]
 | .iter s p::l,K=>by simp only [VS,W9 l]
 | .loop st pd r::l,K=>by simp only [VS,W9 l]
 | .dmap m::l,K=>by simp only [VS,W9 l]
 | .map cs bn ck::l,K=>by simp only [VS,Zcx,Wk,Wj,W9 l]
theorem ZC (σ:St) (K:St->Prop):V3 σ K=K σ:=by simp only [V3,W9,Wk,Wj]
theorem ZT (f:Frame) (d:Option Nat) (v:PV) (K:Frame->Prop):Zer f d v K=K (Yf f d v):=by
 cases d with
 | none=>rfl
 | some i=>simp only [Zer,ZF];rfl
theorem Xi {f:Frame} {s:Nat} {v:PV} (h:f s=v):V0 f s v=f:=by
 funext j
 by_cases hj:s=j
 ·subst hj;rw [Ys,h]
 rw [Xg f v hj]
theorem YB (a:Act) (d:Option Nat) (v:Value):(a.put d v).tmps.size=a.tmps.size:=by cases d <;> simp [Act.put]
theorem Zj3 {N:Nat} {Z:Array Value->Prop} {a:Act} {d:Option Nat} {v:Value} (hd:∀i,d=some i->i<N/\∀t v,Z t->Z (t.setIfInBounds i v)) (hZ:Z a.tmps):Z (a.put d v).tmps:=by
 cases d with
 | none=>exact hZ
 | some i=>exact (hd i rfl).2 _ _ hZ
theorem Xt (a:Act) (d:Option Nat) (v:Value):(a.put d v).defers=a.defers:=by cases d <;> rfl
section
variable {G:GE} {C:Cx} {e0 e:Env} {σ0 σ:St} {w0 w:World} {a:Act} {f:Frame} {Q:PQ} {K:Frame->St->Prop} {ro:Option Nat} {n:Nat} {ds:Nat×List Deferred×Bool} {N:Nat} {Z:Array Value->Prop}
theorem KRel.put {e1:Env} {σ1:St} {w1:World} {o:Oper} {pv:PV} {v:Value} (hF:FRel G e σ w f a.tmps) (hL:Later e0 σ0 w0 e σ w) (hN:a.tmps.size=N) (bl:Marks ds e σ w a.defers) (hZ:Z a.tmps) (hd:∀d,o.dst=some d->d<N/\∀t v,Z t->Z (t.setIfInBounds d v))
  (hK:Zer f o.dst pv fun f=>K f σ1) (hst:Stepped e σ w e1 σ1 w1) (gg:SRel G e1 σ1 w1) (hr:VRel G e1 σ1 w1 pv v):KRel G e0 σ0 w0 ds N Z K (a.put o.dst v) w1:=by
 rw [ZT] at hK;exact ⟨_,e1,σ1,hK,gg,(hF.step hst).put hr (by rw [hN];exact fun d h=>(hd d h).1),hL.trans hst.toLater,by rw [YB];exact hN,by rw [Xt];exact bl.later hst.toLater,Zj3 hd hZ⟩
theorem Zfw {args:Array Operand} (hρ:∀x,VRel G e σ w (ev f x) (a.eval x)):ArgsRel G e σ w (args.toList.map (ev f)) (args.map a.eval):=by
 refine ⟨sM,fun i x u hx hu=>?_⟩;rw [To] at hx;rw [Array.getElem?_map] at hu
 cases hq:args[i]? with
 | none=>rw [hq] at hu;cases hu
 | some q =>
 exact m137
theorem ArgsRel.append {x y:List PV} {vx vy:Array Value} (h1:ArgsRel G e σ w x vx) (h2:ArgsRel G e σ w y vy):ArgsRel G e σ w (x++y) (vx++vy):=by
 refine ⟨by rw [Array.size_append,Tb,h1.1,h2.1],fun i p u hp hu=>?_⟩
 by_cases hi:i<x.length
 ·rw [TG hi] at hp;rw [Array.getElem?_append_left (by rw [h1.1];exact hi)] at hu;exact h1.2 i p u hp hu
 rw [TS oM] at hp;rw [Array.getElem?_append_right (by rw [h1.1];omega),h1.1] at hu;exact h2.2 _ p u hp hu
theorem Znx {G:GE} {C:Cx} {e e':Env} {σ σ':St} {w w':World} {f:Frame} {tm:Array Value} (hF:FRel G e σ w f tm) (hL:Later e σ w e' σ' w'):FRel G e' σ' w' (C.pf f) tm:=by
 unfold Cx.pf
 split
 ·exact hF.clean hL
 exact fun i=>.undef _
theorem Jk (hC:CxOK G C ro e0 σ0 w0) (hS:SRel G e σ w) (hF:FRel G e σ w f a.tmps) (hL:Later e0 σ0 w0 e σ w) (hN:a.tmps.size=N) (bl:Marks ds e σ w a.defers) (hZ:Z a.tmps) {o:Oper} (hd:∀d,o.dst=some d->d<N/\∀t v,Z t->Z (t.setIfInBounds d v))
  (h:XS C o f σ Q K):o.wpIn (fw ro) n G.P a w (KRel G e0 σ0 w0 ds N Z K) (ZD G e0 σ0 w0 ds N Z Q):=by
 have hρ:∀x,VRel G e σ w (ev f x) (a.eval x):=fun x=>Zbl hF x
 refine ⟨fun _ _=>trivial,?_⟩;unfold XS at h
 simp only [ZC,ZF] at h;split at h
 ·rename_i hE
  have gx:∀c,o.op≠.defer c:=fun c hc=>by rw [hc] at h;exact h
  rw [show (fw ro).round=ro from rfl,Oper.semAt_eq _ _ _ gx];obtain ⟨pv,v,w1,hK,hg,hr,ah⟩:=ZlL hC.tab hS hρ o h;rw [ah];exact KRel.put hF hL hN bl hZ hd hK (hg.stepped e σ) (hS.grow hg) hr
 rename_i hE
 have gx:∀c,o.op≠.defer c:=fun c hc=>by rw [hc] at hE;cases hE
 rw [show (fw ro).round=ro from rfl,Oper.semAt_eq _ _ _ gx];split at h
 ·rename_i x args at' ho
  have hx:=hρ x;have i6:∀(next:World->Ending->World->Prop),True:=fun _=>trivial
  unfold Zcl at h
  split at h
  ·rename_i g first caps bu
   rw [bu] at hx;generalize hv:a.eval x=v at hx
   cases hx with
   | func g first caps va vc ha hc h1 h2 =>
   obtain ⟨ko,jt⟩:=hC.call _ _ _ _ h;have am:ArgsRel G e σ w (first++args.toList.map (ev f)++caps) (va++args.map a.eval++vc):=(ArgsRel.append (ArgsRel.append ⟨ha,h1⟩ (Zfw hρ)) ⟨hc,h2⟩)
   have ah:(execOp a.eval o).run G.P w=.ok (.enter g (va++args.map a.eval++vc)) w:=by
    unfold execOp
    simp only [ho,resolve,hv,Deferred.ofValue,Sem.run_bind,Sem.run_pure,Result.andThen,invoke];exact ko _ _
   rw [ah,Oper.uponIn_enter];refine ⟨fun h=>by simp [fw] at h,(jt ro (n - 1) e w _ hS am).mono fun en w' hA=>?_⟩;obtain ⟨pe,σ',e',hK,qa,ip,hst⟩:=hA
   cases pe with
   | ret pv =>
    obtain ⟨u,rfl,hr⟩:=qa;exact KRel.put hF hL hN bl hZ hd hK hst ip hr
   | panic pv =>
   obtain ⟨u,rfl,hr⟩:=qa;exact ⟨.panic pv,_,e',σ',hK,⟨u,rfl,hr⟩,ip,Znx hF hst.toLater,hL.trans hst.toLater,hN,bl.later hst.toLater,hZ⟩
  ·rename_i v bu
   rw [bu] at hx;generalize hv:a.eval x=v' at hx
   cases hx with
   | raw v =>
   obtain ⟨l,rfl,rt⟩:=hC.raw _ _ _ _ h;obtain ⟨fn,tmps,asg,body,hy,kp⟩:=rt ro (n - 1) e w _ hS hL (Zfw hρ);have ah:(execOp a.eval o).run G.P w=.ok (.round l fn tmps asg body) w:=by
    unfold execOp
    simp only [ho,resolve,hv,Deferred.ofValue,Sem.run_bind,Sem.run_pure,Result.andThen,invoke,Array.empty_append,hy]
   rw [ah,Oper.uponIn_round];refine ⟨fun h=>by simp [fw] at h,kp.mono fun en w' hA=>?_⟩;obtain ⟨pe,σ',e',hK,qa,ip,hst⟩:=hA
   cases pe with
   | ret pv =>
    obtain ⟨u,rfl,hr⟩:=qa;simp only at hK;rw [ZT] at hK;exact ⟨_,e',σ',hK,ip,(hF.clean hst).put hr (by rw [hN];exact fun d h=>(hd d h).1),hL.trans hst,by rw [YB];exact hN,by rw [Xt];exact bl.later hst,Zj3 hd hZ⟩
   | panic pv =>
   obtain ⟨u,rfl,hr⟩:=qa;exact ⟨.panic pv,_,e',σ',hK,⟨u,rfl,hr⟩,ip,Znx (hF.clean (Later.refl _ _ _)) hst,hL.trans hst,hN,bl.later hst,hZ⟩
  exact h.elim
 ·rename_i x ho
  have hx:=hρ x;split at h
  ·rename_i t pv bu
   rw [bu] at hx;generalize hv:a.eval x=v at hx
   cases hx with
   | iface _ _ u hu =>
   have ah:(execOp a.eval o).run G.P w=.halt (.panic (.iface t u)) w:=by
    unfold execOp
    simp only [ho,hv,Instr.panic];rfl
   rw [ah];exact ⟨.panic (.iface t pv),_,e,σ,h,⟨.iface t u,rfl,.iface t pv u hu⟩,hS,Znx hF (Later.refl _ _ _),hL,hN,bl,hZ⟩
  exact h.elim
 obtain ⟨pv,σ1,v,w1,e1,hK,ru,hst,gg,hr⟩:=Znt hC.tab hS hρ o h;rcases ru with ah | ⟨ah,rfl⟩
 ·rw [ah];exact KRel.put hF hL hN bl hZ hd hK hst gg hr
 rw [ah];exact KRel.put hF hL hN bl hZ hd hK hst gg hr
theorem Vv (hC:CxOK G C ro e0 σ0 w0) (hS:SRel G e σ w) (hF:FRel G e σ w f a.tmps) (hL:Later e0 σ0 w0 e σ w) (hN:a.tmps.size=N) (bl:Marks ds e σ w a.defers) (hZ:Z a.tmps) {ops:Array Oper} {o:Oper} (hd:∀d,o.dst=some d->d<N/\∀t v,Z t->Z (t.setIfInBounds d v))
  (h:Wf C ops.toList Q o f σ K) :
  if Region.wanted o (yielded ops a.tmps)=true then o.wpIn (fw ro) n G.P a w (KRel G e0 σ0 w0 ds N Z K) (ZD G e0 σ0 w0 ds N Z Q)
  else KRel G e0 σ0 w0 ds N Z K (a.put o.dst Go.undef) w:=by
 unfold Wf at h
 split at h
 ·rename_i hg
  have:Region.wanted o (yielded ops a.tmps)=true:=by simp [Region.wanted,hg]
  rw [Tj this];exact Jk hC hS hF hL hN bl hZ hd h
 rename_i j want hg
 split at h
 ·rename_i s hs
  have qb:(ops[j]?).bind (·.dst)=some s:=by
   unfold XE at hs
   rw [Tt] at hs
   cases hoj:ops[j]? with
   | none=>rw [hoj] at hs;cases hs
   | some oj=>rw [hoj] at hs;exact hs
  have vd:=hF s;split at h
  ·rename_i t l7
   rw [l7] at vd;have hv:=vd.dbool;have hy:yielded ops a.tmps j=some t:=by
    unfold yielded
    rw [qb];have:a.tmps[s]?=some (.bool t):=by
     rw [Array.getD_eq_getD_getElem?] at hv
     cases h2:a.tmps[s]? with
     | none=>rw [h2] at hv;cases hv
     | some u=>rw [h2] at hv;simp at hv;rw [hv]
    simp [this]
   have mw:Region.wanted o (yielded ops a.tmps)=(t == want):=by simp [Region.wanted,hg,hy]
   rw [mw]
   cases t <;> cases want <;> simp only [CondP] at h
   ·rw [Xi l7] at h;simp only [beq_self_eq_true,if_true];exact Jk hC hS hF hL hN bl hZ hd h
   ·rw [Xi l7] at h;rw [Tg dM];exact KRel.put hF hL hN bl hZ hd h (.refl _ _ _) hS (.raw _)
   ·rw [Xi l7] at h;rw [Tg dM];exact KRel.put hF hL hN bl hZ hd h (.refl _ _ _) hS (.raw _)
   rw [Xi l7] at h;simp only [beq_self_eq_true,if_true];exact Jk hC hS hF hL hN bl hZ hd h
  ·rename_i vs l7
   rw [l7] at vd;generalize hv:a.tmps.getD s Go.undef=v at vd
   cases vd
   have hy:yielded ops a.tmps j=none:=by
    unfold yielded
    rw [qb];rw [Array.getD_eq_getD_getElem?] at hv
    cases h2:a.tmps[s]? with
    | none=>simp [h2]
    | some u=>rw [h2] at hv;simp at hv;subst hv;simp [h2]
   have mw:Region.wanted o (yielded ops a.tmps)=false:=by simp [Region.wanted,hg,hy]
   rw [mw,Tg sM];exact KRel.put hF hL hN bl hZ hd h (.refl _ _ _) hS (.raw _)
  exact h.elim
 exact h.elim
theorem Zbn (hC:CxOK G C ro e0 σ0 w0) (hS:SRel G e σ w) (hF:FRel G e σ w f a.tmps) (hL:Later e0 σ0 w0 e σ w) (hN:a.tmps.size=N) (bl:Marks ds e σ w a.defers) (hZ:Z a.tmps) {ops:Array Oper} {o:Oper} (hd:∀d,o.dst=some d->d<N/\∀t v,Z t->Z (t.setIfInBounds d v))
  (h:ZgM C ops.toList Q o f σ K) :
  if Region.wanted o (yielded ops a.tmps)=true then o.wpIn (fw ro) n G.P a w (KRel G e0 σ0 w0 ds N Z K) (ZD G e0 σ0 w0 ds N Z Q)
  else KRel G e0 σ0 w0 ds N Z K (a.put o.dst Go.undef) w:=by
 unfold ZgM at h
 split at h
 ·rename_i hb
  have hg:o.guard=none:=by
   unfold Zet at hb
   split at hb
   ·split at hb
    ·assumption
    cases hb
   cases hb
  have:Region.wanted o (yielded ops a.tmps)=true:=by simp [Region.wanted,hg]
  rw [Tj this];simp only [ZC] at h;have gx:∀c,o.op≠.defer c:=fun c hc=>by rw [hc] at h;exact h
  refine ⟨fun _ _=>trivial,?_⟩;rw [show (fw ro).round=ro from rfl,Oper.semAt_eq _ _ _ gx];obtain ⟨pv,σ1,v,w1,e1,hK,ah,hst,gg,hr⟩:=ZlK hC.tab hS (fun x=>Zbl hF x) o h;rw [ah];exact KRel.put hF hL hN bl hZ hd hK hst gg hr
 exact Vv hC hS hF hL hN bl hZ hd h
theorem ZeB (hC:CxOK G C ro e0 σ0 w0) {ops:Array Oper} (hd:∀o,o∈ops->∀d,o.dst=some d->d<N/\∀t v,Z t->Z (t.setIfInBounds d v)):∀(l:List Oper) (k:Nat),(∀j,l[j]?=ops[k+j]?)->∀{e:Env} {σ:St} {w:World} {a:Act} {f:Frame},
  SRel G e σ w->FRel G e σ w f a.tmps->Later e0 σ0 w0 e σ w->a.tmps.size=N->Marks ds e σ w a.defers->Z a.tmps->ZdV C ops.toList Q l f σ ->
  wpOpsIn (fw ro) n G.P ops (ZD G e0 σ0 w0 ds N Z Q) (List.range' k l.length) a w
 | [],k,_,e,σ,w,a,f,hS,hF,hL,hN,bl,hZ,h=>⟨.normal,f,e,σ,h,rfl,hS,hF,hL,hN,bl,hZ⟩
 | o::l,k,hl,e,σ,w,a,f,hS,hF,hL,hN,bl,hZ,h=>by
  have h0:ops[k]?=some o:=by simpa using (hl 0).symm
  have bo:=Zbn (ro:=ro) (n:=n) hC hS hF hL hN bl hZ (ops:=ops) (hd o (Sa h0)) h;have next:∀a' w',KRel G e0 σ0 w0 ds N Z (ZdV C ops.toList Q l) a' w'->wpOpsIn (fw ro) n G.P ops (ZD G e0 σ0 w0 ds N Z Q) (List.range' (k+1) l.length) a' w':=fun a' w' ⟨f',e',σ',h1,h2,h3,h4,h5,h6,h7⟩ =>
   ZeB hC hd l (k+1) (fun j=>by have:=hl (j+1);simpa [Sh,Nat.add_comm 1 j] using this) h2 h3 h4 h5 h6 h7 h1
  rw [Tc,List.range'_succ];simp only [wpOpsIn,h0];split at bo
  ·rename_i hw
   rw [Tj hw];exact Oper.wpIn_mono next bo
  rename_i hw
  rw [Tg hw];exact ⟨fun _ _=>trivial,next _ _ bo⟩
end
end Go.PM
end

section
namespace Go.PM
theorem Zb1 {k:IntKind} {n:Int} {K:PV->Prop} (h:ZbQ k n K):∃v,K v/\∀K':PV->Prop,K' v->ZbQ k n K':=by
 rcases h with ⟨h1,h2⟩ | h
 ·exact ⟨_,h2,fun K' h'=>.inl ⟨h1,h'⟩⟩
 exact ⟨_,h,fun K' h'=>.inr h'⟩
theorem ZuH {op:BinOp} {k:IntKind} {a b:Int} {K:PV->Prop} (h:ZtB op k a b K):∃v,K v/\∀K':PV->Prop,K' v->ZtB op k a b K':=by
 cases op <;> simp only [ZtB] at h <;> first
  | exact h.elim
  | exact Zb1 h
  | exact ⟨_,h,fun K' h'=>h'⟩
  | (obtain ⟨v,h1,h2⟩:=Zb1 h.2;exact ⟨v,h1,fun K' h'=>⟨h.1,h2 K' h'⟩⟩)
  | exact ⟨_,h.2,fun K' h'=>⟨h.1,h'⟩⟩
theorem Vw {T:Tab}:∀{fs:List (Nat×Nat)} {i:Nat} {xs ys:List PV} {K:Bool->Prop},Yj T i fs xs ys K->∃v,K v/\∀K':Bool->Prop,K' v->Yj T i fs xs ys K'
 | [],i,xs,ys,K,h=>by cases xs <;> cases ys <;> first | exact ⟨_,h,fun K' h'=>h'⟩ | exact h.elim
 | (o,t)::fs,i,[],ys,K,h=>h.elim
 | (o,t)::fs,i,x::xs,[],K,h=>h.elim
 | (o,t)::fs,i,x::xs,y::ys,K,h=>by
  simp only [Yj] at h;split at h
  ·rename_i h1 h2
   split at h
   ·rename_i h3
    obtain ⟨v,g1,g2⟩:=Vw h;exact ⟨_,g1,fun K' h'=>by simp only [Yj,h1,h2,h3];exact g2 (fun r=>K' _) h'⟩
   exact h.elim
  ·exact m120
  ·exact m120
  exact h.elim
theorem ZxW {T:Tab} {t:TypeId} {x y:Operand} {px py:PV} {K:Bool->Prop} (h:peq T t x y px py K):∃v,K v/\∀K':Bool->Prop,K' v->peq T t x y px py K':=by
 unfold peq at h
 split at h
 case h_7 =>
  rename_i hk
  split at h
  ·rename_i he
   split at h
   ·obtain ⟨v,g1,g2⟩:=Vw h;exact ⟨v,g1,fun K' h'=>by simp only [peq,hk,he];exact g2 K' h'⟩
   exact h.elim
  exact h.elim
 all_goals (repeat' split at h) <;> first
  | exact h.elim
  | exact ⟨_,h,fun K' h'=>by simp only [peq, *];exact h'⟩
  | exact ⟨_,h,fun K' h'=>by simp only [peq, *]⟩
theorem ZuI {T:Tab} {op:BinOp} {t:TypeId} {x y:Operand} {px py:PV} {K:PV->Prop} (h:Zrt T op t x y px py K):∃v,K v/\∀K':PV->Prop,K' v->Zrt T op t x y px py K':=by
 unfold Zrt at h
 split at h
 ·split at h
  ·obtain ⟨v,h1,h2⟩:=Zb1 h.2;exact ⟨_,h1,fun K' h'=>⟨h.1,h2 K' h'⟩⟩
  ·exact ⟨_,h.2,fun K' h'=>⟨h.1,h'⟩⟩
  rename_i h1 h2
  split at h
  ·rename_i hk
   obtain ⟨v,g1,g2⟩:=ZuH h;refine ⟨v,g1,fun K' h'=>?_⟩
   cases op <;> first
    | exact absurd rfl h1
    | exact absurd rfl h2
    | (simp only [Zrt,hk];exact g2 K' h')
  exact h.elim
 ·cases op <;> simp only at h <;> first
   | exact h.elim
   | exact ⟨_,h,fun K' h'=>h'⟩
   | exact ⟨_,h.2,fun K' h'=>⟨h.1,h'⟩⟩
 rename_i h1 h2
 cases op <;> simp only at h <;> first
  | exact h.elim
  | (obtain ⟨v, g1, g2⟩ := ZxW h
     refine ⟨_,g1,fun K' h'=>?_⟩;unfold Zrt
     split
     ·exact absurd rfl (h1 _ _ _ _ rfl)
     ·exact absurd rfl (h2 _ _ rfl)
     exact g2 _ h')
theorem Zcy {lo hi:Option PV} {n:Nat} {K:Nat->Nat->Prop} (h:X0 lo hi n K):∃a b,K a b/\∀K':Nat->Nat->Prop,K' a b->X0 lo hi n K':=by
 unfold X0 at h
 split at h
 ·exact ⟨_,_,h,fun K' h'=>h'⟩
 ·split at h
  ·exact ⟨_,_,h.2.2,fun K' h'=>⟨h.1,h.2.1,h'⟩⟩
  exact h.elim
 ·split at h
  ·exact ⟨_,_,h.2.2,fun K' h'=>⟨h.1,h.2.1,h'⟩⟩
  exact h.elim
 split at h
 ·exact ⟨_,_,h.2.2.2,fun K' h'=>⟨h.1,h.2.1,h.2.2.1,h'⟩⟩
 exact h.elim
theorem Zfx {T:Tab} {t:TypeId} {x:PV} {bx:List Box} {K:PV->Prop} (h:Je T t x bx K):∃v,K v/\∀K':PV->Prop,K' v->Je T t x bx K':=by
 unfold Je at h
 (repeat' split at h) <;> first
  | exact h.elim
  | exact ⟨_,h,fun K' h'=>by simp only [Je, *];exact h'⟩
  | exact ⟨_,h,fun K' h'=>by simp_all [Je]⟩
theorem ZlM {T:Tab} {t:TypeId} {m k:PV} {ok:Bool} {bx:List Box} {K:PV->Prop} (h:YW T t m k ok bx K):∃v,K v/\∀K':PV->Prop,K' v->YW T t m k ok bx K':=by
 unfold YW at h
 split at h
 ·rename_i kt el hk
  split at h
  ·exact h.elim
  rename_i ho
  have lift:∀{X:Prop},X->(match (generalizing:=false) (T.get el).kind with | .other=>False | _=>X):=fun {X} x=>by
   cases o4:(T.get el).kind
   case other=>exact absurd o4 ho
   all_goals exact x
  split at h
  ·split at h
   ·rename_i hz
    split at h
    ·exact ⟨_,h,fun K' h'=>by simp only [YW,hk,hz];exact h'⟩
    ·split at h
     ·rename_i hb
      split at h
      ·rename_i hf;exact ⟨_,h,fun K' h'=>by simp only [YW,hk,hz,hb,hf];exact h'⟩
      rename_i hf;exact ⟨_,h,fun K' h'=>by simp only [YW,hk,hz,hb,hf];exact h'⟩
     ·rename_i hb
      rcases h.ex with ⟨a,ha,h⟩ | ⟨ha,h⟩
      ·exact ⟨_,h,fun K' h'=>by simp only [YW,hk,hz,hb];exact .yes ha h'⟩
      exact ⟨_,h,fun K' h'=>by simp only [YW,hk,hz,hb];exact .no ha h'⟩
     exact h.elim
    exact h.elim
   exact h.elim
  exact h.elim
 exact h.elim
theorem Zfy {T:Tab} {t:TypeId} {m k:PV} {ok:Bool} {bx bx':List Box} {K:PV->Prop} (hl:∀b,m=.mp b->ZZ bx b 0 0=ZZ bx' b 0 0) (h:YW T t m k ok bx K):YW T t m k ok bx' K:=by
 cases m with
 | mp b =>
  have hc:=hl b rfl;have:(∀cs bn ck,bx[b]?=some (.map cs bn ck)->∃bn' ck',bx'[b]?=some (.map cs bn' ck')):=fun cs bn ck hb=>by
   unfold ZZ at hc
   rw [hb] at hc;simp only at hc;split at hc
   ·cases hc
   ·rename_i cs' bn' ck' iz;cases hc;exact ⟨bn',ck',iz⟩
   ·cases hc
   cases hc
  have this2:∀l,bx[b]?=some (.dmap l)->bx'[b]?=some (.dmap l):=fun l hb=>by
   unfold ZZ at hc
   rw [hb] at hc;simp only at hc;split at hc
   ·cases hc
   ·cases hc
   ·rename_i iz;cases hc;exact iz
   cases hc
  unfold YW at h |-
  split at h
  ·rename_i kt el hk
   split at h
   ·exact h.elim
   rename_i ho
   have lift:∀{X:Prop},X->(match (generalizing:=false) (T.get el).kind with | .other=>False | _=>X):=fun {X} x=>by
    cases o4:(T.get el).kind
    case other=>exact absurd o4 ho
    all_goals exact x
   split at h
   ·split at h
    ·simp only at h |-;split at h
     ·rename_i cs bn ck hb
      obtain ⟨bn',ck',iz⟩:=this cs bn ck hb;simp only [iz];exact h
     ·rename_i l hb
      simp only [this2 l hb];exact h
     exact h.elim
    exact h.elim
   exact h.elim
  exact h.elim
 | _=>exact h
theorem Zny {T:Tab} {t:TypeId} {x:PV} {lo hi:Option PV} {K:PV->Prop} (h:VQ T t x lo hi K):∃v,K v/\∀K':PV->Prop,K' v->VQ T t x lo hi K':=by
 unfold VQ at h
 split at h
 ·rename_i hk
  split at h
  ·obtain ⟨a,b,h1,h2⟩:=Zcy h;exact ⟨_,h1,fun K' h'=>by simp only [VQ,hk];exact h2 (fun a b=>K' _) h'⟩
  exact h.elim
 ·rename_i el hk
  split at h
  ·exact h.elim
  rename_i bj
  split at h
  ·rename_i rows bh
   obtain ⟨hw,h⟩:=h;obtain ⟨a,b,h1,h2⟩:=Zcy h;refine ⟨_,h1,fun K' h'=>?_⟩;unfold VQ
   rw [hk];dsimp only
   cases eh:(T.get el).kind
   case other=>exact absurd eh bj
   all_goals (dsimp only;rw [bh];exact ⟨hw,h2 (fun a b=>K' _) h'⟩)
  exact h.elim
 ·rename_i n el hk
  split at h
  ·exact h.elim
  rename_i bj
  split at h
  ·refine ⟨_,h,fun K' h'=>?_⟩;unfold VQ
   rw [hk];dsimp only
   cases eh:(T.get el).kind
   case other=>exact absurd eh bj
   all_goals exact h'
  ·rename_i po pp
   obtain ⟨g1,g2,h⟩:=h;refine ⟨_,h,fun K' h'=>?_⟩;unfold VQ
   rw [hk];dsimp only
   cases eh:(T.get el).kind
   case other=>exact absurd eh bj
   all_goals exact ⟨g1,g2,h'⟩
  exact h.elim
 exact h.elim
theorem Ziz {T:Tab} {fs:List (Nat×Nat)} {ρ:Operand->PV}:∀{ps:List (Nat×Operand)} {cs:List PV} {K:List PV->Prop},Z3 T fs ρ ps cs K->∃v,K v/\∀K':List PV->Prop,K' v->Z3 T fs ρ ps cs K'
 | [],cs,K,h=>⟨cs,h,fun K' h'=>h'⟩
 | (i,x)::ps,cs,K,h=>by
  simp only [Z3] at h;split at h
  ·split at h
   ·exact h.elim
   ·obtain ⟨v,h1,h2⟩:=Ziz h;exact ⟨v,h1,fun K' h'=>by have:=h2 K' h';simp only [Z3, *]⟩
   exact h.elim
  exact h.elim
theorem ZxX {T:Tab} {o:Op} {ty:TypeId} {ρ:Operand->PV} {bx:List Box} {K:PV->Prop} (h:qop T o ty ρ bx K):∃v,K v/\∀K':PV->Prop,K' v->qop T o ty ρ bx K':=by
 unfold qop at h
 split at h
 case h_5=>obtain ⟨v,h1,h2⟩:=Zfx h;exact ⟨v,h1,fun K' h'=>h2 K' h'⟩
 case h_6=>obtain ⟨v,h1,h2⟩:=ZlM h;exact ⟨v,h1,fun K' h'=>h2 K' h'⟩
 case h_8=>obtain ⟨v,h1,h2⟩:=ZuI h;exact ⟨v,h1,fun K' h'=>h2 K' h'⟩
 case h_15=>obtain ⟨v,h1,h2⟩:=Zny h;exact ⟨v,h1,fun K' h'=>h2 K' h'⟩
 case h_4 =>
  split at h
  ·rename_i fs hk;obtain ⟨v,h1,h2⟩:=Ziz h;exact ⟨_,h1,fun K' h'=>by simp only [qop,hk];exact h2 (fun cs=>K' (.agg cs)) h'⟩
  ·rename_i n el hk
   split at h
   ·exact h.elim
   rename_i bj
   split at h
   ·rename_i cj
    obtain ⟨v,h1,h2⟩:=Ziz h;refine ⟨_,h1,fun K' h'=>?_⟩;have h3:=h2 (fun cs=>K' (.agg cs)) h';simp only [qop,hk]
    cases o4:(T.get el).kind
    case other=>exact absurd o4 bj
    all_goals (simp only [cj];exact h3)
   exact h.elim
  exact h.elim
 case h_3 =>
  split at h
  ·rename_i t bu
   cases t
   ·exact ⟨_,h,fun K' h'=>by simp only [qop,bu];exact h'⟩
   exact ⟨_,h,fun K' h'=>by simp only [qop,bu];exact h'⟩
  exact h.elim
 all_goals (repeat' split at h) <;> first
  | exact h.elim
  | exact ⟨_,h,fun K' h'=>by first | (simp only [qop, *];exact h') | (simp only [qop, *])⟩
  | (obtain ⟨v,h1,h2⟩:=Zb1 h;exact ⟨_,h1,fun K' h'=>by first | (simp only [qop, *];exact h2 K' h') | (simp only [qop, *])⟩)
  | (obtain ⟨h1,h2⟩:=h;exact ⟨_,h2,fun K' h'=>by simp only [qop, *];exact ⟨h1,h'⟩⟩)
  | (obtain ⟨h0,h1,h2⟩:=h;exact ⟨_,h2,fun K' h'=>by first | (simp only [qop, *];exact ⟨h0,h1,h'⟩) | (simp only [qop, *];exact ⟨trivial,trivial,h'⟩)⟩)
  | skip
 ·rename_i h1 _ h2 _ h3 _ rows h4
  obtain ⟨l,hl,hK⟩:=h;exact ⟨_,hK,fun K' h'=>by simp only [qop,h1,h2,h3,h4];exact ⟨l,hl,h'⟩⟩
 ·rename_i h1 _ h2 _ s h3
  obtain ⟨h4,h5,hK⟩:=h;exact ⟨_,hK,fun K' h'=>by simp only [qop,h1,h2,h3];exact ⟨h4,h5,h'⟩⟩
 ·rename_i hi _ m el hk _ cs hx _ ha _ l hl
  obtain ⟨h4,h5,hK⟩:=h;exact ⟨_,hK,fun K' h'=>by simp only [qop,hi,hk,hx,ha,hl];exact ⟨h4,h5,h'⟩⟩
 ·rename_i hi _ m el hk _ cs hx _ ha _ ho _ hs _ v hv
  obtain ⟨h4,h5,hK⟩:=h;refine ⟨_,hK,fun K' h'=>?_⟩;simp only [qop,hi,hk,hx,ha]
  cases eh:(T.get el).kind
  case other=>exact absurd eh ho
  all_goals (simp only [hs,hv];exact ⟨h4,h5,h'⟩)
 ·rename_i hi _ el hk _ ho _ b off m hx
  exact m102
 ·rename_i hi _ el hk _ ho _ ao _ rows hr
  obtain ⟨r,h4,h5,h6⟩:=h;split at h6
  ·rename_i h7
   refine ⟨_,h6,fun K' h'=>?_⟩;simp only [qop,hi,hk]
   cases eh:(T.get el).kind
   case other=>exact absurd eh ho
   all_goals
    split
    ·rename_i ce;rw [hr] at ce;cases ce;exact ⟨r,h4,h5,by simp only [h7];exact h'⟩
    rename_i ce;exact (ce _ hr).elim
  exact h6.elim
 rename_i hi _ m el hk _ ho _ b off hx
 exact m102
theorem ZlN {T:Tab} {o:Op} {ty:TypeId} {ρ:Operand->PV} {bx:List Box} {K:PV->Prop} (h1:ZgJ T o=none) (h2:∀t n ps,o=.buildSlice t n ps->False) (h3:∀t l c,o=.makeSlice t l c->False):Zfr T o ty ρ bx K=qop T o ty ρ bx K:=by
 unfold Zfr
 rw [h1]
 cases o <;> first | rfl | exact (h2 _ _ _ rfl).elim | exact (h3 _ _ _ rfl).elim
theorem Znz {T:Tab} {o:Op} {ty:TypeId} {ρ:Operand->PV} {bx:List Box} {K:PV->Prop} (h:Zfr T o ty ρ bx K):∃v,K v/\∀K':PV->Prop,K' v->Zfr T o ty ρ bx K':=by
 unfold Zfr at h
 split at h
 ·rename_i x hx
  split at h
  ·rename_i s bu
   exact ⟨_,h,fun K' h'=>by unfold Zfr;rw [hx];simp only [bu];exact h'⟩
  exact h.elim
 rename_i hx
 split at h
 ·rename_i t n ps
  exact m131
 ·rename_i t l c
  exact m131
 rename_i i7 ut
 obtain ⟨v,h1,h2⟩:=ZxX h;exact ⟨v,h1,fun K' h'=>by rw [ZlN hx i7 ut];exact h2 K' h'⟩
theorem ZiA {bx bx':List Box} {b off n:Nat} (h:ZZ bx b off n=ZZ bx' b off n) {t:TypeId} {cs:List PV} (hb:bx[b]?=some (.cells t cs)) :
  ∃t' cs',bx'[b]?=some (.cells t' cs')/\(cs.drop off).take n=(cs'.drop off).take n:=by
 unfold ZZ at h
 rw [hb] at h;simp only at h;split at h
 ·rename_i t' cs' iz;exact ⟨t',cs',iz,(Prod.mk.inj (Prod.mk.inj (Option.some.inj h)).2).1⟩
 ·cases h
 ·cases h
 cases h
theorem Zcz {α:Type}:∀{n:Nat} {l m:List α},l.take n=m.take n->WE n l=WE n m
 | 0,_,_,_=>rfl
 | n+1,[],[],_=>rfl
 | n+1,[],y::m,h=>by simp at h
 | n+1,x::l,[],h=>by simp at h
 | n+1,x::l,y::m,h=>by
  simp only [List.take_succ_cons,List.cons.injEq] at h;obtain ⟨rfl,h⟩:=h;simp only [WE,Zcz h]
theorem ZiB {T:Tab} {t:TypeId} {x:PV} {bx bx':List Box} {K:PV->Prop} (ay:(T.get t).kind≠.other->(T.get t).kind.isAgg=false->(T.get t).size=1) (hl:∀b off,x=.ptr b off->ZZ bx b off (T.get t).size=ZZ bx' b off (T.get t).size)
  (h:Je T t x bx K):Je T t x bx' K:=by
 unfold Je at h |-
 split at h
 ·rename_i b off
  have hc:=hl b off rfl;split at h
  ·rename_i ty cs hb
   obtain ⟨t',cs',iz,qc⟩:=ZiA hc hb;simp only [iz];split at h
   ·rename_i hk
    rw [<- Zcz qc];exact h
   rename_i hk
   have h1:(T.get t).kind≠.other->cs[off]?=cs'[off]?:=fun ho=>by
    have hp:=ay ho hk;have:=congrArg (·[0]?) qc
    simpa [List.getElem?_take,hp] using this
   cases bj:(T.get t).kind <;> rw [bj] at h <;> simp only at h |- <;> first | exact h.elim | (rw [<- h1 (by rw [bj];simp)];exact h)
  exact h.elim
 ·exact h
 exact h.elim
theorem ZnA {T:Tab} {o:Op} {ty:TypeId} {ρ ρ':Operand->PV} {bx bx':List Box} {K:PV->Prop} (hρ:∀x,x∈o.operands->ρ x=ρ' x)
  (ay:∀t,(T.get t).kind≠.other->(T.get t).kind.isAgg=false->(T.get t).size=1)
  (hl:∀b off n,ZlD T o ρ=some (b,off,n)->ZZ bx b off n=ZZ bx' b off n) (h:qop T o ty ρ bx K):qop T o ty ρ' bx' K:=by
 cases o with
 | load t a =>
  have ha:ρ a=ρ' a:=hρ a oP;simp only [qop] at h |-;rw [<- ha];exact ZiB (ay t) (fun b off hx=>hl b off _ (by simp only [ZlD,hx])) h
 | lookup t m k ok =>
  simp only [qop] at h |-;rw [<- hρ m oP,<- hρ k oP];exact Zfy (fun b hx=>hl b 0 0 (by simp only [ZlD,hx])) h
 | build t ps =>
  simp only [qop] at h |-;have fillC:∀fs (l:List (Nat×Operand)),(∀p∈l,ρ p.2=ρ' p.2)->∀cs (K:List PV->Prop),Z3 T fs ρ l cs K->Z3 T fs ρ' l cs K:=by
    intro fs l
    induction l with
    | nil=>intro _ cs K h;exact h
    | cons p l ih =>
    intro hp cs K h
    obtain ⟨i,x⟩:=p;simp only [Z3] at h |-;rw [<- hp (i,x) sM];split at h
    ·rename_i h1 h2
     split at h
     ·exact h.elim
     ·rename_i h3 h4 h5
      simp only [h1,h2,h3,h4]
      cases o4:(T.get _).kind
      case other=>exact absurd o4 h5
      all_goals exact ih (fun q hq=>hp q (by simp [hq])) _ _ h
     exact h.elim
    exact h.elim
  have rp:∀p∈ps.toList,ρ p.2=ρ' p.2:=fun p hp=>hρ p.2 (by simp only [Op.operands];exact TE.2 (by simp only [SB];exact ⟨p,hp,rfl⟩))
  split at h
  ·exact fillC _ ps.toList rp _ _ h
  ·rename_i n el hk
   split at h
   ·exact h.elim
   rename_i bj
   split at h
   ·rename_i cj
    cases o4:(T.get el).kind
    case other=>exact absurd o4 bj
    all_goals (exact fillC _ ps.toList rp _ _ h)
   exact h.elim
  exact h.elim
 | slice t x lo hi mx =>
  cases mx with
  | some _=>exact h
  | none =>
  simp only [qop] at h |-;have h1:ρ x=ρ' x:=hρ x oP;have h2:lo.map ρ=lo.map ρ':=by cases lo with | none=>rfl | some a=>simp [hρ a oP]
  have h3:hi.map ρ=hi.map ρ':=by cases hi with | none=>rfl | some a=>simp [hρ a oP]
  rw [<- h1,<- h2,<- h3];exact h
 | makeFunc fn a c =>
  cases fn with
  | func g =>
   simp only [qop] at h |-;have h1:a.toList.map ρ=a.toList.map ρ':=Su fun x hx=>hρ x (by simp only [Op.operands,Array.mem_append];exact .inl (TE.2 hx))
   have h2:c.toList.map ρ=c.toList.map ρ':=Su fun x hx=>hρ x (by simp only [Op.operands,Array.mem_append];exact .inr (TE.2 hx))
   rw [<- h1,<- h2];exact h
  | _=>exact h
 | call c =>
  obtain ⟨callee,args,argTypes⟩:=c
  cases callee with
  | builtin b =>
   simp only [qop] at h |-;have h1:args.toList.map ρ=args.toList.map ρ':=Su fun x hx=>hρ x (by simp only [Op.operands,Call.operands,Array.empty_append];exact TE.2 hx)
   rw [<- h1];split at h
   ·rename_i t ts v ux bz
    split at h
    ·exact h
    ·exact h
    ·rename_i hk
     split at h
     ·exact h
     ·rename_i b
      have hc:=hl b 0 0 (by simp only [ZlD,bz]);split at h
      ·rename_i cs bn ck hb
       unfold ZZ at hc
       rw [hb] at hc;simp only at hc;split at hc
       ·cases hc
       ·rename_i cs' bn' ck' iz;cases hc;simp only [iz];exact h
       ·cases hc
       cases hc
      ·rename_i m hb
       unfold ZZ at hc
       rw [hb] at hc;simp only at hc;split at hc
       ·cases hc
       ·cases hc
       ·rename_i iz;cases hc;simp only [iz];exact h
       cases hc
      exact h.elim
     exact h.elim
    exact h.elim
   ·exact h
   ·exact h
   exact h.elim
  | _=>exact h
 | move x=>simp only [qop] at h |-;rw [<- hρ x oP];exact h
 | assign x=>simp only [qop] at h |-;rw [<- hρ x oP];exact h
 | pick c a b=>simp only [qop] at h |-;rw [<- hρ c oP,<- hρ a oP,<- hρ b oP];exact h
 | nilCheck x=>simp only [qop] at h |-;rw [<- hρ x oP];exact h
 | binOp op t x y yt=>simp only [qop] at h |-;rw [<- hρ x oP,<- hρ y oP];exact h
 | unOp op t x=>simp only [qop] at h |-;rw [<- hρ x oP];exact h
 | convert s d x=>simp only [qop] at h |-;rw [<- hρ x oP];exact h
 | fieldAddr s x i=>simp only [qop] at h |-;rw [<- hρ x oP];exact h
 | field s x i=>simp only [qop] at h |-;rw [<- hρ x oP];exact h
 | index t x i=>simp only [qop] at h |-;rw [<- hρ x oP,<- hρ i oP];exact h
 | indexAddr t x i=>simp only [qop] at h |-;rw [<- hρ x oP,<- hρ i oP];exact h
 | extract x i=>simp only [qop] at h |-;rw [<- hρ x oP];exact h
 | makeInterface t x=>simp only [qop] at h |-;rw [<- hρ x oP];exact h
 | typeAssert x xt t b=>cases b <;> simp only [qop] at h |- <;> first | exact h.elim | (rw [<- hρ x oP];exact h)
 | _=>exact h
theorem Zfz {T:Tab} {o:Op} {x:Operand} (h:ZgJ T o=some x):x∈o.operands/\∀t a,o≠.load t a:=by
 unfold ZgJ at h
 split at h
 ·(repeat' split at h) <;> first | cases h;done | (cases h;exact ⟨oP,fun t a hh=>by cases hh⟩)
 cases h
theorem U2 {w:Nat} {ρ ρ':Operand->PV}:∀{ps:List (Nat×Operand)} (_:∀p∈ps,ρ p.2=ρ' p.2) (rows:List (List D)),X1 w ρ ps rows=X1 w ρ' ps rows
 | [],_,_=>rfl
 | (i,x)::ps,h,rows=>by
  simp only [X1];rw [<- h (i,x) sM]
  cases ZgK (ρ x) with
  | none=>rfl
  | some r =>
  have ih:=U2 (w:=w) (ρ:=ρ) (ρ':=ρ') (ps:=ps) (fun p hp=>h p (Tu _ hp)) (rows.set i r);simp only [ih]
theorem ZeC {T:Tab} {o:Op} {ty:TypeId} {ρ ρ':Operand->PV} {bx bx':List Box} {K:PV->Prop} (hρ:∀x,x∈o.operands->ρ x=ρ' x)
  (ay:∀t,(T.get t).kind≠.other->(T.get t).kind.isAgg=false->(T.get t).size=1)
  (hl:∀b off n,ZlD T o ρ=some (b,off,n)->ZZ bx b off n=ZZ bx' b off n) (h:Zfr T o ty ρ bx K):Zfr T o ty ρ' bx' K:=by
 unfold Zfr at h |-
 split at h
 ·rename_i x hx
  rw [<- hρ x (Zfz hx).1];exact h
 rename_i hx
 split at h
 ·rename_i t n ps
  have:∀w rows,X1 w ρ ps.toList rows=X1 w ρ' ps.toList rows:=fun w rows=>U2 (fun p hp=>hρ p.2 (by simp only [Op.operands];exact TE.2 (by simp only [SB];exact ⟨p,hp,rfl⟩))) rows
  simp only [Zat,this] at h |-;exact h
 ·rename_i t l c
  rw [<- hρ l oP,<- hρ c oP];exact h
 exact ZnA hρ ay hl h
theorem ZnB {T:Tab} {o:Op} {ρ ρ':Operand->PV} {σ:St} {K:PV->St->Prop} (hρ:∀x,x∈o.operands->ρ x=ρ' x) (h:eop T o ρ σ K):eop T o ρ' σ K:=by
 cases o with
 | box e x=>simp only [eop] at h |-;rw [<- hρ x oP];exact h
 | store t a x=>simp only [eop] at h |-;rw [<- hρ a oP,<- hρ x oP];exact h
 | mapUpdate t a x v=>simp only [eop] at h |-;rw [<- hρ a oP,<- hρ x oP,<- hρ v oP];exact h
 | insert t a x v=>simp only [eop] at h |-;rw [<- hρ a oP,<- hρ x oP,<- hρ v oP];exact h
 | makeMap t r=>cases r <;> exact h
 | range t x=>simp only [eop] at h |-;rw [<- hρ x oP];exact h
 | next x b=>cases b <;> simp only [eop] at h |- <;> first | exact h | (rw [<- hρ x oP];exact h)
 | call c =>
  obtain ⟨callee,args,argTypes⟩:=c
  cases callee with
  | builtin b =>
   cases b with
   | append =>
    simp only [eop] at h |-;have h1:args.toList.map ρ=args.toList.map ρ':=Su fun x hx=>hρ x (by simp only [Op.operands,Call.operands,Array.empty_append];exact TE.2 hx)
    rw [<- h1];exact h
   | _=>exact h
  | _=>exact h
 | _=>exact h
end Go.PM
end

section
namespace Go.PM
def Xd (all:List Oper) (o:Oper) (f:Frame):Option Bool:=match o.guard with
 | none=>some true
 | some (j,want)=>match XE all j with
  | some s=>match f s with
   | .d (.bool t)=>some (t == want)
   | .raw (.tuple _)=>some false
   | _=>none
  | none=>none
theorem Y3 (C:Cx) (all:List Oper) (Q:PQ) (o:Oper) (f:Frame) (σ:St) (K:Frame->St->Prop) :
  Wf C all Q o f σ K↔match Xd all o f with
   | some true=>XS C o f σ Q K
   | some false=>K (Yf f o.dst (.raw Go.undef)) σ
   | none=>False:=by
 unfold Wf Xd
 cases hg:o.guard with
 | none=>exact Iff.rfl
 | some p =>
 obtain ⟨j,want⟩:=p;simp only
 cases hs:XE all j with
 | none=>exact Iff.rfl
 | some s =>
 simp only
 cases hf:f s with
 | d x =>
  cases x with
  | bool t=>cases t <;> cases want <;> simp only [CondP,Xi hf,ZT] <;> exact Iff.rfl
  | _=>exact Iff.rfl
 | raw v=>cases v <;> simp only [ZT] <;> exact Iff.rfl
 | _=>exact Iff.rfl
structure CxMono (C:Cx):Prop where
 one:∀t,(C.T.get t).kind≠.other->(C.T.get t).kind.isAgg=false->(C.T.get t).size=1
 call:∀g args σ (K K':PEnd->St->Prop),(∀e σ,K e σ->K' e σ)->C.call g args σ K->C.call g args σ K'
 raw:∀v args σ (K:PEnd->St->Prop),¬C.raw v args σ K
 quiet:C.pk=false
theorem JQ {T:Tab} {o:Op} {ty:TypeId} {ρ:Operand->PV} {bx:List Box} {K K':PV->Prop} (hK:∀v,K v->K' v) (h:Zfr T o ty ρ bx K):Zfr T o ty ρ bx K' :=
 let ⟨v,h1,h2⟩:=Znz h;h2 K' (hK v h1)
theorem ZlO {t:Bool} {X Y X' Y':Prop} (h1:X->X') (h2:Y->Y') (h:CondP t X Y):CondP t X' Y':=by cases t;exact h2 h;exact h1 h
theorem ZiC {T:Tab} {t:TypeId} {m k x:PV} {σ:St} {K K':PV->St->Prop} (hK:∀v σ,K v σ->K' v σ) (h:JM T t m k x σ K):JM T t m k x σ K':=by
 unfold JM at h |-
 (repeat' split at h) <;> first
  | exact h.elim
  | exact hK _ _ h
theorem Zb2 {T:Tab} {o:Op} {ρ:Operand->PV} {σ:St} {K K':PV->St->Prop} (hK:∀v σ,K v σ->K' v σ) (h:eop T o ρ σ K):eop T o ρ σ K':=by
 unfold eop at h |-
 (repeat' split at h) <;> first
  | exact h.elim
  | exact hK _ _ h
  | exact ZiC hK h
  | exact ZlO (hK _ _) (hK _ _) h
  | exact ⟨h.1,h.2.1,h.2.2.1,hK _ _ h.2.2.2⟩
  | (rename_i hk;exfalso;simp_all;done)
section
variable {C:Cx} {all:List Oper} {Q:PQ} {f:Frame} {σ:St} {K K':Frame->St->Prop}
theorem ZlP (hM:CxMono C) {o:Oper} (hK:∀f σ,K f σ->K' f σ) (h:XS C o f σ Q K):XS C o f σ Q K':=by
 unfold XS at h |-
 simp only [ZC,ZF] at h |-;split at h
 ·exact JQ (fun v hv=>by rw [ZT] at hv |-;exact hK _ _ hv) h
 split at h
 ·unfold Zcl at h |-
  split at h
  ·refine hM.call _ _ _ _ _ (fun e σ he=>?_) h
   cases e with
   | ret v=>simp only at he |-;rw [ZT] at he |-;exact hK _ _ he
   | panic v=>exact he
  ·exact (hM.raw _ _ _ _ h).elim
  exact h
 ·exact h
 exact Zb2 (fun v σ hv=>by rw [ZT] at hv |-;exact hK _ _ hv) h
theorem Zay (hM:CxMono C) {o:Oper} (hK:∀f σ,K f σ->K' f σ) (h:Wf C all Q o f σ K):Wf C all Q o f σ K':=by
 rw [Y3] at h |-;split at h
 ·exact ZlP hM hK h
 ·exact hK _ _ h
 exact h
def looks (all:List Oper) (o:Oper):List Nat :=
 (o.op.operands.toList.filterMap fun | .tmp t=>some t | _=>none)++(match o.guard with | some (j,_)=>(XE all j).toList | none=>[])
theorem ZiD {f f':Frame} {o:Oper} (h:∀d,d∈looks all o->f d=f' d) {x:Operand} (hx:x∈o.op.operands):ev f x=ev f' x:=by
 cases x with
 | tmp t =>
  refine h t ?_;unfold looks
  refine TN.2 (.inl (List.mem_filterMap.2 ⟨.tmp t,TE.1 hx,rfl⟩))
 | _=>rfl
theorem Zaz {f f':Frame} {o:Oper} (h:∀d,d∈looks all o->f d=f' d):Xd all o f=Xd all o f':=by
 unfold Xd
 cases hg:o.guard with
 | none=>rfl
 | some p =>
 obtain ⟨j,want⟩:=p;simp only
 cases hs:XE all j with
 | none=>rfl
 | some s =>
 simp only;rw [h s (by unfold looks;rw [hg];simp only [hs];simp)]
theorem ZeD {d d':Option Nat} (h:∀i,d=some i->d'≠some i) (f:Frame) (v u:PV):Yf (Yf f d v) d' u=Yf (Yf f d' u) d v:=by
 cases d with
 | none=>rfl
 | some i =>
 cases d' with
 | none=>rfl
 | some j =>
 have ir:i≠j:=fun e=>h i rfl (by rw [e])
 funext k
 simp only [Yf]
 by_cases h1:j=k
 ·subst h1;rw [Ys,Xg _ _ ir,Ys]
 rw [Xg _ _ h1]
 by_cases h2:i=k
 ·subst h2;rw [Ys,Ys]
 rw [Xg _ _ h2,Xg _ _ h2,Xg _ _ h1]
theorem JR {d:Option Nat} {v:PV} {k:Nat} (h:∀i,d=some i->i≠k):Yf f d v k=f k:=by
 cases d with
 | none=>rfl
 | some i=>exact Xg f v (h i rfl)
theorem calls_operands {x:Operand} {args:Array Operand} {at':Array TypeId} {y:Operand}:y∈(Op.call { callee:=.value x,args,argTypes:=at' }).operands↔y=x\/y∈args:=by
 simp [Op.operands,Call.operands]
theorem ZnC (hM:CxMono C) {o:Oper} {d:Option Nat} {v:PV} (h1:∀i,d=some i->i∉looks all o) (h2:∀i,d=some i->o.dst≠some i) (h:XS C o (Yf f d v) σ Q K) :
  XS C o f σ Q (fun f' σ'=>K (Yf f' d v) σ'):=by
 have ez:∀k,k∈looks all o->Yf f d v k=f k:=fun k hk=>JR fun i hi e=>h1 i hi (e ▸ hk)
 have ve:∀x,x∈o.op.operands->ev (Yf f d v) x=ev f x:=fun x hx=>ZiD ez hx
 have my:∀u,Yf (Yf f d v) o.dst u=Yf (Yf f o.dst u) d v:=fun u=>ZeD h2 f v u
 unfold XS at h |-
 simp only [ZC,ZF,Cx.pf,hM.quiet] at h |-;split at h
 ·refine JQ (fun u hu=>?_) (ZeC ve hM.one (fun _ _ _ _=>rfl) h);rw [ZT] at hu |-;rw [my] at hu;exact hu
 split at h
 ·rename_i x args at' ho
  have hx:ev (Yf f d v) x=ev f x:=ve x (by rw [ho];exact calls_operands.2 (.inl rfl));have am:args.toList.map (ev (Yf f d v))=args.toList.map (ev f):=Su fun y hy=>ve y (by rw [ho];exact calls_operands.2 (.inr (TE.2 hy)))
  rw [hx,am] at h;have hk:∀(e:PEnd) (σ':St),(match e with | .ret u=>Zer (Yf f d v) o.dst u fun f=>K f σ' | .panic v=>Q (.panic v) (fun _=>.undef) σ':Prop)->(match e with | .ret u=>Zer f o.dst u fun f=>K (Yf f d v) σ' | .panic v=>Q (.panic v) (fun _=>.undef) σ':Prop):=fun e σ' he=>by
   cases e with
   | ret u=>simp only at he |-;rw [ZT] at he |-;rw [my] at he;exact he
   | panic v=>exact he
  unfold Zcl at h |-
  split at h
  ·exact hM.call _ _ _ _ _ hk h
  ·exact (hM.raw _ _ _ _ h).elim
  exact h
 ·rename_i x ho
  rw [ve x (by rw [ho];simp [Op.operands])] at h;exact h
 refine Zb2 (fun u σ' hu=>?_) (ZnB (fun x hx=>ve x hx) h);rw [ZT] at hu |-;rw [my] at hu;exact hu
theorem ZiE (hM:CxMono C) {o:Oper} (hK:∀u σ',(Yx o.op=false->σ'=σ)->K (Yf f o.dst u) σ'->K' (Yf f o.dst u) σ') (h:XS C o f σ Q K):XS C o f σ Q K':=by
 unfold XS at h |-
 simp only [ZC,ZF] at h |-;split at h
 ·rename_i hE
  exact JQ (fun v hv=>by rw [ZT] at hv |-;exact hK _ _ (fun _=>rfl) hv) h
 rename_i hE
 have qa:∀σ',Yx o.op=false->σ'=σ:=fun σ' h=>by rw [hE] at h;cases h
 split at h
 ·unfold Zcl at h |-
  split at h
  ·refine hM.call _ _ _ _ _ (fun e σ he=>?_) h
   cases e with
   | ret v=>simp only at he |-;rw [ZT] at he |-;exact hK _ _ (qa _) he
   | panic v=>exact he
  ·exact (hM.raw _ _ _ _ h).elim
  exact h
 ·exact h
 exact Zb2 (fun v σ hv=>by rw [ZT] at hv |-;exact hK _ _ (qa _) hv) h
theorem ZiF (hM:CxMono C) {o:Oper} (hK:∀u σ',(Yx o.op=false->σ'=σ)->K (Yf f o.dst u) σ'->K' (Yf f o.dst u) σ') (h:Wf C all Q o f σ K):Wf C all Q o f σ K':=by
 rw [Y3] at h |-;split at h
 ·exact ZiE hM hK h
 ·exact hK _ _ (fun _=>rfl) h
 exact h
theorem ZnD (hM:CxMono C) {o:Oper} {d:Option Nat} {v:PV} (h1:∀i,d=some i->i∉looks all o) (h2:∀i,d=some i->o.dst≠some i) (h:Wf C all Q o (Yf f d v) σ K) :
  Wf C all Q o f σ (fun f' σ'=>K (Yf f' d v) σ'):=by
 rw [Y3] at h |-;rw [Zaz (f':=f) (fun k hk=>JR fun i hi e=>h1 i hi (e ▸ hk))] at h;split at h
 ·exact ZnC hM h1 h2 h
 ·rw [ZeD h2] at h;exact h
 exact h
theorem ZiG (hM:CxMono C) {o:Oper} (hE:Yx o.op=false) (h:Wf C all Q o f σ K):∃v,K (Yf f o.dst v) σ/\∀f' σ',(∀d,d∈looks all o->f d=f' d) ->
  (∀b off n,ZlD C.T o.op (ev f)=some (b,off,n)->ZZ σ.bx b off n=ZZ σ'.bx b off n)->∀K':Frame->St->Prop,K' (Yf f' o.dst v) σ'->Wf C all Q o f' σ' K':=by
 rw [Y3] at h;split at h
 ·rename_i hg
  unfold XS at h
  simp only [hE] at h;obtain ⟨v,hv,cd⟩:=Znz h;rw [ZT] at hv;refine ⟨v,hv,fun f' σ' hf hl K' rv=>?_⟩;rw [Y3,<- Zaz hf,hg];simp only [XS,hE];refine ZeC (fun x hx=>ZiD hf hx) hM.one hl (cd _ ?_);rw [ZT];exact rv
 ·rename_i hg
  refine ⟨_,h,fun f' σ' hf hl K' rv=>?_⟩;rw [Y3,<- Zaz hf,hg];exact rv
 exact h.elim
theorem chkL_iff {ms:List Nat} {j:Nat} {pre post:List Box} {X:Prop}:∀{l:List Ld},Znc ms j pre post l X↔(∀d,d∈l->anc ms d.i j=false->ZZ pre d.b d.off d.n=ZZ post d.b d.off d.n)/\X
 | []=>by simp [Znc]
 | d::l=>by
  obtain ⟨di,db,doff,dn⟩:=d;simp only [Znc]
  cases hd:anc ms di j with
  | true=>simp only [chkL_iff,Tr,forall_eq_or_imp,hd,Bool.true_eq_false,false_implies,true_and]
  | false=>simp only [chkL_iff,Tr,forall_eq_or_imp,hd,true_implies,and_assoc]
theorem ZnE {T:Tab} {o:Op} {ρ ρ':Operand->PV} (h:∀x,x∈o.operands->ρ x=ρ' x):ZlD T o ρ=ZlD T o ρ':=by
 unfold ZlD
 split
 ·rename_i t a;rw [h a oP]
 ·rename_i t a k ok;rw [h a oP]
 ·rename_i args at'
  rw [Su fun x hx=>h x (by simp only [Op.operands,Call.operands,Array.empty_append];exact TE.2 hx)]
 rfl
theorem ZaA {o:Oper} {f':Frame} (h:∀d,d∈looks all o->f d=f' d) (T:Tab) (i:Nat) (ctx:List Ld):Wg T o i f ctx=Wg T o i f' ctx:=by
 unfold Wg
 rw [ZnE fun x hx=>ZiD h hx]
theorem Zb3 (T:Tab) (o:Oper) (i:Nat) (f:Frame):∃l,∀c,Wg T o i f c=l++c:=by
 unfold Wg
 split
 ·exact ⟨[_],fun c=>rfl⟩
 exact ⟨[],fun c=>rfl⟩
theorem ZnF {o:Oper} {ctx ctx':List Ld} (h:∀d,d∈ctx'->d∈ctx) (T:Tab) (i:Nat):∀d,d∈Wg T o i f ctx'->d∈Wg T o i f ctx:=by
 obtain ⟨l,hl⟩:=Zb3 T o i f;intro d hd
 rw [hl,TN] at hd |-;exact hd.imp id (h d)
theorem ZnG {o:Oper} {ctx:List Ld} (T:Tab) (i:Nat):∀d,d∈ctx->d∈Wg T o i f ctx:=by
 obtain ⟨l,hl⟩:=Zb3 T o i f;intro d hd
 rw [hl,TN];exact .inr hd
theorem ZnH {o o':Oper} {f':Frame} {ctx:List Ld} (T:Tab) (i i':Nat):∀d,d∈Wg T o i f (Wg T o' i' f' ctx)->d∈Wg T o' i' f' (Wg T o i f ctx):=by
 obtain ⟨l,hl⟩:=Zb3 T o i f;obtain ⟨l',hl'⟩:=Zb3 T o' i' f';intro d hd
 rw [hl,hl'] at hd;rw [hl',hl];simp only [TN] at hd |-;rcases hd with h | h | h
 ·exact .inr (.inl h)
 ·exact .inl h
 exact .inr (.inr h)
theorem ZcA (hM:CxMono C) {ms:List Nat} {i:Nat} {o:Oper} {ctx ctx':List Ld} {K:List Ld->Frame->St->Prop} (hs:∀d,d∈ctx'->d∈ctx) (hK:∀c c' f σ,(∀d,d∈c'->d∈c)->K c f σ->K c' f σ)
  (h:X3 C all ms Q i o ctx f σ K):X3 C all ms Q i o ctx' f σ K:=by
 unfold X3 at h |-
 refine Zay hM (fun f' σ' hk=>?_) h
 cases hE:Yx o.op with
 | true=>simp only [hE] at hk |-;rw [chkL_iff] at hk |-;exact ⟨fun d hd=>hk.1 d (hs d hd),hK _ _ _ _ hs hk.2⟩
 | false=>simp only [hE] at hk |-;exact hK _ _ _ _ (ZnF hs _ _) hk
theorem ZgY (hM:CxMono C) {ms:List Nat}:∀(l:List (Nat×Oper)) (c c':List Ld) (f:Frame) (σ:St),(∀d,d∈c'->d∈c)->X4 C all ms Q l c f σ->X4 C all ms Q l c' f σ
 | [],_,_,_,_,_,h=>h
 | (i,o)::l,c,c',f,σ,hs,h=>ZcA hM hs (fun c c' f σ=>ZgY hM l c c' f σ) h
def Zbo (all:List Oper) (x y:Oper):Bool :=
 (match x.dst with | some d=>!(ZdU d (looks all y)) && (match y.dst with | some d'=>!(Nat.beq d d') | none=>true) | none=>true) &&
 (match y.dst with | some d=>!(ZdU d (looks all x)) | none=>true)
theorem ZiH {x y:Oper} (h:Zbo all x y=true):(∀i,x.dst=some i->i∉looks all y)/\(∀i,x.dst=some i->y.dst≠some i)/\(∀i,y.dst=some i->i∉looks all x):=by
 unfold Zbo at h
 rw [Tl] at h;refine ⟨fun i hi=>?_,fun i hi=>?_,fun i hi=>?_⟩
 ·have:=h.1;rw [hi] at this;simp only [Tl,T2] at this;intro hm;rw [(YA _ _).2 hm] at this;cases this.1
 ·have:=h.1;rw [hi] at this;simp only [Tl,T2] at this;intro hm;rw [hm] at this;simp at this
 have:=h.2;rw [hi] at this;simp only [T2] at this;intro hm;rw [(YA _ _).2 hm] at this;cases this
theorem ZAC (hM:CxMono C) {ms:List Nat} {ix iy:Nat} {x y:Oper} {ctx:List Ld} {K0:List Ld->Frame->St->Prop} (hK:∀c c' f σ,(∀d,d∈c'->d∈c)->K0 c f σ->K0 c' f σ)
  (hE:Yx x.op=false) (hap:Zbo all x y=true) (zn:anc ms ix iy=false) (h:X3 C all ms Q ix x ctx f σ (fun c f σ=>X3 C all ms Q iy y c f σ K0)) :
  X3 C all ms Q iy y ctx f σ (fun c f σ=>X3 C all ms Q ix x c f σ K0):=by
 obtain ⟨ha,hb,hc⟩:=ZiH hap;unfold X3 at h
 simp only [hE] at h;obtain ⟨v,hv,cd⟩:=ZiG hM hE h;have ez:∀u d,d∈looks all x->f d=Yf f y.dst u d:=fun u d hd=>(JR fun i hi e=>hc i hi (e ▸ hd)).symm
 have hv:=ZnD hM ha hb hv;unfold X3
 refine ZiF hM (fun u σ' hq hk=>?_) hv
 cases zo:Yx y.op with
 | true =>
  simp only [zo] at hk |-;rw [chkL_iff] at hk |-;refine ⟨fun d hd hda=>hk.1 d (ZnG _ _ d hd) hda,?_⟩;simp only [hE];refine cd _ _ (ez u) (fun b off n ho=>?_) _ ?_
  ·exact hk.1 ⟨ix,b,off,n⟩ (by simp [Wg,ho]) zn
  rw [<- ZaA (ez u)];exact hk.2
 | false =>
 simp only [zo] at hk |-;simp only [hE];obtain rfl:=hq zo;refine cd _ _ (ez u) (fun b off n ho=>rfl) _ ?_;rw [<- ZaA (ez u)];refine hK _ _ _ _ ?_ hk;rw [<- ZaA (f:=f) (f':=Yf f x.dst v) (o:=y) (fun d hd=>(JR fun i hi e=>ha i hi (e ▸ hd)).symm)];exact ZnH _ _ _
theorem ZiI (hM:CxMono C) {ms:List Nat} {i:Nat} {o:Oper} {post:List (Nat×Oper)}:∀(pre:List (Nat×Oper)),(∀p,p∈pre->Yx p.2.op=false/\Zbo all p.2 o=true/\anc ms p.1 i=false)->∀(ctx:List Ld) (f:Frame) (σ:St),
  X4 C all ms Q (pre++(i,o)::post) ctx f σ->X3 C all ms Q i o ctx f σ (X4 C all ms Q (pre++post))
 | [],_,_,_,_,h=>h
 | (ix,x)::pre,hp,ctx,f,σ,h=>by
  obtain ⟨h1,h2,h3⟩:=hp (ix,x) sM;refine ZAC hM (ZgY hM _) h1 h2 h3 ?_;have h':X3 C all ms Q ix x ctx f σ (X4 C all ms Q (pre++(i,o)::post)):=h;unfold X3 at h' |-
  refine Zay hM (fun f' σ' hk=>?_) h'
  cases hE:Yx x.op with
  | true=>rw [hE] at h1;cases h1
  | false=>simp only [hE] at hk |-;exact ZiI hM pre (fun p gf=>hp p (Tu _ gf)) _ _ _ hk
end
end Go.PM
end
