/- A part of the proof: plain logic, contracts and laws over the given program. -/
import Derived.RangeFuncRecord
import Derived.Deep.AppendSrc
import Derived.Deep.Upon
import Derived.Lib.OthersKept
import Derived.Lib.ConvBytes
import Derived.OrdersIn
import Derived.Test.YtljpldmdmdhdaaaGreatDoorB01
set_option linter.unusedVariables false
set_option linter.unusedSimpArgs false
set_option linter.all false
set_option maxRecDepth 100000
set_option maxHeartbeats 16000000
section
namespace Go.PM
section
variable {G:GE} {e:Env} {σ:St} {w:World} {T:Tab}
structure Grows (w w1:World):Prop where
 os:w1.os=w.os
 tape:w1.tape=w.tape
 output:w1.output=w.output
 size:w.heap.size<=w1.heap.size
 old:∀b,b<w.heap.size->w1.heap[b]?=w.heap[b]?
def Grows.refl (w:World):Grows w w:=⟨rfl,rfl,rfl,Tt _,fun _ _=>rfl⟩
def Grows.trans {a b c:World} (h:Grows a b) (k:Grows b c):Grows a c :=
 ⟨k.os.trans h.os,k.tape.trans h.tape,k.output.trans h.output,TP h.size k.size,fun i hi=>(k.old i (TC hi h.size)).trans (h.old i hi)⟩
theorem Grows.alloc (w:World) (o:Obj):Grows w (w.alloc o):=⟨rfl,rfl,rfl,by simp_all,fun i hi=>heap_alloc_old w o i hi⟩
def Grows.drew (w:World):Grows w w.drew:=⟨rfl,rfl,rfl,Tt _,fun _ _=>rfl⟩
def Grows.cell {w w1:World} (h:Grows w w1) {b off:Nat} (hb:b<w.heap.size):w1.cell? ⟨b,off,none⟩=w.cell? ⟨b,off,none⟩:=by simp [World.cell?,h.old b hb]
def Grows.stepped {w1:World} (h:Grows w w1) (e:Env) (σ:St):Stepped e σ w e σ w1 where
 len:=Tt _
 beta:=fun _ _=>rfl
 X:=fun _ _ h=>h
 pres:=fun b off u hc ho=>⟨ho,(h.cell (Vf hc)).trans hc⟩
 blocks:=fun b hb _ _ _=>h.old b hb
 size:=h.size
 os:=h.os
 tape:=h.tape
 output:=h.output
 fresh:=fun i h1 h2=>oM
 ftok:=fun t ht p hp=>.inr (.inl ⟨t,ht,p,hp,rfl⟩)
 fhid:=fun b h=>.inr (.inr h)
 nx:=Tt _
 toks:=fun _ _ ht=>⟨ht,rfl⟩
 own:=fun _ _ _ _ _ hp=>h.old _ hp
def SRel.keepG (hS:SRel G e σ w) {w1:World} (h:Grows w w1) (bb:Nat):HKeep e w e w1 bb:=fun b q hq _=>⟨hq,h.old _ (hS.hid b q hq).2.1⟩
def SRel.grow (hS:SRel G e σ w) {w1:World} (h:Grows w w1):SRel G e σ w1 where
 inj:=hS.inj
 box:=fun i x hx=>(hS.box i x hx).step (h.stepped e σ) (h.old _ (hS.lt (To.1 hx).1)) (hS.keepG h _)
 low:=hS.low
 tkn:=hS.tkn
 own:=fun t ht p hp=>by
  obtain ⟨h1,h2,cs,ty,fz,h3⟩:=hS.own t ht p hp;exact ⟨h1,h2,cs,ty,fz,(h.old _ (Tv.1 h3).1).trans h3⟩
 dis:=hS.dis
 xown:=hS.xown
 xlt:=fun b off hx=>TC (hS.xlt b off hx) h.size
 hid:=fun b q hq=>let ⟨h1,h2,h3⟩:=hS.hid b q hq;⟨h1,TC h2 h.size,h3⟩
 glob:=fun b hb=>(h.old b (TC hb hS.big)).trans (hS.glob b hb)
 big:=TP hS.big h.size
theorem SRel.fresh_okc (hS:SRel G e σ w) (off:Nat):okc e σ w.heap.size off:=by
 refine ⟨fun hX=>?_,fun k hk=>?_,fun t ht p hp uh=>?_,fun q hq=>?_⟩
 ·have:=hS.xlt _ _ hX;omega
 ·have:=hS.lt hk;omega
 ·obtain ⟨_,_,cs,ty,fz,hh⟩:=hS.own t ht p hp
  simp_all
 have:=(hS.hid _ _ hq).2.1;omega
def Env.more (e:Env) (n b:Nat):Env:={ e with β:=fun i=>if i=n then b else e.β i }
def ZGy (σ:St) (x:Box):(σ.new x).bx.length=σ.bx.length+1:=by simp [St.new]
theorem WM (hS:SRel G e σ w) (x:Box) (ob:Obj) (hob:∀e1 σ1 w1,Stepped e σ w e1 σ1 w1->w1.heap[w.heap.size]?=some ob->BRel G e1 σ1 w1 x w.heap.size) :
  Stepped e σ w (e.more σ.bx.length w.heap.size) (σ.new x) (w.alloc ob)/\SRel G (e.more σ.bx.length w.heap.size) (σ.new x) (w.alloc ob) /\
   VRel G (e.more σ.bx.length w.heap.size) (σ.new x) (w.alloc ob) (.ptr σ.bx.length 0) (.pointer (some ⟨w.heap.size,0,none⟩)):=by
 have hg:=Grows.alloc w ob;have hβ:∀i,i<σ.bx.length->(e.more σ.bx.length w.heap.size).β i=e.β i:=fun i hi=>by simp only [Env.more];grind
 have hβn:(e.more σ.bx.length w.heap.size).β σ.bx.length=w.heap.size:=by simp [Env.more]
 have hst:Stepped e σ w (e.more σ.bx.length w.heap.size) (σ.new x) (w.alloc ob):={
  len:=by rw [ZGy];omega
  beta:=hβ
  X:=fun _ _ h=>h
  pres:=fun b off u hc ho=>⟨⟨ho.1,fun i hi=>by
    have hb:=Vf hc;rw [ZGy] at hi
    by_cases h:i=σ.bx.length
    ·grind
    rw [hβ i oM];exact ho.2.1 i oM,ho.2.2⟩,(hg.cell (Vf hc)).trans hc⟩
  blocks:=fun b hb _ _ _=>hg.old b hb
  size:=hg.size
  os:=rfl
  tape:=rfl
  output:=rfl
  fresh:=fun i h1 h2=>by
   rw [ZGy] at h2
   grind
  ftok:=fun t ht p hp=>.inr (.inl ⟨t,ht,p,hp,rfl⟩)
  fhid:=fun b h=>.inr (.inr h)
  nx:=Tt _
  toks:=fun _ _ ht=>⟨ht,rfl⟩
  own:=fun _ _ _ _ _ hp=>hg.old _ hp }
 refine ⟨hst,?_,?_⟩
 ·exact {
   inj:=fun i j hi hj ji=>by
    rw [ZGy] at hi hj
    by_cases h1:i=σ.bx.length <;> by_cases h2:j=σ.bx.length
    ·omega
    ·rw [h1,hβn,hβ j oM] at ji;have:=hS.lt (i:=j) oM;omega
    ·rw [h2,hβn,hβ i oM] at ji;have:=hS.lt (i:=i) oM;omega
    rw [hβ i oM,hβ j oM] at ji;exact hS.inj i j oM oM ji
   box:=fun i y hy=>by
    have hi:=(To.1 hy).1;rw [ZGy] at hi
    by_cases h1:i=σ.bx.length
    ·subst h1;rw [hβn];simp [St.new] at hy;subst hy;exact hob _ _ _ hst (heap_alloc_new w ob)
    have gu:i<σ.bx.length:=by omega
    rw [hβ i gu];simp only [St.new,T4 gu] at hy;exact (hS.box i y hy).step hst (hg.old _ (hS.lt gu)) (hS.keepG hg _)
   low:=fun i hi=>by
    rw [ZGy] at hi
    by_cases h1:i=σ.bx.length
    ·rw [h1,hβn];exact hS.big
    rw [hβ i oM];exact hS.low i oM
   tkn:=hS.tkn
   own:=fun t ht p hp=>by
    obtain ⟨h1,h2,cs,ty,fz,h3⟩:=hS.own t ht p hp;have aa:=(Tv.1 h3).1;refine ⟨h1,fun i hi=>?_,cs,ty,fz,(hg.old _ aa).trans h3⟩;rw [ZGy] at hi
    grind
   dis:=hS.dis
   xown:=hS.xown
   xlt:=fun b off hx=>TC (hS.xlt b off hx) hg.size
   hid:=fun b q hq=>by
    obtain ⟨h1,h2,h3,h4⟩:=hS.hid b q hq;refine ⟨h1,TC h2 hg.size,fun i hi=>?_,h4⟩;rw [ZGy] at hi
    grind
   glob:=fun b hb=>(hg.old b (TC hb hS.big)).trans (hS.glob b hb)
   big:=TP hS.big hg.size }
 have:=VRel.ptr (G:=G) (e:=e.more σ.bx.length w.heap.size) (σ:=σ.new x) (w:=w.alloc ob) σ.bx.length 0 (by rw [ZGy];omega)
 simp_all
def ZcZ (hS:SRel G e σ w) (t:TypeId) (cs:List PV) (vs:Array Value) (hs:vs.size=cs.length) (hr:∀(i:Nat) (x:PV) (u:Value),cs[i]?=some x->vs[i]?=some u->VRel G e σ w x u/\u.oneCell'=true) :
  Stepped e σ w (e.more σ.bx.length w.heap.size) (σ.new (.cells t cs)) (w.alloc (.cells vs t))/\SRel G (e.more σ.bx.length w.heap.size) (σ.new (.cells t cs)) (w.alloc (.cells vs t)) /\
   VRel G (e.more σ.bx.length w.heap.size) (σ.new (.cells t cs)) (w.alloc (.cells vs t)) (.ptr σ.bx.length 0) (.pointer (some ⟨w.heap.size,0,none⟩)) :=
 WM hS (.cells t cs) (.cells vs t) (fun _ _ _ hst hh=>⟨vs,hh,hs,fun i x u hx hu=>⟨(hr i x u hx hu).1.step hst,(hr i x u hx hu).2⟩⟩)
def Zpi (P:Program) (ρ':Operand->Value) (o:Oper) (w:World) (v:Value) (w1:World):Prop :=
 (execOp ρ' o).run P w=.ok (.value v) w1\/((execOp ρ' o).run P w=.ok .skip w1/\v=Go.undef)
def ZwN {G:GE} {e:Env} {σ:St} {w:World} {T:Tab} {t:TypeId} {x:PV} {v:Value} (h:VRel G e σ w x v):VRel G e σ w (asT T t x) v:=by
 unfold asT
 split
 ·cases h
  split
  ·exact .nils _
  exact .nils _
 exact h
theorem YW (b:Nat):∀(vs:List Value) (o:Nat) (w:World) (cs:Array Value) (ty:TypeId) (fz:Nat×Nat),w.heap[b]?=some (.cells cs ty fz) ->
  ∃cs',(w.setCells b o vs).heap[b]?=some (.cells cs' ty fz)/\cs'.size=cs.size/\∀i,cs'[i]?=if o<=i/\i<o+vs.length/\i<cs.size then vs[i - o]? else cs[i]?
 | [],o,w,cs,ty,fz,h=>⟨cs,h,rfl,fun i=>by grind⟩
 | v::vs,o,w,cs,ty,fz,h=>by
  have h1:(w.setCell ⟨b,o,none⟩ v).heap[b]?=some (.cells (cs.setIfInBounds o v) ty fz):=by
   simp [World.setCell,Array.getElem?_modify,h]
  obtain ⟨cs',h2,h3,h4⟩:=YW b vs (o+1) _ _ ty fz h1;refine ⟨cs',h2,by grind,fun i=>?_⟩
  grind
theorem Xq (b:Nat):∀(vs:List Value) (o:Nat) (w:World),(w.setCells b o vs).heap.size=w.heap.size
 | [],_,_=>rfl
 | v::vs,o,w=>by
  show ((w.setCell ⟨b,o,none⟩ v).setCells b (o+1) vs).heap.size=_;rw [Xq b vs]
  simp_all
def YJ (b:Nat):∀(vs:List Value) (o:Nat) (w:World),(w.setCells b o vs).os=w.os/\(w.setCells b o vs).tape=w.tape/\(w.setCells b o vs).output=w.output/\∀k,k≠b->(w.setCells b o vs).heap[k]?=w.heap[k]?
 | [],_,_=>⟨rfl,rfl,rfl,fun _ _=>rfl⟩
 | v::vs,o,w=>by
  obtain ⟨h1,h2,h3,h4⟩:=YJ b vs (o+1) (w.setCell ⟨b,o,none⟩ v);exact ⟨h1,h2,h3,fun k hk=>(h4 k hk).trans (RowKit.Below.heap_setCell w ⟨b,o,none⟩ v k hk)⟩
theorem Wv (hS:SRel G e σ w) {b:Nat} {x x':Box} (hb:σ.bx[b]?=some x) {w1:World} (r1:w1.os=w.os) (r2:w1.tape=w.tape) (r3:w1.output=w.output) (hsz:w1.heap.size=w.heap.size) (r4:∀k,k≠e.β b->w1.heap[k]?=w.heap[k]?)
  (lz:Stepped e σ w e (σ.set b x') w1->BRel G e (σ.set b x') w1 x' (e.β b)):Stepped e σ w e (σ.set b x') w1/\SRel G e (σ.set b x') w1:=by
 have dc:b<σ.bx.length:=(To.1 hb).1;have qj:(σ.set b x').bx.length=σ.bx.length:=by simp [St.set]
 have hst:Stepped e σ w e (σ.set b x') w1:={
  len:=oM
  beta:=fun _ _=>rfl
  X:=fun _ _ h=>h
  pres:=fun k o u hk ho=>⟨⟨ho.1,fun j hj=>ho.2.1 j oM,ho.2.2⟩,by simpa [World.cell?,r4 k (fun h=>ho.2.1 b dc h.symm)] using hk⟩
  blocks:=fun k hk si _ _=>r4 k (fun h=>si b dc h.symm)
  size:=oM
  os:=r1
  tape:=r2
  output:=r3
  fresh:=fun i h1 h2=>oM
  ftok:=fun t ht p hp=>.inr (.inl ⟨t,ht,p,hp,rfl⟩)
  fhid:=fun b h=>.inr (.inr h)
  nx:=Tt _
  toks:=fun _ _ ht=>⟨ht,rfl⟩
  own:=fun t' hn ht p hp aa=>r4 _ (fun h=>(hS.own t' ht p hp).2.1 b dc h.symm) }
 refine ⟨hst,?_⟩;exact {
  inj:=fun i j hi hj=>hS.inj i j oM oM
  box:=fun k y hy=>by
   by_cases hkb:k=b
   ·subst hkb;have:y=x':=by
     simp only [St.set,List.getElem?_set_self dc] at hy
     simp_all
    simp_all
   have hy':σ.bx[k]?=some y:=by
    simp only [St.set] at hy
    grind
   have hkl:=(To.1 hy').1;exact (hS.box k y hy').step hst (r4 _ (fun h=>hkb (hS.inj k b hkl dc h))) fun k2 q hq _=>⟨hq,r4 _ (fun h=>(hS.hid k2 q hq).2.2.1 b dc h.symm)⟩
  low:=fun i hi=>hS.low i oM
  tkn:=hS.tkn
  own:=fun t' ht p hp=>by
   obtain ⟨q1,q2,cs2,ty2,fz2,q3⟩:=hS.own t' ht p hp
   grind
  dis:=hS.dis
  xown:=hS.xown
  xlt:=fun k o hx=>by rw [hsz];exact hS.xlt k o hx
  hid:=fun k q hq=>by
   obtain ⟨h1,h2,h3,h4⟩:=hS.hid k q hq;exact ⟨h1,oM,fun i hi=>h3 i oM,h4⟩
  glob:=fun k hk=>(r4 k (fun h=>by have:=hS.low b dc;omega)).trans (hS.glob k hk)
  big:=by rw [hsz];exact hS.big }
theorem Jq (hT:TabOK T G.P) (hS:SRel G e σ w) {t:TypeId} {b off:Nat} {x:PV} {v:Value} {l cs:List PV} {ty:TypeId} (hb:σ.bx[b]?=some (.cells ty cs)) (hx:VRel G e σ w x v) (hl:x.cells=some l)
  (hlen:l.length=(T.get t).size) (io:off+l.length<=cs.length) (hk:(T.get t).kind≠.other) :
  ∃w1,(Instr.storeAt t (.pointer (some ⟨e.β b,off,none⟩)) v).run G.P w=.ok () w1/\Stepped e σ w e (σ.set b (.cells ty (Yi cs off l))) w1/\SRel G e (σ.set b (.cells ty (Yi cs off l))) w1:=by
 obtain ⟨i,d,z,hi,hd,hs,ec,aq,hz,cx,_⟩:=(hT.get hk).ex;have dc:b<σ.bx.length:=(To.1 hb).1;obtain ⟨vs,m9,ou,t8⟩:=hS.box b _ hb;obtain ⟨dv,bw⟩:=WK hx hl;have xc:v.cells.toList.length=l.length:=oM;have ko:∀u∈v.cells.toList,u.oneCell'=true:=fun u hu=>by
  obtain ⟨j,hj,rfl⟩:=T5 hu;have h1:j<l.length:=oM;exact (bw j l[j] _ (Ta h1) (by simp_all)).2
 have aj:=run_storeCells_cells (P:=G.P) (e.β b) off v.cells.toList 0 w (fun j hj=>by
   have:off+j<vs.size:=oM;simp [World.cell?,m9,this]) (fun j hj=>by simp [World.frozen?,m9]) ko
 simp only [Nat.add_zero] at aj;obtain ⟨r1,r2,r3,r4⟩:=YJ (e.β b) v.cells.toList off w;obtain ⟨cs',h1,h2,h3⟩:=YW (e.β b) v.cells.toList off w vs ty (0,0) m9;refine ⟨_,?_,Wv hS hb r1 r2 r3 (Xq _ _ _ _) r4 fun hst=>?_⟩
 ·have oy:v.cells.size=i.size:=by omega
  exact mq137
 refine ⟨cs',h1,by rw [h2,ou,Xa],fun j x u ig hu=>?_⟩;rw [Wj] at ig;rw [h3,xc] at hu
 by_cases lr:off<=j/\j<off+l.length/\j<cs.length
 ·rw [Ti lr] at ig;rw [Ti ⟨lr.1,lr.2.1,oM⟩,TG] at hu;obtain ⟨q1,q2⟩:=bw _ x u ig hu;exact ⟨q1.step hst,q2⟩
 rw [Te lr] at ig;rw [Te oM] at hu;obtain ⟨q1,q2⟩:=t8 j x u ig hu;exact ⟨q1.step hst,q2⟩
def Zns (hS:SRel G e σ w) {b:Nat} {s:List UInt8} {pos:Nat} (hb:σ.bx[b]?=some (.iter s pos)) (ty:TypeId) {K:PV->St->Prop}
  (h:CondP (decide (pos<s.length)) (K (.tuple [.d (.bool true),.d (.int .i64 pos),.d (.int .i32 (decodeL s pos).1)]) (σ.set b (.iter s (pos+(decodeL s pos).2)))) (K (.tuple [.d (.bool false)]) σ)) :
  ∃pv σ1 v w1,K pv σ1/\(Instr.next (.pointer (some ⟨e.β b,0,none⟩)) true ty).run G.P w=.ok v w1/\Stepped e σ w e σ1 w1/\SRel G e σ1 w1/\VRel G e σ1 w1 pv v:=by
 have dc:b<σ.bx.length:=(To.1 hb).1;have kp:w.heap[e.β b]?=some (.stringIter ⟨s.toArray⟩ pos):=hS.box b _ hb
 by_cases hp:pos<s.length
 ·have:decide (pos<s.length)=true:=by simp [hp]
  rw [this] at h;refine ⟨_,_,_,_,h,Lib.run_next_any_at w (e.β b) ⟨s.toArray⟩ pos ty kp hp,?_⟩;have l0:∀k,k≠e.β b->(w.iterAt (e.β b) ⟨s.toArray⟩ (pos+(Utf8.decode ⟨s.toArray⟩ pos).2)).heap[k]?=w.heap[k]?:=fun k hk=>Lib.iterAt_other w (e.β b) k _ _ hk
  obtain ⟨g1,g2⟩:=Wv (x':=.iter s (pos+(decodeL s pos).2)) hS hb (w1:=w.iterAt (e.β b) ⟨s.toArray⟩ (pos+(Utf8.decode ⟨s.toArray⟩ pos).2)) rfl rfl rfl (by rw [Lib.iterAt_size]) l0 fun _=>Lib.iterAt_heap w (e.β b) _ pos _ kp
  refine ⟨g1,g2,?_⟩;refine .tuple _ _ rfl (fun i x u hx hu=>?_)
  match i with
  | 0=>cases hx;cases hu;exact .mkbool
  | 1=>cases hx;cases hu;exact .mkint
  | 2=>cases hx;cases hu;exact .mkint
  | n+3=>cases hx
 have:decide (pos<s.length)=false:=by simp [hp]
 rw [this] at h;refine ⟨_,_,_,_,h,Lib.run_next_end_at w (e.β b) ⟨s.toArray⟩ pos ty kp hp,.refl _ _ _,hS,.tuple _ _ rfl (fun i x u hx hu=>?_)⟩
 match i with
 | 0=>cases hx;cases hu;exact .mkbool
 | n+1=>cases hx
structure Flat (ok:Nat->Nat->Prop) (w:World) (rows:List (List D)) (sz:Nat) (xs:List Value):Prop where
 len:xs.length=rows.length * sz
 wid:∀r∈rows,r.length=sz
 rel:∀(a b:Nat) (y:D) (u:Value),b<sz->(rows[a]?.bind (·[b]?))=some y->xs[a * sz+b]?=some u->DRel ok w y u
def Flat.mono {ok ok':Nat->Nat->Prop} {w w':World} {rows:List (List D)} {sz:Nat} {xs:List Value} (h:Flat ok w rows sz xs) (hp:∀(y:D) (u:Value),DRel ok w y u->DRel ok' w' y u):Flat ok' w' rows sz xs :=
 ⟨h.len,h.wid,fun a b y u hb hy hu=>hp y u (h.rel a b y u hb hy hu)⟩
def Flat.nil (ok:Nat->Nat->Prop) (w:World) (sz:Nat):Flat ok w [] sz []:=⟨sM,fun r h=>(by cases h),fun a b y u _ hy=>sM⟩
theorem Flat.append {ok:Nat->Nat->Prop} {w:World} {r1 r2:List (List D)} {sz:Nat} {x1 x2:List Value} (h1:Flat ok w r1 sz x1) (h2:Flat ok w r2 sz x2):Flat ok w (r1++r2) sz (x1++x2):=by
 refine ⟨by rw [Tc,Tc,h1.len,h2.len,Nat.add_mul],fun r hr=>?_,fun a b y u hb hy hu=>?_⟩
 ·rcases Tw.1 hr with h | h
  ·exact h1.wid r h
  exact h2.wid r h
 by_cases ha:a<r1.length
 ·rw [T4 ha] at hy;have aa:a * sz+b<x1.length:=by
   rw [h1.len]
   calc a * sz+b<a * sz+sz:=by omega
    _=(a+1) * sz:=by grind
    _<=r1.length * sz:=Si _ ha
  rw [T4 aa] at hu;exact h1.rel a b y u hb hy hu
 have xd:r1.length<=a:=by omega
 rw [Se xd] at hy;have ey:x1.length<=a * sz+b:=by
  rw [h1.len];exact TP (Si _ xd) (Nat.le_add_right _ _)
 rw [Se ey,h1.len] at hu;refine h2.rel (a - r1.length) b y u hb hy ?_;rw [<- hu]
 congr 1
 rw [Nat.sub_mul];have:=Si sz xd;omega
theorem ZGE {ok:Nat->Nat->Prop} {w:World} {rows:List (List D)} {b off cap sz:Nat} (hsz:∀r∈rows,r.length=sz) (ax:0<sz) (h:DRel ok w (.sl rows) (.slice (some ⟨b,off,none⟩) rows.length cap)) :
  ∃xs,Flat ok w rows sz xs/\(∀(k:Nat) (u:Value),xs[k]?=some u->w.cell? ⟨b,off+k,none⟩=some u)/\(∀k,k<xs.length->ok b (off+k))/\∀u∈xs,u.oneCell'=true:=by
 cases h with
 | slz=>exact ⟨[],.nil _ _ _,fun k u h=>by simp at h,fun k h=>by simp at h,fun u h=>by cases h⟩
 | sl rows b off cap sz' u hcap ki hc ho hu =>
 by_cases hr:rows=[]
 ·subst hr;exact ⟨[],.nil _ _ _,fun k u h=>by simp at h,fun k h=>by simp at h,fun u h=>by cases h⟩
 have hss:sz'=sz:=by
  cases rows with
  | nil=>simp_all
  | cons r l=>simp_all
 subst hss;have hk:∀k,k<rows.length * sz'->k / sz'<rows.length/\k % sz'<sz'/\k / sz' * sz'+k % sz'=k:=fun k hk =>
  ⟨(Nat.div_lt_iff_lt_mul ax).2 hk,Nat.mod_lt _ ax,by rw [Nat.mul_comm];exact Nat.div_add_mod k sz'⟩
 have hrel:∀k,k<rows.length * sz'->∃y,(rows[k / sz']?.bind (·[k % sz']?))=some y/\DRel ok w y (u (k / sz') (k % sz')):=fun k h=>by
  obtain ⟨h1,h2,h3⟩:=hk k h;have h4:(rows[k / sz']).length=sz':=ki _ (TA _)
  simp_all
 refine ⟨(List.range (rows.length * sz')).map fun k=>u (k / sz') (k % sz'),⟨sM,ki,fun a b' y v hb hy hv=>?_⟩,fun k v hv=>?_,fun k h=>?_,fun v hv=>?_⟩
 ·rw [Th] at hv
  grind
 ·grind
 ·grind
 obtain ⟨k,gw,rfl⟩:=Sr.1 hv;obtain ⟨y,_,hy⟩:=hrel k (List.mem_range.1 gw);exact hy.one
theorem Flat.to_sl {ok:Nat->Nat->Prop} {w:World} {rows:List (List D)} {sz:Nat} {xs:List Value} (h:Flat ok w rows sz xs) (b off cap:Nat) (hcap:rows.length<=cap)
  (hc:∀(k:Nat) (u:Value),xs[k]?=some u->w.cell? ⟨b,off+k,none⟩=some u) (ho:∀k,k<xs.length->ok b (off+k)):DRel ok w (.sl rows) (.slice (some ⟨b,off,none⟩) rows.length cap):=by
 have aa:∀i j,i<rows.length->j<sz->i * sz+j<xs.length:=fun i j hi hj=>by
  rw [h.len]
  calc i * sz+j<i * sz+sz:=by omega
   _=(i+1) * sz:=by grind
   _<=rows.length * sz:=Si _ hi
 refine .sl rows b off cap sz (fun i j=>xs.getD (i * sz+j) Go.undef) hcap h.wid (fun i j hi hj=>?_) (fun i j hi hj=>?_) (fun i j x hx=>?_)
 ·grind
 ·grind
 have hi:i<rows.length:=by
  grind
 have hj:j<sz:=by
  rw [Ta hi] at hx;have:=(To.1 hx).1
  rwa [h.wid _ (TA _)] at this
 exact h.rel i j x _ hj hx (by simp_all)
theorem ZvW (hT:TabOK T G.P) {tx el:Nat} {px:PV} {vx:Value} {more:List (List D)} {sz:Nat} (hm:Ve T tx el px=some more) (hx:VRel G e σ w px vx) (hsz:∀r∈more,r.length=sz) (ax:0<sz)
  (hel:sz=(T.get el).size):∃news,Src G.P sz tx vx more.length news w/\Flat (okc e σ) w more sz news:=by
 unfold Ve at hm
 split at hm
 ·rename_i hk
  obtain ⟨i,d,z,hi,hd,hs,ec,aq,hz,cx,_⟩:=(hT.get (t:=tx) (by grind)).ex;rw [hk] at aq;cases aq;split at hm
  ·rename_i cu
   split at hm
   ·rename_i s
    cases hm
    have hv:=hx.dstr;subst hv;have hlen:(s.map fun b:UInt8=>[D.int .u8 b.toNat]).length=(⟨s.toArray⟩:ByteArray).size:=by simp;rfl
    have fk:∀sz',sz'=1->Flat (okc e σ) w (s.map fun b:UInt8=>[D.int .u8 b.toNat]) sz' (byteCells ⟨s.toArray⟩):=by
     rintro _ rfl
     refine ⟨by rw [byteCells_length,hlen,Nat.mul_one],fun r hr=>?_,fun a b y u hb hy hu=>?_⟩
     ·grind
     have jp:b=0:=by omega
     subst jp;simp only [Nat.mul_one,Nat.add_zero,byteCells,Th] at hu;rw [Th] at hy
     cases hq:s[a]? with
     | none=>simp_all
     | some q =>
     rw [hq] at hy;simp at hy hu;rw [hq] at hu;simp at hu;subst hy;subst hu;exact .int _ _
    by_cases qg:s=[]
    ·subst qg;refine ⟨[],⟨.inr hd,fun _=>rfl,?_,?_,sM,fun u h=>by cases h⟩,.nil _ _ _⟩
     ·simp [Builtin.firstCells]
     simp [Builtin.firstCells]
    have h1:sz=1:=by
     cases s with
     | nil=>simp_all
     | cons b l=>simp_all
    subst h1;rw [hlen];exact ⟨byteCells ⟨s.toArray⟩,Src.ofString w hd _,fk 1 rfl⟩
   grind
  grind
 ·rename_i e' hk
  obtain ⟨i,d,z,hi,hd,hs,ec,aq,hz,cx,_⟩:=(hT.get (t:=tx) (by grind)).ex;rw [hk] at aq;cases aq;split at hm
  ·rename_i rows bu
   cases hm
   have hD:=X0 bu hx;generalize hg:D.sl more=dd at hD
   cases hD with
   | slnil=>cases hg;exact ⟨[],Src.ofNil w hd 0,.nil _ _ _⟩
   | slz ad=>cases hg;exact ⟨[],Src.ofSlice w hd ad 0 0 [] sM (fun j u hj=>by cases hj) (fun u h=>by cases h),.nil _ _ _⟩
   | sl rows b off cap sz' u hcap ki hc ho hu =>
    cases hg
    obtain ⟨xs,h1,h2,h3,h4⟩:=ZGE hsz ax (DRel.sl more b off cap sz' u hcap ki hc ho hu);exact ⟨xs,Src.ofSlice w hd ⟨b,off,none⟩ more.length cap xs h1.len (fun j u hj=>by rw [Yb];simp_all) h4,h1⟩
   | _=>cases hg
  grind
 grind
theorem Yq (t:Nat):∀(l:List Nat),ZhY t l=true↔t∈l
 | []=>by simp [ZhY]
 | x::l=>by
  unfold ZhY
  split
  ·simp_all
  rename_i h
  rw [Yq t l];have:x≠t:=fun h'=>by simp_all
  grind
theorem XO (t x:Nat):∀(l:List Nat),x∈Jk t l↔x∈l/\x≠t
 | []=>by simp [Jk]
 | y::l=>by
  unfold Jk
  split
  ·rename_i h
   have:=Tu h;subst this;rw [XO y x l]
   simp_all
  rename_i h
  have ai:y≠t:=fun h'=>by simp_all
  rw [Tr,Tr,XO t x l]
  grind
def Env.own (e:Env) (t:Nat) (p:Option (Nat×Nat)):Env:={ e with M:=fun i=>if i=t then p else e.M i }
theorem Zfk (hT:TabOK T G.P) (hS:SRel G e σ w) {t tx el ty:Nat} (oz:(T.get t).kind=.slice el) (dk:(T.get el).kind≠.other) (ax:0<(T.get el).size)
  {rows more:List (List D)} {v vx:Value} {news:List Value} (hD:DRel (okc e σ) w (.sl rows) v)
  (od:∀r∈rows,r.length=(T.get el).size)
  (hO : (v = .slice none 0 0 /\ rows = []) \/ ∃ b off cap cs ty fz, v = .slice (some ⟨b, off, none⟩) rows.length cap /\ G.nG <= b /\ rows.length <= cap /\ w.heap[b]? = some (.cells cs ty fz) /\ (off + cap * (T.get el).size <= cs.size /\ off = 0 /\ ty = el /\ 0 < cap) /\
     (fz.1<=fz.2/\∀o,off+rows.length * (T.get el).size<=o->fz.1<=o->fz.2<=o)/\(∀i,i<σ.bx.length->e.β i≠b))
  (kq:Src G.P (T.get el).size tx vx more.length news w) (dy:Flat (okc e σ) w more (T.get el).size news)
  (jq:(rows.length+more.length) * (T.get el).bytes<=2 ^ 47) (hlen:rows.length+more.length<=2 ^ 47) :
  ∃v' w1,(Builtin.append_ #[t,tx] ty #[v,vx]).run G.P w=.ok v' w1/\w1.os=w.os/\w1.tape=w.tape/\w1.output=w.output/\w.heap.size<=w1.heap.size /\
   (∀b off u,w.cell? ⟨b,off,none⟩=some u->okc e σ b off->w1.cell? ⟨b,off,none⟩=some u\/∃a o c,v=.slice (some ⟨a,o,none⟩) rows.length c/\b=a/\o+rows.length * (T.get el).size<=off) /\
   (∀b,b<w.heap.size->(∀a o c,v=.slice (some ⟨a,o,none⟩) rows.length c->b≠a)->w1.heap[b]?=w.heap[b]?) /\
   ((v'=.slice none 0 0/\rows++more=[])\/∃b off cap cs ty fz,v'=.slice (some ⟨b,off,none⟩) (rows++more).length cap/\G.nG<=b/\(rows++more).length<=cap/\w1.heap[b]?=some (.cells cs ty fz)/\(off+cap * (T.get el).size<=cs.size/\off=0/\ty=el/\0<cap) /\
    (fz.1<=fz.2/\∀o,off+rows.length * (T.get el).size<=o->fz.1<=o->fz.2<=o) /\
    ((∃c,v=.slice (some ⟨b,off,none⟩) rows.length c)\/w.heap.size<=b) /\
    ∃xs,Flat (okc e σ) w (rows++more) (T.get el).size xs/\∀(k:Nat) (u:Value),xs[k]?=some u->w1.cell? ⟨b,off+k,none⟩=some u):=by
 obtain ⟨ti,td,tz,oc,qt,_,_,aq,_,_,_⟩:=(hT.get (t:=t) (by simp_all)).ex;rw [oz] at aq;cases aq;obtain ⟨i,d,z,hi,hd,hs,ec,bi,hz,cx,om,_⟩:=(hT.get dk).ex;have hzc:z.cells.size=(T.get el).size:=by
  have:=(Xv (G:=G) (e:=e) (σ:=σ) (w:=w) cx).1
  simp_all
 rw [<- hs] at kq;have hsm:((rows.length+more.length:Nat):Int)<=9223372036854775807:=oM;have jc:(rows.length+more.length) * i.bytes<=140737488355328:=by simp_all
 have grow:∀(base:Option Addr) (cap:Nat) (olds:List Value),(Builtin.firstCells i.size rows.length (.slice base rows.length cap)).run G.P w.drew=.ok olds.toArray w.drew->Flat (okc e σ) w rows (T.get el).size olds->cap<rows.length+more.length ->
   ∃v' w1,(Builtin.append_ #[t,tx] ty #[.slice base rows.length cap,vx]).run G.P w=.ok v' w1/\Grows w w1 /\
    ∃b off cap cs ty fz,v'=.slice (some ⟨b,off,none⟩) (rows++more).length cap/\G.nG<=b/\(rows++more).length<=cap/\w1.heap[b]?=some (.cells cs ty fz)/\(off+cap * (T.get el).size<=cs.size/\off=0/\ty=el/\0<cap) /\
     (fz.1<=fz.2/\∀o,off+rows.length * (T.get el).size<=o->fz.1<=o->fz.2<=o)/\w.heap.size<=b /\
     ∃xs,Flat (okc e σ) w (rows++more) (T.get el).size xs/\∀(k:Nat) (u:Value),xs[k]?=some u->w1.cell? ⟨b,off+k,none⟩=some u:=by
  intro base cap olds o5 fk aa
  have hr:=run_append_grow_src w t tx ty el i z qt hi hz base rows.length cap olds o5 vx more.length news kq aa hsm (growslice_fits aa jc);refine ⟨_,_,hr,(Grows.drew w).trans (Grows.alloc _ _),w.heap.size,0,grownCap w (rows.length+more.length) cap el,_,el,(0,0),by simp_all,hS.big,by rw [Tc];exact grownCap_ge w _ _ _,heap_alloc_new w.drew _,⟨?_,rfl,rfl,by have:=grownCap_ge w (rows.length+more.length) cap el;omega⟩,⟨Tt _,fun o _ _=>T6 _⟩,Tt _,olds++news,fk.append dy,fun k u hk=>?_⟩
  ·have ey:=grownCap_ge w (rows.length+more.length) cap el;simp only [Array.size_append,List.size_toArray,Tc,size_zeroCells,hzc,fk.len,dy.len,Sx,<- Nat.add_mul]
   simp_all
  have h1:k<(olds++news).length:=(To.1 hk).1;simp only [Sx,World.cell?];rw [show (w.drew.alloc _).heap[w.heap.size]?=_ from heap_alloc_new w.drew _]
  grind
 rcases hO with ⟨rfl,rfl⟩ | ⟨b,off,cap,cs,tyb,fz,rfl,hb,hc,hh,et,ll,si⟩
 ·by_cases hm:more.length=0
  ·have hmn:more=[]:=Sg hm;subst hmn;have kr:news=[]:=Sg (by rw [dy.len];simp);subst kr;exact ⟨_,w,run_append_nothing w t tx ty el i qt hi none 0 0 (Tt _) vx kq,rfl,rfl,rfl,Tt _,fun _ _ _ h _=>.inl h,fun _ _ _=>rfl,.inl ⟨rfl,rfl⟩⟩
  obtain ⟨v',w1,hr,hg,b,off,cap,cs,ty',fz,h1,h2,h3,h4,h5,h6,h7,h8⟩:=grow none 0 [] (run_firstCells_none w.drew i.size 0 0 0) (.nil _ _ _) oM;exact ⟨v',w1,hr,hg.os,hg.tape,hg.output,hg.size,fun b' o' u hu _=>.inl ((hg.cell (Vf hu)).trans hu),fun b' n8 _=>hg.old b' n8,.inr ⟨b,off,cap,cs,ty',fz,h1,h2,h3,h4,h5,h6,.inr h7,h8⟩⟩
 obtain ⟨olds,ah,ac,am,bz⟩:=ZGE od ax hD
 by_cases mq:rows.length+more.length<=cap
 ·have io:rows.length * (T.get el).size+news.length<=cap * (T.get el).size:=by
   rw [dy.len,<- Nat.add_mul];exact Si _ mq
  have az:∀k,k<cs.size->(w.cell? ⟨b,k,none⟩).isSome=true:=fun k hk=>by simp [World.cell?,hh,hk]
  have hr:=run_append_room_src w t tx ty el i qt hi b off rows.length cap vx more.length news kq mq (fun j hj=>az _ (by grind)) (fun j hj=>by
   simp only [World.frozen?,hh]
   simp_all)
  rw [hs] at hr;obtain ⟨r1,r2,r3,r4⟩:=YJ b news (off+rows.length * (T.get el).size) w;obtain ⟨cs',q1,q2,q3⟩:=YW b news (off+rows.length * (T.get el).size) w cs tyb fz hh;refine ⟨_,_,hr,r1,r2,r3,by rw [Xq];omega,fun b' o' u hu ho=>?_,fun b' n8 hn=>r4 b' (hn b off cap rfl),.inr ⟨b,off,cap,cs',tyb,fz,by simp_all,hb,by simp_all,q1,⟨oM,et.2.1,et.2.2.1,et.2.2.2⟩,ll,.inl ⟨cap,rfl⟩,olds++news,ah.append dy,fun k u hk=>?_⟩⟩
  ·by_cases lu:b'=b
   ·subst lu
    by_cases hoo:off+rows.length * (T.get el).size<=o'
    ·grind
    left
    rw [World.cell?_setCells_out b' news _ w ⟨b',o',none⟩ (fun _ _=>.inl (by simp_all))];exact hu
   left;simpa [World.cell?,r4 b' lu] using hu
  by_cases lq:k<olds.length
  ·rw [T4 lq] at hk;rw [World.cell?_setCells_out b news _ w ⟨b,off+k,none⟩ (fun _ _=>.inl (by show off+k<_;rw [<- ah.len];omega))]
   simp_all
  rw [Se oM] at hk;have l4:=(To.1 hk).1;have:=World.cell?_setCells_in b news (off+rows.length * (T.get el).size) w (fun j hj=>az _ oM) (k - olds.length) l4;rw [show off+k=off+rows.length * (T.get el).size+(k - olds.length) by rw [<- ah.len];omega,this]
  simp_all
 obtain ⟨v',w1,hr,hg,b2,off2,cap2,cs2,ty2,fz2,h1,h2,h3,h4,h5,h6,h7,h8⟩:=grow (some ⟨b,off,none⟩) cap olds (run_firstCells_some w.drew i.size rows.length ⟨b,off,none⟩ rows.length cap olds (by rw [ah.len,hs]) (fun j u hj=>by rw [Yb];simp_all)) ah oM;exact ⟨v',w1,hr,hg.os,hg.tape,hg.output,hg.size,fun b' o' u hu _=>.inl ((hg.cell (Vf hu)).trans hu),fun b' n8 _=>hg.old b' n8,.inr ⟨b2,off2,cap2,cs2,ty2,fz2,h1,h2,h3,h4,h5,h6,.inr h7,h8⟩⟩
theorem Uy (hT:TabOK T G.P) (hS:SRel G e σ w) {el:Nat} (dk:(T.get el).kind≠.other) (ax:0<(T.get el).size)
  {rows more:List (List D)} {v v':Value} {w1:World} (hD:DRel (okc e σ) w (.sl rows) v) (tk0:List Nat) (bj:∀x,x∈tk0->x∈σ.tk) (od:∀r∈rows,r.length=(T.get el).size) (hw:∀r∈more,r.length=(T.get el).size)
  (gz:∀a o c,v=.slice (some ⟨a,o,none⟩) rows.length c->∃tok,tok∈σ.tk/\tok∉tk0/\e.M tok=some (a,o+rows.length * (T.get el).size))
  (o6:w1.os=w.os) (ku:w1.tape=w.tape) (jr:w1.output=w.output) (dl:w.heap.size<=w1.heap.size)
  (az:∀b off u,w.cell? ⟨b,off,none⟩=some u->okc e σ b off->w1.cell? ⟨b,off,none⟩=some u\/∃a o c,v=.slice (some ⟨a,o,none⟩) rows.length c/\b=a/\o+rows.length * (T.get el).size<=off)
  (gl:∀b,b<w.heap.size->(∀a o c,v=.slice (some ⟨a,o,none⟩) rows.length c->b≠a)->w1.heap[b]?=w.heap[b]?)
  (js:(v'=.slice none 0 0/\rows++more=[])\/∃b off cap cs ty fz,v'=.slice (some ⟨b,off,none⟩) (rows++more).length cap/\G.nG<=b/\(rows++more).length<=cap/\w1.heap[b]?=some (.cells cs ty fz)/\(off+cap * (T.get el).size<=cs.size/\off=0/\ty=el/\0<cap) /\
    (fz.1<=fz.2/\∀o,off+rows.length * (T.get el).size<=o->fz.1<=o->fz.2<=o) /\
    ((∃c,v=.slice (some ⟨b,off,none⟩) rows.length c)\/w.heap.size<=b) /\
    ∃xs,Flat (okc e σ) w (rows++more) (T.get el).size xs/\∀(k:Nat) (u:Value),xs[k]?=some u->w1.cell? ⟨b,off+k,none⟩=some u) :
  ∃e1,Stepped e σ w e1 { σ with tk:=σ.nx::tk0,nx:=σ.nx+1 } w1/\SRel G e1 { σ with tk:=σ.nx::tk0,nx:=σ.nx+1 } w1 /\
   VRel G e1 { σ with tk:=σ.nx::tk0,nx:=σ.nx+1 } w1 (.sl σ.nx el (rows++more)) v':=by
 obtain ⟨i,d,z,hi,hd,hs,ec,bi,hz,cx,om,_⟩:=(hT.get dk).ex;have kw:∀b off u,w.cell? ⟨b,off,none⟩=some u->okc e σ b off->w1.cell? ⟨b,off,none⟩=some u:=fun b off u hu ho=>by
  rcases az b off u hu ho with h | ⟨a,o,c,hv,rfl,aw⟩
  ·exact h
  obtain ⟨tok,ic,_,l6⟩:=gz _ o c hv;have:=ho.2.2.1 tok ic _ l6 rfl;omega
 have kx:∀b,b<w.heap.size->(∀t,t∈σ.tk->t∉tk0->∀p,e.M t=some p->p.1≠b)->w1.heap[b]?=w.heap[b]?:=fun b hb hn=>gl b hb fun a o c hv h=>by
  grind
 obtain ⟨p,hp,jt,hpn⟩:∃p:Option (Nat×Nat),(p=none\/∃b k,p=some (b,k)/\G.nG<=b/\(∃cs ty fz,w1.heap[b]?=some (.cells cs ty fz))/\((∃a o c,v=.slice (some ⟨a,o,none⟩) rows.length c/\a=b/\o+rows.length * (T.get el).size<=k)\/w.heap.size<=b)) /\
   (∀e1:Env,e1.M σ.nx=p->Owned G e1 w1 σ.nx el (rows++more) v') /\
   (∀b k,p=some (b,k)->True):=by
  rcases js with ⟨rfl,fh⟩ | ⟨b,off,cap,cs,tyb,fz,rfl,hb,hc,hh,et,ll,kc,sb⟩
  ·refine ⟨none,.inl rfl,fun e1 he=>.inl ⟨rfl,fh,he⟩,fun _ _ _=>trivial⟩
  refine ⟨some (b,off+(rows++more).length * (T.get el).size),.inr ⟨b,_,rfl,hb,⟨cs,tyb,fz,hh⟩,?_⟩,fun e1 he=>.inr ⟨i.size,by grind,oM,fun r hr=>?_,b,off,cap,cs,tyb,fz,rfl,hb,hc,hh,by grind,⟨ll.1,fun o ho=>ll.2 o (by rw [hs] at ho;rw [Tc,Nat.add_mul] at ho;omega)⟩,by simp_all⟩,fun _ _ _=>trivial⟩
  ·rcases kc with ⟨c,hv⟩ | h
   ·refine .inl ⟨b,off,c,hv,rfl,?_⟩;rw [Tc,Nat.add_mul];omega
   omega
  grind
 have qv:∀x,x∈tk0->(e.own σ.nx p).M x=e.M x:=fun x hx=>by
  have:=hS.tkn x (bj x hx);simp only [Env.own];grind
 have og:(e.own σ.nx p).M σ.nx=p:=by simp [Env.own]
 have l7:∀b off,b<w.heap.size->okc e σ b off->okc (e.own σ.nx p) { σ with tk:=σ.nx::tk0,nx:=σ.nx+1 } b off:=fun b off hb ho=>by
  refine ⟨ho.1,ho.2.1,fun x hx q hq o7=>?_,ho.2.2.2⟩;rcases Tr.1 hx with rfl | hx
  ·rw [og] at hq;rcases hp with h | ⟨b2,k,h,_,_,kc⟩
   ·simp_all
   rw [h] at hq;cases hq;simp only at o7;subst o7;rcases kc with ⟨a,o,c,hv,rfl,aw⟩ | ey
   ·obtain ⟨tok,ic,_,l6⟩:=gz _ o c hv;have:=ho.2.2.1 tok ic _ l6 rfl;omega
   omega
  rw [qv x hx] at hq;exact ho.2.2.1 x (bj x hx) q hq o7
 have hst:Stepped e σ w (e.own σ.nx p) { σ with tk:=σ.nx::tk0,nx:=σ.nx+1 } w1:={
  len:=Tt _
  beta:=fun _ _=>rfl
  X:=fun _ _ h=>h
  pres:=fun b off u hu ho=>⟨l7 b off (Vf hu) ho,kw b off u hu ho⟩
  blocks:=fun b hb _ hn _=>kx b hb fun t ht _ q hq=>hn t ht q hq
  fhid:=fun b h=>.inr (.inr h)
  size:=dl
  os:=o6
  tape:=ku
  output:=jr
  fresh:=fun i h1 h2=>by grind
  ftok:=fun x hx q hq=>by
   grind
  nx:=by simp_all
  toks:=fun x hx hm=>by
   grind
  own:=fun x hx hm q hq aa=>by
   rcases Tr.1 hm with rfl | h
   ·omega
   refine kx _ aa fun t ic nf r hr=>?_
   exact hS.dis t x ic (bj x h) (fun h'=>nf (h' ▸ h)) r q hr hq }
 have qw:∀b k,p=some (b,k)->G.nG<=b/\(∀i,i<σ.bx.length->e.β i≠b)/\(∀x,x∈tk0->∀q,e.M x=some q->q.1≠b)/\(∀off,k<=off->¬e.X b off)/\∃cs ty fz,w1.heap[b]?=some (.cells cs ty fz):=fun b k l8=>by
  rcases hp with h | ⟨b2,k2,h,hb,et,kc⟩
  ·simp_all
  rw [h] at l8;cases l8;refine ⟨hb,fun j hj h'=>?_,fun x hx q hq h'=>?_,fun off ho hX=>?_,et⟩
  ·rcases kc with ⟨a,o,c,hv,rfl,aw⟩ | ey
   ·obtain ⟨tok,ic,_,l6⟩:=gz _ o c hv;exact (hS.own tok ic _ l6).2.1 j hj h'
   have:=hS.lt hj;omega
  ·rcases kc with ⟨a,o,c,hv,rfl,aw⟩ | ey
   ·obtain ⟨tok,ic,nf,l6⟩:=gz _ o c hv;exact hS.dis tok x ic (bj x hx) (fun h2=>nf (h2 ▸ hx)) _ q l6 hq h'.symm
   obtain ⟨_,_,cs,tyy,fz,hh⟩:=hS.own x (bj x hx) q hq
   simp_all
  rcases kc with ⟨a,o,c,hv,rfl,aw⟩ | ey
  ·obtain ⟨tok,ic,_,l6⟩:=gz _ o c hv;exact hS.xown tok ic _ l6 off oM hX
  have:=hS.xlt _ _ hX;omega
 have yz:∀b k,p=some (b,k)->∀q,e.H b≠some q:=fun b k l8 q hq=>by
  obtain ⟨_,k2,_,k4,_⟩:=hS.hid b q hq
  grind
 have hbH:∀b q,e.H b=some q->w1.heap[b]?=w.heap[b]?:=fun b q hq=>by
  obtain ⟨_,k2,_,k4,_⟩:=hS.hid b q hq
  grind
 refine ⟨e.own σ.nx p,hst,?_,?_⟩
 ·exact {
   hid:=fun b q hq=>by
    obtain ⟨k1,k2,k3,k4,k5⟩:=hS.hid b q hq;refine ⟨k1,TC k2 dl,k3,fun x hx r hr=>?_,k5⟩;rcases Tr.1 hx with rfl | h
    ·grind
    grind
   inj:=hS.inj
   box:=fun k y hy=>by
    have hk:=(To.1 hy).1;exact (hS.box k y hy).step hst (kx _ (hS.lt hk) fun t ht _ q hq h=>(hS.own t ht q hq).2.1 k hk h.symm) fun b q hq _=>⟨hq,hbH b q hq⟩
   low:=hS.low
   tkn:=fun x hx=>by
    rcases Tr.1 hx with rfl | h
    ·simp_all
    have:=hS.tkn x (bj x h);grind
   own:=fun x hx q hq=>by
    rcases Tr.1 hx with rfl | h
    ·rw [og] at hq;obtain ⟨h1,h2,_,_,h3⟩:=qw q.1 q.2 hq;trivial
    rw [qv x h] at hq;obtain ⟨h1,h2,cs,tyy,fz,hh⟩:=hS.own x (bj x h) q hq;refine ⟨h1,h2,cs,tyy,fz,(kx _ (Tv.1 hh).1 fun t ic nf r hr=>?_).trans hh⟩;exact hS.dis t x ic (bj x h) (fun h'=>nf (h' ▸ h)) r q hr hq
   dis:=fun x y hx hy hxy q r hq hr=>by
    rcases Tr.1 hx with rfl | h1 <;> rcases Tr.1 hy with rfl | h2
    ·omega
    ·grind
    ·grind
    rw [qv x h1] at hq;rw [qv y h2] at hr;exact hS.dis x y (bj x h1) (bj y h2) hxy q r hq hr
   xlt:=fun b off hX=>TC (hS.xlt b off hX) dl
   xown:=fun x hx q hq off ho=>by
    rcases Tr.1 hx with rfl | h
    ·rw [og] at hq;exact (qw q.1 q.2 hq).2.2.2.1 off ho
    rw [qv x h] at hq;exact hS.xown x (bj x h) q hq off ho
   glob:=fun b hb=>(kx b (TC hb hS.big) fun t ht _ q hq h=>by have:=(hS.own t ht q hq).1;omega).trans (hS.glob b hb)
   big:=TP hS.big dl }
 refine .sl _ _ _ _ (by simp_all) ?_ (fun _=>jt _ og);rcases js with ⟨rfl,fh⟩ | ⟨b,off,cap,cs,tyb,fz,rfl,hb,hc,hh,et,ll,kc,xs,y3,ack⟩
 ·rw [fh];exact .slnil
 have fk:Flat (okc (e.own σ.nx p) { σ with tk:=σ.nx::tk0,nx:=σ.nx+1 }) w1 (rows++more) (T.get el).size xs:=y3.mono fun y u h=>h.later hst.toLater
 refine fk.to_sl b off cap hc ack fun k hk=>?_
 have acl:=jt (e.own σ.nx p) og;rcases acl with ⟨h1,_⟩ | ⟨sz,ui,nh,hq3,b',off',cap',cs',ty',fz',h1,_,_,_,_,_,xe⟩
 ·cases h1
 cases h1
 rw [og] at xe;rw [hi] at ui;simp only [TX,Option.some.injEq] at ui;subst ui;obtain ⟨g1,g2,g3,g4,g5⟩:=qw _ _ xe;rw [y3.len] at hk;refine ⟨fun hX=>?_,g2,fun x hx q hq o7=>?_,fun q hq=>absurd hq (yz _ _ xe q)⟩
 ·rcases kc with ⟨c,hv⟩ | ey
  ·obtain ⟨tok,ic,_,l6⟩:=gz _ off c hv
   by_cases kb:k<rows.length * (T.get el).size
   ·subst hv;obtain ⟨olds,ah,ac,am,bz⟩:=ZGE od ax hD;exact (am k (by rw [ah.len];exact kb)).1 hX
   exact hS.xown tok ic _ l6 (off+k) oM hX
  have:=hS.xlt _ _ hX;omega
 grind
theorem Jr (hT:TabOK T G.P) (hS:SRel G e σ w) {el:Nat} (dk:(T.get el).kind≠.other) {rows:List (List D)} {v:Value} (tk0:List Nat)
  (hO:(v=.slice none 0 0/\rows=[])\/∃tok,tok∈σ.tk/\tok∉tk0/\Owned G e w tok el rows v) :
  ((v = .slice none 0 0 /\ rows = []) \/ ∃ b off cap cs ty fz, v = .slice (some ⟨b, off, none⟩) rows.length cap /\ G.nG <= b /\ rows.length <= cap /\ w.heap[b]? = some (.cells cs ty fz) /\ (off + cap * (T.get el).size <= cs.size /\ off = 0 /\ ty = el /\ 0 < cap) /\
     (fz.1<=fz.2/\∀o,off+rows.length * (T.get el).size<=o->fz.1<=o->fz.2<=o)/\(∀i,i<σ.bx.length->e.β i≠b))/\(∀r∈rows,r.length=(T.get el).size) /\
     (∀a o c,v=.slice (some ⟨a,o,none⟩) rows.length c->∃tok,tok∈σ.tk/\tok∉tk0/\e.M tok=some (a,o+rows.length * (T.get el).size)):=by
 obtain ⟨i,d,z,hi,hd,hs,ec,bi,hz,cx,om,_⟩:=(hT.get dk).ex;rcases hO with ⟨rfl,rfl⟩ | ⟨tok,ic,nf,⟨rfl,rfl,_⟩ | ⟨sz,h1,h2,h3,b,off,cap,cs,tyb,fz,rfl,hb,hc,hh,et,ll,l6⟩⟩
 ·simp_all
 ·simp_all
 rw [hi] at h1;simp only [TX,Option.some.injEq] at h1;subst h1;rw [hs] at h3 et ll l6;exact ⟨.inr ⟨b,off,cap,cs,tyb,fz,rfl,hb,hc,hh,et,ll,(hS.own tok ic _ l6).2.1⟩,h3,fun a o c hv=>by grind⟩
theorem Zfl (hT:TabOK T G.P) (hS:SRel G e σ w) {t tx el ty:Nat} (oz:(T.get t).kind=.slice el) (dk:(T.get el).kind≠.other) (ax:0<(T.get el).size)
  {rows more:List (List D)} {v vx:Value} {px:PV} (hD:DRel (okc e σ) w (.sl rows) v) (tk0:List Nat) (bj:∀x,x∈tk0->x∈σ.tk)
  (hO:(v=.slice none 0 0/\rows=[])\/∃tok,tok∈σ.tk/\tok∉tk0/\Owned G e w tok el rows v)
  (hm:Ve T tx el px=some more) (hx:VRel G e σ w px vx) (hw:∀r∈more,r.length=(T.get el).size)
  (jq:(rows.length+more.length) * (T.get el).bytes<=2 ^ 47) (hlen:rows.length+more.length<=2 ^ 47) :
  ∃v' w1 e1,(Builtin.append_ #[t,tx] ty #[v,vx]).run G.P w=.ok v' w1/\Stepped e σ w e1 { σ with tk:=σ.nx::tk0,nx:=σ.nx+1 } w1/\SRel G e1 { σ with tk:=σ.nx::tk0,nx:=σ.nx+1 } w1 /\
   VRel G e1 { σ with tk:=σ.nx::tk0,nx:=σ.nx+1 } w1 (.sl σ.nx el (rows++more)) v':=by
 obtain ⟨i,d,z,hi,hd,hs,ec,bi,hz,cx,om,_⟩:=(hT.get dk).ex;obtain ⟨news,kq,dy⟩:=ZvW hT hm hx hw ax rfl;obtain ⟨y4,od,gz⟩:=Jr hT hS dk tk0 hO;obtain ⟨v',w1,aj,o6,ku,jr,dl,az,gl,js⟩:=Zfk (ty:=ty) hT hS oz dk ax hD od y4 kq dy jq hlen;obtain ⟨e1,h1,h2,h3⟩:=Uy hT hS dk ax hD tk0 bj od hw gz o6 ku jr dl az gl js
 grind
theorem Uz {ok:Nat->Nat->Prop}:∀{l:List PV} {r:List D},Zo1 l=some r->r.length=l.length/\∀(i:Nat) (x:PV) (y:D),l[i]?=some x->r[i]?=some y->toD x=some y
 | [],r,h=>by cases h;simp_all
 | v::l,r,h=>by
  simp only [Zo1] at h;split at h
  ·rename_i d hd
   split at h
   ·rename_i r' hr
    cases h
    obtain ⟨h1,h2⟩:=Uz (ok:=ok) hr
    grind
   cases h
  cases h
theorem Zie {ρ:Operand->PV} {ρ':Operand->Value} (hρ:∀x,VRel G e σ w (ρ x) (ρ' x)) {sz:Nat} (ax:0<sz) :
  ∀(ps:List (Nat×Operand)) (rows rows':List (List D)) (vs:Array Value),Flat (okc e σ) w rows sz vs.toList->(∀u∈vs,u.oneCell'=true)->XN sz ρ ps rows=some rows' ->
   ∃vs':Array Value,Instr.fill (fun i=>some (i * sz,sz)) vs (ps.map fun p=>(p.1,ρ' p.2))=some vs'/\Flat (okc e σ) w rows' sz vs'.toList/\rows'.length=rows.length/\(∀u∈vs',u.oneCell'=true)
 | [],rows,rows',vs,hf,h1,h=>by cases h;exact ⟨vs,rfl,hf,rfl,h1⟩
 | (i,x)::ps,rows,rows',vs,hf,h1,h=>by
  simp only [XN] at h;split at h
  ·rename_i r hr
   split at h
   ·rename_i hlen aa
    have e1:=Tu hlen;have e2:=Tb aa;unfold ZjT at hr
    split at hr
    ·rename_i l hl
     obtain ⟨dv,bw⟩:=WK (hρ x) hl;obtain ⟨fx,cg⟩:=Uz (ok:=okc e σ) hr;have bh:vs.size=rows.length * sz:=by have:=hf.len;omega
     have hsz:(ρ' x).cells.size=sz:=oM;have lr:i * sz+sz<=rows.length * sz:=by
      calc i * sz+sz=(i+1) * sz:=by grind
       _<=rows.length * sz:=Si _ e2
     simp only [Tx,Instr.fill];rw [Te (by simp_all)];rw [Zpf];have be:∀k,((((ρ' x).cells.toList.zipIdx 0).foldl (fun cs (p:Value×Nat)=>cs.setIfInBounds (i * sz+p.2) p.1) vs))[k]?=if i * sz<=k/\k<i * sz+sz then (ρ' x).cells[k - i * sz]? else vs[k]?:=fun k=>by
      rw [ZcX]
      grind
     have dl:((((ρ' x).cells.toList.zipIdx 0).foldl (fun cs (p:Value×Nat)=>cs.setIfInBounds (i * sz+p.2) p.1) vs)).size=vs.size:=ZbD vs (i * sz) (ρ' x).cells.toList 0 vs;generalize ((((ρ' x).cells.toList.zipIdx 0).foldl (fun cs (p:Value×Nat)=>cs.setIfInBounds (i * sz+p.2) p.1) vs))=vs2 at be dl |-;have uj:Flat (okc e σ) w (rows.set i r) sz vs2.toList:=by
      refine ⟨by simp_all,fun r' ot=>?_,fun a b y u hb hy hu=>?_⟩
      ·rcases List.mem_or_eq_of_mem_set ot with h' | rfl
       ·exact hf.wid r' h'
       omega
      rw [TG,be] at hu
      by_cases hai:a=i
      ·subst hai;rw [Ti ⟨oM,oM⟩,show a * sz+b - a * sz=b by omega] at hu;rw [List.getElem?_set_self oM] at hy;simp only [Option.bind_some] at hy;have dc:b<l.length:=oM;have:=cg b l[b] y (Ta dc) hy;exact X0 this (bw b l[b] u (Ta dc) hu).1
      rw [List.getElem?_set_ne (Ne.symm hai)] at hy;have ai:¬(i * sz<=a * sz+b/\a * sz+b<i * sz+sz):=fun hh=>by
       rcases Nat.lt_or_gt_of_ne hai with h' | h'
       ·have:(a+1) * sz<=i * sz:=Si _ h'
        grind
       have:(i+1) * sz<=a * sz:=Si _ h'
       grind
      rw [Te ai] at hu;exact hf.rel a b y u hb hy (by simp_all)
     have y5:∀u∈vs2,u.oneCell'=true:=by
      intro u hu
      obtain ⟨k,hk,rfl⟩:=SB hu;have h3:=be k
      grind
     obtain ⟨vs',q1,q2,q3,q4⟩:=Zie hρ ax ps (rows.set i r) rows' vs2 uj y5 h
     simp_all
    grind
   cases h
  cases h
theorem U7 (hT:TabOK T G.P) {ρ:Operand->PV} {ρ':Operand->Value} (hρ:∀x,VRel G e σ w (ρ x) (ρ' x)) {t n el:Nat} {ps:Array (Nat×Operand)} {zero:List D} {rows:List (List D)}
  (oz:(T.get t).kind=.slice el) (dk:(T.get el).kind≠.other) (fb:Zo1 (T.get el).zero=some zero) (ax:1<=zero.length) (dm:n * zero.length<=16777216) (bu:ZcT zero ρ n ps.toList=some rows) :
  ∃vs',(Instr.buildSlice t n (ps.map fun p=>(p.1,ρ' p.2))).run G.P w=.ok (.slice (some ⟨w.heap.size,0,none⟩) n n) (w.alloc (.cells vs' el))/\Flat (okc e σ) w rows zero.length vs'.toList/\rows.length=n/\zero.length=(T.get el).size:=by
 obtain ⟨ti,td,tz,oc,qt,_,_,aq,_,_,_⟩:=(hT.get (t:=t) (by simp_all)).ex;rw [oz] at aq;cases aq;obtain ⟨i,d,z,hi,hd,hs,ec,bi,hz,cx,om,_⟩:=(hT.get dk).ex;obtain ⟨fx,cg⟩:=Uz (ok:=okc e σ) fb;have uk:i.size=zero.length:=oM;obtain ⟨hz3,y6⟩:=Xv (G:=G) (e:=e) (σ:=σ) (w:=w) cx;have hzc:z.cells.size=zero.length:=by simp_all
 have hsz:0<zero.length:=ax;have h0:Flat (okc e σ) w (List.replicate n zero) zero.length ((Array.range (n * zero.length)).map (fun k=>z.cells[k % z.cells.size]!)).toList:=by
  exact mq33
 have h01:∀u∈(Array.range (n * zero.length)).map (fun k=>z.cells[k % z.cells.size]!),u.oneCell'=true:=fun u hu=>by
  obtain ⟨k,hk,rfl⟩:=Array.mem_map.1 hu;have hm:k % z.cells.size<z.cells.size:=Nat.mod_lt _ oM;rw [getElem!_pos z.cells _ hm];have dc:k % z.cells.size<(T.get el).zero.length:=oM;exact (y6 _ _ _ (Ta dc) (by simp_all)).2
 obtain ⟨vs',q1,q2,q3,q4⟩:=Zie hρ hsz ps.toList _ rows _ h0 h01 bu;rw [List.length_replicate] at q3;have aj:(Instr.buildSlice t n (ps.map fun p=>(p.1,ρ' p.2))).run G.P w=.ok (.slice (some ⟨w.heap.size,0,none⟩) n n) (w.alloc (.cells vs' el)):=by
  unfold Instr.buildSlice
  simp only [Sem.run_bind,Za qt,Result.andThen,Zt hi,uk];rw [Te oM];have y7:(ps.map fun p=>(p.1,ρ' p.2)).toList=ps.toList.map fun p=>(p.1,ρ' p.2):=sM
  split
  ·rename_i h0'
   have fm:(Array.range (n * zero.length)).map (fun k=>(#[]:Array Value)[k % (#[]:Array Value).size]!)=(Array.range (n * zero.length)).map (fun k=>z.cells[k % z.cells.size]!):=by
    simp_all
   simp only [Sem.run_bind,Sem.run_pure,Result.andThen];rw [fm,y7,q1];rfl
  simp only [Sem.run_bind,Sem.run_pure,Result.andThen,zeroValue,Ya hi,hz];rw [y7,q1];rfl
 grind
theorem Zb6 (hT:TabOK T G.P) (hS:SRel G e σ w) {ρ:Operand->PV} {ρ':Operand->Value} (hρ:∀x,VRel G e σ w (ρ x) (ρ' x)) {t n el:Nat} {ps:Array (Nat×Operand)} {zero:List D} {rows:List (List D)}
  (oz:(T.get t).kind=.slice el) (dk:(T.get el).kind≠.other) (fb:Zo1 (T.get el).zero=some zero) (ax:1<=zero.length) (dm:n * zero.length<=16777216) (bu:ZcT zero ρ n ps.toList=some rows) :
  ∃v w1,(Instr.buildSlice t n (ps.map fun p=>(p.1,ρ' p.2))).run G.P w=.ok v w1/\Grows w w1/\DRel (okc e σ) w1 (.sl rows) v:=by
 obtain ⟨vs',aj,q2,hlen,_⟩:=U7 (ρ':=ρ') hT hρ oz dk fb ax dm bu;refine ⟨_,_,aj,Grows.alloc w _,?_⟩;have hg:=Grows.alloc w (.cells vs' el);have hst:=hg.stepped e σ;have fk:Flat (okc e σ) (w.alloc (.cells vs' el)) rows zero.length vs'.toList:=q2.mono fun y u h=>h.later hst.toLater
 have:=fk.to_sl w.heap.size 0 n oM (fun k u hk=>by
  simp_all) (fun k hk=>hS.fresh_okc _)
 simp_all
theorem Zc0 (hT:TabOK T G.P) (hS:SRel G e σ w) {t n el:Nat} {zero:List D}
  (oz:(T.get t).kind=.slice el) (dk:(T.get el).kind≠.other) (fb:Zo1 (T.get el).zero=some zero) (ax:1<=zero.length) (dm:n * zero.length<=16777216) (lu:n * (T.get el).bytes<=16777216) :
  ∃v w1,(Instr.makeSlice t (.int .i64 n) (.int .i64 n)).run G.P w=.ok v w1/\Grows w w1/\DRel (okc e σ) w1 (.sl (List.replicate n zero)) v:=by
 obtain ⟨ti,td,tz,oc,qt,_,_,aq,_,_,_⟩:=(hT.get (t:=t) (by simp_all)).ex;rw [oz] at aq;cases aq;obtain ⟨i,d,z,hi,hd,hs,ec,bi,hz,cx,om,_⟩:=(hT.get dk).ex;obtain ⟨fx,cg⟩:=Uz (ok:=okc e σ) fb;have uk:i.size=zero.length:=oM;obtain ⟨hz3,y6⟩:=Xv (G:=G) (e:=e) (σ:=σ) (w:=w) cx;have hzc:z.cells.size=zero.length:=by simp_all
 have hsz:0<zero.length:=ax;have hn:n<=16777216:=TP (Nat.le_mul_of_pos_right n hsz) dm;obtain ⟨V,hV⟩:∃V,(Array.range (n * zero.length)).map (fun k=>z.cells[k % z.cells.size]!)=V:=⟨_,rfl⟩
 have h0:Flat (okc e σ) w (List.replicate n zero) zero.length V.toList:=by
  rw [<- hV];exact mq33
 have hwr:IntKind.i64.wrap (n:Int)=n:=by
  unfold IntKind.wrap
  simp only [show IntKind.i64.bits=64 from rfl,show IntKind.i64.signed=true from rfl,Sf]
  grind
 have aco:(decide ((n:Int)<0) || decide ((i.bytes:Int) * (n:Int)>2 ^ 48))=false:=by
  grind
 have aj:(Instr.makeSlice t (.int .i64 n) (.int .i64 n)).run G.P w=.ok (.slice (some ⟨w.heap.size,0,none⟩) n n) (w.alloc (.cells V el)):=by
  unfold Instr.makeSlice
  have ha:Sem.run G.P (asIntOf (.int .i64 (n:Int))) w=.ok (.i64,(n:Int)) w:=rfl;have l9:decide ((n:Int)<0)=false:=decide_eq_false oM;have cf:decide ((n:Int)>(n:Int))=false:=decide_eq_false oM;have dg:decide ((i.bytes:Int) * (n:Int)>2 ^ 48)=false:=by
   simp_all
  have mq:(askRoom (n * i.bytes)).run G.P w=.ok () w:=by
   simp_all
  simp only [Sem.run_bind,Za qt,Result.andThen,asInt,Functor.map,Sem.run_pure,Ya hi,ha,hwr,l9,cf,dg,Sm,TB,if_false,Tg,mq,Zt hi,uk];split
  ·rename_i h0'
   have fm:(Array.range (n * zero.length)).map (fun k=>(#[]:Array Value)[k % (#[]:Array Value).size]!)=V:=by
    grind
   simp only [Sem.run_bind,Sem.run_pure,Result.andThen];rw [fm];rfl
  simp only [Sem.run_bind,Sem.run_pure,Result.andThen,zeroValue,Ya hi,hz];rw [hV];rfl
 refine ⟨_,_,aj,Grows.alloc w _,?_⟩;have hg:=Grows.alloc w (.cells V el);have hst:=hg.stepped e σ;have fk:Flat (okc e σ) (w.alloc (.cells V el)) (List.replicate n zero) zero.length V.toList:=h0.mono fun y u h=>h.later hst.toLater
 have:=fk.to_sl w.heap.size 0 n (by simp_all) (fun k u hk=>by
  simp_all) (fun k hk=>hS.fresh_okc _)
 simp_all
theorem Znt (hT:TabOK T G.P) (hS:SRel G e σ w) {K:PV->St->Prop} {ρ:Operand->PV} {ρ':Operand->Value} (hρ:∀x,VRel G e σ w (ρ x) (ρ' x)) (o:Oper) (h:ZAI T o.op ρ σ K) :
  ∃pv σ1 v w1 e1,K pv σ1/\(execOp ρ' o).run G.P w=.ok (.value v) w1/\Stepped e σ w e1 σ1 w1/\SRel G e1 σ1 w1/\VRel G e1 σ1 w1 pv v:=by
 unfold ZAI at h
 split at h
 ·rename_i t n ps ho
  split at h
  ·rename_i el hk
   split at h
   ·grind
   rename_i cu
   split at h
   ·rename_i zero fb
    split at h
    ·rename_i rows ax dm hn bu
     have hn:=Tb hn;obtain ⟨vs',aj,dz,hlen,y8⟩:=U7 (ρ':=ρ') hT hρ hk (fun h0=>cu h0) fb (Tb ax) (Tb dm) bu;rw [y8] at dz;have bh:vs'.size=n * (T.get el).size:=by have:=dz.len;simp_all
     obtain ⟨e1,h1,h2,h3⟩:=Uy (more:=rows) (v':=.slice (some ⟨w.heap.size,0,none⟩) n n) (w1:=w.alloc (.cells vs' el)) hT hS (fun h0=>cu h0) (by have:=Tb ax;omega) (.slnil) σ.tk (fun _ h=>h) (fun r hr=>by cases hr) (fun r hr=>dz.wid r hr)
      (fun a o c hv=>by simp at hv) rfl rfl rfl (Grows.alloc w _).size (fun b off u hu _=>.inl (by rw [(Grows.alloc w _).cell (Vf hu)];exact hu)) (fun b hb _=>heap_alloc_old w _ b hb)
      (.inr ⟨w.heap.size,0,n,vs',el,(0,0),by grind,hS.big,by grind,heap_alloc_new w _,⟨oM,rfl,rfl,oM⟩,⟨Tt _,fun o _ _=>sM⟩,.inr (Tt _),vs'.toList,by simp_all,fun k u hk=>by
       simp_all⟩)
     refine ⟨_,_,_,_,e1,h,?_,h1,h2,h3⟩;unfold execOp
     simp_all
    simp_all
   simp_all
  simp_all
 ·rename_i s d x ho
  have hx:=hρ x;split at h
  ·rename_i el hk
   obtain ⟨i,ds,z,hi,hd,hs,ec,aq,hz,cx,_⟩:=(hT.get (t:=s) (by grind)).ex;rw [hk] at aq;cases aq;split at h
   ·rename_i b off n cu hk3 ox
    obtain ⟨i2,dd,z2,af,cg,fj,jc,bi,cx,ua,_⟩:=(hT.get (t:=d) (by simp_all)).ex;rw [cu] at bi;cases bi;obtain ⟨i3,de,z3,hi3,ow,mn,yy,kj,hz3,aci,_⟩:=(hT.get (t:=el) (by simp_all)).ex;rw [hk3] at kj;cases kj;rw [ox] at hx;split at h
    ·rename_i tb cs d8
     obtain ⟨l,qp,cd,hK⟩:=h;generalize hv:ρ' x=vx at hx
     cases hx with
     | asl _ _ _ hb =>
     refine ⟨_,_,_,_,e,hK,?_,Stepped.refl e σ w,hS,.mkstr⟩;unfold execOp
     simp only [ho,convert,Sem.run_bind,Za hd,Za cg,Result.andThen,hv];simp only [Za ow,Sem.run_bind,Result.andThen,Zpg (hS.box b _ d8) cd qp,Sem.run_pure]
    simp_all
   simp_all
  simp_all
 ·rename_i t ho
  split at h
  ·rename_i kt el hk
   split at h
   ·rename_i el2 cu
    obtain ⟨h1,h2,h3⟩:=WM hS (.smap el2 [] none) (.map #[] 0) fun e1 σ1 w1 _ hh=>(by
     refine ⟨#[],⟨[],0,hh,rfl,rfl,fun i u hu=>?_⟩,fun i u x hu hx=>?_,fun kv ka=>?_,List.nodup_nil⟩
     ·simp at hu
     ·simp at hu
     grind)
    refine ⟨_,_,.map (some w.heap.size),_,_,h,?_,h1,h2,?_⟩
    ·exact mq134
    have:=VRel.mp (G:=G) (e:=e.more σ.bx.length w.heap.size) (σ:=σ.new (.smap el2 [] none)) (w:=w.alloc (.map #[] 0)) σ.bx.length (by rw [ZGy];omega)
    rwa [show (e.more σ.bx.length w.heap.size).β σ.bx.length=w.heap.size by simp [Env.more]] at this
   simp_all
  simp_all
 simp_all
theorem Znu (hT:TabOK T G.P) (hS:SRel G e σ w) {K:PV->Prop} {ρ:Operand->PV} {ρ':Operand->Value} (hρ:∀x,VRel G e σ w (ρ x) (ρ' x)) (o:Oper) (h:Zh4 T o.op o.type ρ σ.bx K) :
  ∃pv v w1,K pv/\Grows w w1/\VRel G e σ w1 pv v/\(execOp ρ' o).run G.P w=.ok (.value v) w1:=by
 unfold Zh4 at h
 split at h
 ·rename_i x hx
  unfold Zni at hx
  split at hx
  ·rename_i s d x' ho
   split at hx
   ·rename_i cp
    split at hx
    ·rename_i el aq
     split at hx
     ·rename_i hke
      cases hx
      obtain ⟨i1,d1,z1,hi1,fx,lw,ag4,y9,_⟩:=(hT.get (t:=s) (by simp_all)).ex;obtain ⟨i2,d2,z2,af,cg,fj,jc,bi,_⟩:=(hT.get (t:=d) (by simp_all)).ex;obtain ⟨i3,d3,z3,hi3,ow,mn,yy,kj,_⟩:=(hT.get (t:=el) (by simp_all)).ex;rw [cp] at y9;rw [aq] at bi;rw [hke] at kj;obtain rfl:d1=.string:=y9;obtain rfl:d2=.slice el:=bi;obtain rfl:d3=.int .u8:=kj;have hx:=hρ x;split at h
      ·rename_i l bm
       rw [bm] at hx;have hg:Grows w (Lib.bytesWorld w el ⟨l.toArray⟩):=⟨rfl,rfl,rfl,by rw [Lib.bytesWorld_size];omega,fun b hb=>Lib.bytesWorld_at_old w el _ b hb⟩
       refine ⟨_,.slice (some ⟨w.heap.size,0,none⟩) l.length (grownCap w l.length 0 el),_,h,hg,?_,?_⟩
       ·refine .d _ _ ?_;have:=DRel.sl (ok:=okc e σ) (w:=Lib.bytesWorld w el ⟨l.toArray⟩) (l.map fun b:UInt8=>[D.int .u8 b.toNat]) w.heap.size 0 (grownCap w l.length 0 el) 1 (fun i _=>.int .u8 (l.getD i 0).toNat) ?_ ?_ ?_ ?_ ?_
        ·simp_all
        ·simp only [Td];exact grownCap_ge w l.length 0 el
        ·simp_all
        ·intro i j hi hj
         simp only [Td] at hi;have:j=0:=oM;subst this;simp only [Sx,Nat.mul_one,Nat.add_zero];have:=Lib.bytesWorld_cell w el ⟨l.toArray⟩ i (show i<l.toArray.size by omega);omega
        ·intro i j hi hj
         exact hS.fresh_okc _
        intro i j y hy
        rw [Th] at hy
        cases eu:l[i]? with
        | none=>simp_all
        | some b =>
        rw [eu] at hy
        cases j with
        | zero=>simp at hy;subst hy;simp only [T8,eu,Ss];exact .int _ _
        | succ j=>simp at hy
       unfold execOp
       simp only [ho,hx.dstr];rw [Sem.run_bind,Lib.run_convert_string_bytes w s d el ⟨l.toArray⟩ fx cg ow];rfl
      simp_all
     grind
    grind
   grind
  grind
 split at h
 ·rename_i t n ps ho
  split at h
  ·rename_i el hk
   split at h
   ·grind
   rename_i cu
   split at h
   ·rename_i zero fb
    split at h
    ·rename_i rows ax dm bu
     obtain ⟨v,w1,aj,hg,hD⟩:=Zb6 hT hS hρ hk (fun h0=>cu h0) fb (Tb ax) (Tb dm) bu;refine ⟨_,v,w1,h,hg,.d _ _ hD,?_⟩;unfold execOp
     simp_all
    simp_all
   simp_all
  simp_all
 ·rename_i t l c ho
  split at h
  ·rename_i el hk
   split at h
   ·grind
   rename_i cu
   split at h
   ·rename_i zero n m fb hl hc
    obtain ⟨rfl,ax,dm,lu,h⟩:=h;obtain ⟨v,w1,aj,hg,hD⟩:=Zc0 hT hS hk (fun h0=>cu h0) fb ax dm lu;refine ⟨_,v,w1,h,hg,.d _ _ hD,?_⟩;have e1:ρ' l=.int .i64 (n:Int):=by have:=hρ l;rw [hl] at this;exact this.dint
    have e2:ρ' c=.int .i64 (n:Int):=by have:=hρ c;rw [hc] at this;exact this.dint
    unfold execOp
    simp_all
   simp_all
  simp_all
 obtain ⟨pv,v,h1,h2,h3⟩:=Zph hT hS hρ o h;exact ⟨pv,v,w,h1,Grows.refl w,h2,h3⟩
def Zfm {P:Program} {r ck ck':Nat} {es es':Array MapEntry} (h:w.heap[r]?=some (.map es ck)):(setObj r (.map es' ck')).run P w=.ok () (w.putObj r (.map es' ck')):=by
 simp only [setObj,Sem.run,h,World.putObj]
def MRel.step {e':Env} {σ':St} {w':World} (hs:Stepped e σ w e' σ' w'):∀{cs:List PV} {l:List MapEntry},MRel G e σ w cs l->MRel G e' σ' w' cs l
 | [],[],_=>trivial
 | [],_::_,h=>h.elim
 | .d (.str k)::x::cs,u::l,h=>⟨h.1,h.2.1.step hs,MRel.step hs h.2.2⟩
 | .d (.str _)::_::_,[],h=>h.elim
 | [.d (.str _)],_,h=>by cases h
def MRel.push {k:List UInt8} {x:PV} {u:MapEntry} (h1:u.key=.string ⟨k.toArray⟩) (h2:VRel G e σ w x u.val):∀{cs:List PV} {l:List MapEntry},MRel G e σ w cs l->MRel G e σ w (cs++[.d (.str k),x]) (l++[u])
 | [],[],_=>⟨h1,h2,trivial⟩
 | [],_::_,h=>h.elim
 | .d (.str _)::y::cs,v::l,h=>⟨h.1,h.2.1,MRel.push h1 h2 h.2.2⟩
 | .d (.str _)::_::_,[],h=>h.elim
 | [.d (.str _)],_,h=>by cases h
theorem Ztb {px:PV} {x:MV} {v:Value} (h:ZDV px=some x) (hv:VRel G e σ w px v):VRel G e σ w x.pv v:=by
 unfold ZDV at h
 split at h
 ·rename_i cs
  split at h
  ·rename_i l hl
   cases h
   cases hv with
   | agg _ vs h1 h2 h3 =>
   obtain ⟨g1,g2⟩:=Uz (ok:=fun _ _=>True) hl;refine .agg _ vs (by simp_all) (fun i y u hy hu=>?_) h3;rw [Th] at hy;obtain ⟨d,hd,rfl⟩:=TD.1 hy;have hi:=(To.1 hd).1;have hc:cs[i]?=some cs[i]:=Ta oM;exact .d _ _ (X0 (g2 i _ d hc hd) (h2 i _ u hc hu))
  cases h
 split at h
 ·rename_i y hy
  cases h
  exact .d _ _ (X0 hy hv)
 cases h
theorem UA {t el kt:TypeId} (hd:G.P.underlying t=some (.map kt el)) (cp:G.P.underlying kt=some .string) {key:List UInt8} {px:PV} {vx:Value} {cs:List PV} {bn:List Nat} {ck b:Nat} (hB:BRel G e σ w (.map cs bn ck) b) (hx:VRel G e σ w px vx) :
  ∃w1,(Instr.mapUpdate t (.map (some b)) (.string ⟨key.toArray⟩) vx).run G.P w=.ok () w1/\(w1.os=w.os/\w1.tape=w.tape/\w1.output=w.output/\w1.heap.size=w.heap.size/\∀k,k≠b->w1.heap[k]?=w.heap[k]?) /\
   ((∃cs',Znj key px cs=some cs'/\∀σ1,Stepped e σ w e σ1 w1->BRel G e σ1 w1 (.map cs' bn ck) b)\/(Znj key px cs=none/\∀σ1,Stepped e σ w e σ1 w1->BRel G e σ1 w1 (.map (cs++[.d (.str key),px]) (bn++[ck]) (ck+1)) b)) /\
   ∃(es es':Array MapEntry) (ck':Nat),w.heap[b]?=some (.map es ck)/\w1.heap[b]?=some (.map es' ck')/\∀(i:Nat) (u:MapEntry),es'[i]?=some u->u.key≠.string ⟨key.toArray⟩->es[i]?=some u:=by
 obtain ⟨es,g1,g2,g3⟩:=hB.mrel;have aa:b<w.heap.size:=(Tv.1 g1).1;have h0:(getObj b).run G.P w=.ok (.map es ck) w:=by simp only [getObj,Sem.run,g1]
 have h1:=Jo cp false ⟨key.toArray⟩ w;have other:∀ob:Obj,(w.putObj b ob).os=w.os/\(w.putObj b ob).tape=w.tape/\(w.putObj b ob).output=w.output/\(w.putObj b ob).heap.size=w.heap.size/\∀k,k≠b->(w.putObj b ob).heap[k]?=w.heap[k]?:=fun ob=>⟨rfl,rfl,rfl,World.putObj_size,fun k hk=>World.putObj_heap_other hk⟩
 rcases Yo (n:=0) (key:=key) g2 with ⟨x,v,j,q1,q2,q3,_,q5,q6,en,q7,q8⟩ | ⟨q1,q2,q3⟩
 ·obtain ⟨cs',q9,q10⟩:=q6 px vx hx;have h2:=Ux (P:=G.P) cp q2 w;simp only [Nat.sub_zero] at q5 q7 q10;have q7':es[j]?=some en:=by simp_all
  have hl:(es.modify j fun e0=>{ e0 with key:=.string ⟨key.toArray⟩,val:=vx }).toList=es.toList.modify j fun e0=>{ e0 with key:=.string ⟨key.toArray⟩,val:=vx }:=sM
  refine ⟨w.putObj b (.map (es.modify j fun e0=>{ e0 with key:=.string ⟨key.toArray⟩,val:=vx }) ck),?_,other _,.inl ⟨cs',q9,fun σ1 hst=>.ofM (World.putObj_heap_same aa) (by rw [hl];exact q10.step hst) (by
    rw [hl,<- g3]
    apply List.ext_getElem?
    grind)⟩,es,_,ck,g1,World.putObj_heap_same aa,fun i u hu ai=>by
    grind⟩
  unfold Instr.mapUpdate
  have h3:(Instr.keyThatStays en.key (.string ⟨key.toArray⟩)).run G.P w=.ok (.string ⟨key.toArray⟩) w:=by
   unfold Instr.keyThatStays
   rw [q8,Ti]
   ·rfl
   show ((⟨key.toArray⟩:ByteArray) == ⟨key.toArray⟩)=true;rw [ZlE];simp
  simp only [Sem.run_bind,Za hd,Result.andThen,h0,h1,h2,q7',TX,Ss,h3,Zfm g1]
 have h2:=Ux (P:=G.P) cp q2 w;refine ⟨w.putObj b (.map (es.push { key:=.string ⟨key.toArray⟩,val:=vx,born:=ck }) (ck+1)),?_,other _,.inr ⟨q3 px,fun σ1 hst=>.ofM (World.putObj_heap_same aa) (by rw [Array.toList_push];exact MRel.step hst (MRel.push rfl hx g2)) (by simp_all)⟩,es,_,ck+1,g1,World.putObj_heap_same aa,fun i u hu ai=>by
   grind⟩
 unfold Instr.mapUpdate
 simp only [Sem.run_bind,Za hd,Result.andThen,h0,h1,h2,Zfm g1]
def Zfn {k:List UInt8} {v v0:PV}:∀{l:List (List UInt8×List (List D))},k∉l.map (·.1)->VR l (some (k,v0))=VR l (some (k,v))
 | [],_=>rfl
 | (x,r)::l,h=>by
  simp only [Tx,Tr,not_or] at h;have hx:¬x=k:=fun e=>h.1 e.symm
  simp only [VR,Zh3,decide_eq_false hx];rw [Zfn (v:=v) (v0:=v0) h.2]
theorem Zif {k:List UInt8} {v v0:PV}:∀{m:List (List UInt8×List (List D))},(m.map (·.1)).Nodup->Znj k v (VR m (some (k,v0)))=some (VR (Z2 k [] m) (some (k,v)))\/(Znj k v (VR m (some (k,v0)))=none/\VR (Z2 k [] m) (some (k,v))=VR m (some (k,v0))++[.d (.str k),v])
 | [],_=>.inr ⟨rfl,by simp [VR,Z2,Zh3]⟩
 | (x,r)::l,h=>by
  simp only [Tx,List.nodup_cons] at h;simp only [VR,Znj,Z2]
  by_cases hk:k=x
  ·subst hk
   left
   simp only [decide_true,VR,Zh3];rw [Zfn h.1]
  have hx:¬x=k:=fun e=>hk e.symm
  simp only [decide_eq_false hk];rcases Zif (k:=k) (v:=v) (v0:=v0) h.2 with g | ⟨g,g2⟩
  ·left;simp only [g,VR,Zh3,decide_eq_false hx]
  right;refine ⟨by grind,by simp only [VR,g2,Zh3,decide_eq_false hx,Sl]⟩
theorem Zc1 {α:Type} {k:List UInt8} {v:α}:∀m:List (List UInt8×α),(k∈m.map (·.1)/\(Z2 k v m).map (·.1)=m.map (·.1))\/(k∉m.map (·.1)/\(Z2 k v m).map (·.1)=m.map (·.1)++[k])
 | []=>.inr ⟨sM,rfl⟩
 | (x,u)::l=>by
  simp only [Z2]
  by_cases hk:k=x
  ·simp_all
  simp only [decide_eq_false hk];rcases Zc1 (k:=k) (v:=v) l with ⟨h1,h2⟩ | ⟨h1,h2⟩
  ·simp_all
  simp_all
theorem Zfo {α:Type} {k:List UInt8} {v:α} {m:List (List UInt8×α)} (h:(m.map (·.1)).Nodup):((Z2 k v m).map (·.1)).Nodup:=by
 rcases Zc1 (k:=k) (v:=v) m with ⟨_,h2⟩ | ⟨h1,h2⟩
 ·simp_all
 grind
theorem ZlF {α:Type} {k:List UInt8} {v:α}:∀{m:List (List UInt8×α)} {i:Nat} {x:List UInt8×α},(Z2 k v m)[i]?=some x->x.1≠k->m[i]?=some x
 | [],0,x,h,ai=>by simp [Z2] at h;grind
 | [],i+1,x,h,ai=>by assumption
 | (y,u)::l,i,x,h,ai=>by
  simp only [Z2] at h
  by_cases hk:k=y
  ·grind
  simp only [decide_eq_false hk] at h
  cases i with
  | zero=>grind
  | succ i=>simp only [TZ] at h |-;exact ZlF h ai
def J4 {α:Type} {k:List UInt8} {v:α}:∀m:List (List UInt8×α),lkM k (Z2 k v m)=some v
 | []=>by simp [Z2,lkM]
 | (y,u)::l=>by
  simp only [Z2]
  by_cases hk:k=y
  ·subst hk;simp [lkM]
  simp only [decide_eq_false hk,lkM];exact J4 l
theorem XP {fo:Option (List UInt8×PV)}:∀{m:List (List UInt8×List (List D))} {i:Nat} {x:List UInt8×List (List D)},m[i]?=some x->(VR m fo)[2 * i]?=some (.d (.str x.1))/\(VR m fo)[2 * i+1]?=some (Zh3 x.1 x.2 fo)
 | [],i,x,h=>by simp at h
 | (y,r)::l,0,x,h=>by simp at h;subst h;trivial
 | (y,r)::l,i+1,x,h=>by
  have:=XP (fo:=fo) (m:=l) (i:=i) (x:=x) (by grind)
  assumption
theorem StB.more {bn:List Nat} {ck:Nat} (h:StB bn ck):StB (bn++[ck]) (ck+1):=by
 refine ⟨List.nodup_append.2 ⟨h.1,sM,fun a ha b hb=>?_⟩,fun x hx=>?_⟩
 ·have:=h.2 a ha
  grind
 rcases Tw.1 hx with hx | hx
 ·have:=h.2 x hx;omega
 simp_all
theorem Zc2 (hT:TabOK T G.P) (hS:SRel G e σ w) {t:TypeId} {pm pk px:PV} {vm vk vx:Value} {K:PV->St->Prop} (hm:VRel G e σ w pm vm) (hk:VRel G e σ w pk vk) (hx:VRel G e σ w px vx) (h:ZcU T t pm pk px σ K) :
  ∃σ1 w1,K .undef σ1/\(Instr.mapUpdate t vm vk vx).run G.P w=.ok () w1/\Stepped e σ w e σ1 w1/\SRel G e σ1 w1:=by
 unfold ZcU at h
 split at h
 ·rename_i kt el bf
  obtain ⟨i,d,z0,hi,hd,_,_,aq,_⟩:=(hT.get (t:=t) (by simp_all)).ex;rw [bf] at aq;obtain ⟨rfl,cp⟩:=aq;split at h
  ·rename_i key b
   cases hk.dstr
   cases hm with
   | mp _ hb =>
   split at h
   ·rename_i cs bn ck d8
    obtain ⟨w1,aj,⟨r1,r2,r3,r4,r5⟩,hc,_⟩:=UA hd cp (key:=key) (hS.box _ _ d8) hx;rcases hc with ⟨cs',q1,q2⟩ | ⟨q1,q2⟩
    ·rw [q1] at h;exact ⟨_,w1,h,aj,Wv hS d8 r1 r2 r3 r4 r5 fun hst=>q2 _ hst⟩
    rw [q1] at h;exact ⟨_,w1,h,aj,Wv hS d8 r1 r2 r3 r4 r5 fun hst=>q2 _ hst⟩
   ·rename_i l d8
    split at h
    ·rename_i x hmv
     obtain ⟨bn,ck,qg,hB⟩:=(hS.box _ _ d8).of_dmap;obtain ⟨w1,aj,⟨r1,r2,r3,r4,r5⟩,hc,_⟩:=UA hd cp (key:=key) hB (Ztb hmv hx);refine ⟨_,w1,h,aj,Wv hS d8 r1 r2 r3 r4 r5 fun hst=>?_⟩;rcases ZcY (k:=key) (y:=x) l with g1 | ⟨g1,g2⟩
     ·rcases hc with ⟨cs',q1,q2⟩ | ⟨q1,q2⟩
      ·rw [g1] at q1;cases q1;exact (q2 _ hst).to_dmap qg
      simp_all
     rcases hc with ⟨cs',q1,q2⟩ | ⟨q1,q2⟩
     ·simp_all
     have:=q2 _ hst;rw [<- g2] at this;exact this.to_dmap qg.more
    simp_all
   ·rename_i el2 l k' v0 d8
    obtain ⟨rfl,h⟩:=h;have qq:=hS.box _ _ d8;obtain ⟨es0,⟨bn,ck,h1,h2,h3,h4⟩,h5,h6,h7⟩:=qq;have hB:BRel G e σ w (.map (VR l (some (key,v0))) bn ck) (e.β b):=⟨es0,h1,h2,h3,h4⟩
    obtain ⟨w1,aj,⟨r1,r2,r3,r4,r5⟩,hc,es,es',ck',q1,q2,q3⟩:=UA hd cp (key:=key) hB hx;rw [h1] at q1
    cases q1
    refine ⟨_,w1,h,aj,Wv hS d8 r1 r2 r3 r4 r5 fun hst=>?_⟩;obtain ⟨bn',ck2,hB'⟩:∃bn' ck2,BRel G e (σ.set b (.smap el2 (Z2 key [] l) (some (key,px)))) w1 (.map (VR (Z2 key [] l) (some (key,px))) bn' ck2) (e.β b):=by
     rcases Zif (k:=key) (v:=px) (v0:=v0) h7 with g1 | ⟨g1,g2⟩
     ·grind
     grind
    obtain ⟨es2,k1,k2,k3,k4⟩:=hB';rw [q2] at k1
    cases k1
    refine ⟨_,⟨bn',_,q2,k2,k3,k4⟩,fun i u x hu bo ai=>?_,fun kv ka hl=>?_,Zfo h7⟩
    ·have jk:x.1≠key:=ai _ rfl;obtain ⟨_,kk,y,g2,_,g4,_⟩:=k4 i u hu;rw [(XP bo).1] at g2
     cases g2
     have qx:=q3 i u hu (by simp_all);exact (h5 i u x qx (ZlF bo jk) fun kv ka=>by grind).keep fun b2 q hq _=>⟨hq,r5 _ fun h=>(hS.hid b2 q hq).2.2.1 b hb h.symm⟩
    cases ka
    rw [J4] at hl;cases hl
   simp_all
  simp_all
 simp_all
theorem Zpj (hT:TabOK T G.P) (hS:SRel G e σ w) {K:PV->St->Prop} {ρ:Operand->PV} {ρ':Operand->Value} (hρ:∀x,VRel G e σ w (ρ x) (ρ' x)) (o:Oper) (h:eop T o.op ρ σ K) :
  ∃pv σ1 v w1 e1,K pv σ1/\Zpi G.P ρ' o w v w1/\Stepped e σ w e1 σ1 w1/\SRel G e1 σ1 w1/\VRel G e1 σ1 w1 pv v:=by
 unfold eop at h
 split at h
 ·rename_i el ho
  split at h
  ·grind
  rename_i hk
  obtain ⟨i,d,z,hi,hd,hs,ec,aq,hz,cx,om,_⟩:=(hT.get (t:=el) (fun h0=>hk h0)).ex;obtain ⟨hz3,y6⟩:=Xv (G:=G) (e:=e) (σ:=σ) (w:=w) cx;obtain ⟨h1,h2,h3⟩:=ZcZ hS el (T.get el).zero z.cells oM (fun i x u hx hu=>y6 i x u hx (by simp_all));refine ⟨_,_,_,_,_,h,.inl ?_,h1,h2,h3⟩;unfold execOp
  simp only [ho,Instr.alloc,zeroValue,Sem.run_bind,Ya hi,Result.andThen,hz,Sem.run_pure];rfl
 ·rename_i el x ho
  split at h
  ·rename_i l hl
   obtain ⟨dv,bw⟩:=WK (hρ x) hl;obtain ⟨h1,h2,h3⟩:=ZcZ hS el l (ρ' x).cells dv bw;exact ⟨_,_,_,_,_,h,.inl (by unfold execOp;simp only [ho];rfl),h1,h2,h3⟩
  simp_all
 ·rename_i t a x ho
  have ha:=hρ a;split at h
  ·rename_i b off bm;rw [bm] at ha
   split at h
   ·rename_i ty cs hb
    split at h
    ·rename_i l hl
     split at h
     ·grind
     ·rename_i h1 h2 hk
      generalize hv:ρ' a=v at ha
      cases ha with
      | ptr b off dc =>
      obtain ⟨w1,aj,hst,fi⟩:=Jq hT hS hb (ZwN (hρ x)) hl (Tu h1) (Tb h2) (fun h0=>hk h0);refine ⟨_,_,Go.undef,w1,e,h,.inr ⟨?_,rfl⟩,hst,fi,.undef _⟩;unfold execOp
      simp_all
     simp_all
    simp_all
   simp_all
  simp_all
 ·rename_i t x ho
  split at h
  ·rename_i hk
   obtain ⟨i,d,z,hi,hd,hs,ec,aq,hz,cx,om,_⟩:=(hT.get (t:=t) (by grind)).ex;rw [hk] at aq;cases aq;split at h
   ·rename_i s bm
    have hx:=hρ x;rw [bm] at hx;have hxv:=hx.dstr;obtain ⟨h1,h2,h3⟩:=WM hS (.iter s 0) (.stringIter ⟨s.toArray⟩ 0) (fun _ _ _ _ hh=>hh);refine ⟨_,_,_,_,_,h,.inl ?_,h1,h2,h3⟩;unfold execOp
    simp only [ho,hxv,Instr.range,Sem.run_bind,Za hd,Result.andThen,Sem.run_pure,run_newObj];rfl
   simp_all
  simp_all
 ·rename_i t ho
  split at h
  ·rename_i kt el hk
   have mk:∀x:Box,(∀e1 σ1 w1,Stepped e σ w e1 σ1 w1->w1.heap[w.heap.size]?=some (.map #[] 0)->BRel G e1 σ1 w1 x w.heap.size)->K (.mp σ.bx.length) (σ.new x) ->
     ∃pv σ1 v w1 e1,K pv σ1/\Zpi G.P ρ' o w v w1/\Stepped e σ w e1 σ1 w1/\SRel G e1 σ1 w1/\VRel G e1 σ1 w1 pv v:=by
    intro x hx h
    obtain ⟨h1,h2,h3⟩:=WM hS x (.map #[] 0) hx;refine ⟨_,_,.map (some w.heap.size),_,_,h,.inl ?_,h1,h2,?_⟩
    ·exact mq134
    have:=VRel.mp (G:=G) (e:=e.more σ.bx.length w.heap.size) (σ:=σ.new x) (w:=w.alloc (.map #[] 0)) σ.bx.length (by rw [ZGy];omega)
    rwa [show (e.more σ.bx.length w.heap.size).β σ.bx.length=w.heap.size by simp [Env.more]] at this
   split at h
   ·exact mk (.map [] [] 0) (fun _ _ _ _ hh=>BRel.ofM hh trivial rfl) h
   ·exact mk (.map [] [] 0) (fun _ _ _ _ hh=>BRel.ofM hh trivial rfl) h
   exact mk _ (fun e1 σ1 w1 _ hh=>(show BRel G e1 σ1 w1 (.map (J1 []) [] 0) w.heap.size from .ofM hh trivial rfl).to_dmap ⟨.nil,fun _ h=>nomatch h⟩) h
  simp_all
 ·exact mq93
 ·exact mq93
 ·rename_i x ho
  have hx:=hρ x;split at h
  ·rename_i b bm;rw [bm] at hx
   split at h
   ·rename_i s pos hb
    generalize hv:ρ' x=v at hx
    cases hx with
    | ptr b off dc =>
    obtain ⟨pv,σ1,v,w1,hK,aj,hst,fi,hr⟩:=Zns hS hb o.type h;refine ⟨pv,σ1,v,w1,e,hK,.inl ?_,hst,fi,hr⟩;unfold execOp
    simp_all
   simp_all
  simp_all
 ·rename_i args argTypes ho
  split at h
  ·rename_i t tx s x hts bh
   have ly:argTypes=#[t,tx]:=by grind
   obtain ⟨q1,q2,ab⟩:∃q1 q2,args.toList=[q1,q2]:=by
    cases hl:args.toList with
    | nil=>simp_all
    | cons a l=>cases l with
     | nil=>simp_all
     | cons b l=>simp_all
   have ha:args=#[q1,q2]:=by grind
   rw [ab] at bh;simp only [Tx,TN,List.cons.injEq,and_true] at bh;obtain ⟨qf,ig⟩:=bh;have o8:=hρ q1;have xg:=hρ q2;rw [qf] at o8;rw [ig] at xg;have sj:∀v' w1,(Builtin.append_ #[t,tx] o.type #[ρ' q1,ρ' q2]).run G.P w=.ok v' w1->Zpi G.P ρ' o w v' w1:=fun v' w1 hr=>.inl (by
    unfold execOp
    simp only [ho,resolve,invoke,builtin,Sem.run_bind,Sem.run_pure,Result.andThen,ha,ly]
    simp_all)
   split at h
   ·rename_i el hk
    split at h
    ·grind
    rename_i cu
    split at h
    ·rename_i more ax hm
     split at h
     ·rename_i el2
      obtain ⟨hw,hb,hl,hK⟩:=h;generalize hv:ρ' q1=v at o8 sj
      cases o8 with
      | nils =>
      obtain ⟨v',w1,e1,aj,hst,fi,hr⟩:=Zfl (ty:=o.type) hT hS hk (fun h0=>cu h0) (Tb ax) (rows:=[]) (.slnil) σ.tk (fun _ h=>h) (.inl ⟨rfl,rfl⟩) hm xg hw (by simp_all) (by simp_all)
      grind
     ·rename_i tok e2 rows
      split at h
      ·rename_i dh sk
       obtain ⟨hw,hb,hl,hK⟩:=h;have:=Tu sk;subst this;have sm:=(Yq _ _).1 dh;generalize hv:ρ' q1=v at o8 sj
       cases o8 with
       | sl tok e2 rows v hn hd ht =>
       obtain ⟨v',w1,e1,aj,hst,fi,hr⟩:=Zfl (ty:=o.type) hT hS hk (fun h0=>cu h0) (Tb ax) hd (Jk tok σ.tk) (fun x hx=>((XO _ _ _).1 hx).1) (.inr ⟨tok,sm,fun h=>((XO _ _ _).1 h).2 rfl,ht sm⟩) hm xg hw hb hl
       grind
      simp_all
     simp_all
    simp_all
   simp_all
  simp_all
 simp_all
end
end Go.PM
end

section
namespace Go.PM
def fw (ro:Option Nat):Fence:={ fn:=fun _=>True,depth:=none,alive:=false,round:=ro }
def XK (P:Program) (g:FuncId):Prop:=∀(args:Array Value) (w:World),(callFunc g args).run P w=.ok (.enter g args) w
def ArgsRel (G:GE) (e:Env) (σ:St) (w:World) (args:List PV) (vs:Array Value):Prop :=
 vs.size=args.length/\∀(i:Nat) (x:PV) (u:Value),args[i]?=some x->vs[i]?=some u->VRel G e σ w x u
def Zpk (G:GE) (e:Env) (σ:St) (w:World):PEnd->Ending->Prop
 | .ret x,en=>∃v,en=.returned v/\VRel G e σ w x v
 | .panic x,en=>∃v,en=.panicked [{ v:=v,recovered:=false }]/\VRel G e σ w x v
def ZAY (G:GE) (e:Env) (σ:St) (w:World) (K:PEnd->St->Prop) (en:Ending) (w':World):Prop :=
 ∃pe σ' e',K pe σ'/\Zpk G e' σ' w' pe en/\SRel G e' σ' w'/\Stepped e σ w e' σ' w'
def YO (G:GE) (e:Env) (σ:St) (w:World) (K:PEnd->St->Prop) (en:Ending) (w':World):Prop :=
 ∃pe σ' e',K pe σ'/\Zpk G e' σ' w' pe en/\SRel G e' σ' w'/\Later e σ w e' σ' w'
def CallSem (G:GE) (cc:FuncId->List PV->St->(PEnd->St->Prop)->Prop):Prop:=∀g args σ K,cc g args σ K ->
 XK G.P g/\∀(ro:Option Nat) (n:Nat) (e:Env) (w:World) (vs:Array Value),SRel G e σ w->ArgsRel G e σ w args vs->CallsIn (fw ro) n G.P g vs w (ZAY G e σ w K)
def RawSem (G:GE) (e0:Env) (σ0:St) (w0:World) (cr:Value->List PV->St->(PEnd->St->Prop)->Prop):Prop:=∀v args σ K,cr v args σ K ->
 ∃l,v=.func (.yield l) #[] #[]/\∀(ro:Option Nat) (n:Nat) (e:Env) (w:World) (vs:Array Value),SRel G e σ w->Later e0 σ0 w0 e σ w->ArgsRel G e σ w args vs ->
  ∃f tmps asg body,(Instr.yield l vs).run G.P w=.ok (.round l f tmps asg body) w/\RoundIn (fw ro) n G.P l f tmps asg body w (YO G e σ w K)
def IterSem (G:GE) (ci:FuncId->List PV->(Value->List PV->St->(PEnd->St->Prop)->Prop)->St->(PEnd->St->Prop)->Prop):Prop:=∀g args raw σ K,ci g args raw σ K ->
 XK G.P g/\∀(n:Nat) (e:Env) (w:World) (vs:Array Value),SRel G e σ w->ArgsRel G e σ w args vs->RawSem G e σ w raw->CallsIn (fw none) n G.P g vs w (YO G e σ w K)
def IterAt (G:GE) (e0:Env) (σ0:St) (w0:World) (ci:FuncId->List PV->(Value->List PV->St->(PEnd->St->Prop)->Prop)->St->(PEnd->St->Prop)->Prop):Prop:=∀g args raw σ K,ci g args raw σ K ->
 XK G.P g/\∀(n:Nat) (e:Env) (w:World) (vs:Array Value),SRel G e σ w->Later e0 σ0 w0 e σ w->ArgsRel G e σ w args vs->RawSem G e σ w raw->CallsIn (fw none) n G.P g vs w (YO G e σ w K)
def IterSem.at' {G:GE} {e0:Env} {σ0:St} {w0:World} {ci:FuncId->List PV->(Value->List PV->St->(PEnd->St->Prop)->Prop)->St->(PEnd->St->Prop)->Prop} (h:IterSem G ci):IterAt G e0 σ0 w0 ci:=fun g args raw σ K hc=>⟨(h g args raw σ K hc).1,fun n e w vs hS _ ha hr=>(h g args raw σ K hc).2 n e w vs hS ha hr⟩
def IterAt.later {G:GE} {e0 e:Env} {σ0 σ:St} {w0 w:World} {ci:FuncId->List PV->(Value->List PV->St->(PEnd->St->Prop)->Prop)->St->(PEnd->St->Prop)->Prop} (h:IterAt G e0 σ0 w0 ci) (hL:Later e0 σ0 w0 e σ w):IterAt G e σ w ci:=fun g args raw σ' K hc=>⟨(h g args raw σ' K hc).1,fun n e' w' vs hS ip ha hr=>(h g args raw σ' K hc).2 n e' w' vs hS (hL.trans ip) ha hr⟩
structure CxOK (G:GE) (C:Cx) (ro:Option Nat) (e0:Env) (σ0:St) (w0:World):Prop where
 tab:TabOK C.T G.P
 call:CallSem G C.call
 raw:RawSem G e0 σ0 w0 C.raw
 iter:IterAt G e0 σ0 w0 C.iter
 out:ro=none\/∀g args raw σ K,¬C.iter g args raw σ K
def RawSem.later {G:GE} {e0 e:Env} {σ0 σ:St} {w0 w:World} {cr:Value->List PV->St->(PEnd->St->Prop)->Prop} (h:RawSem G e0 σ0 w0 cr) (hL:Later e0 σ0 w0 e σ w):RawSem G e σ w cr:=fun v args σ' K hc=>by
 obtain ⟨l,h1,h2⟩:=h v args σ' K hc;exact ⟨l,h1,fun ro n e' w' vs hS ip ha=>h2 ro n e' w' vs hS (hL.trans ip) ha⟩
def CxOK.later {G:GE} {C:Cx} {ro:Option Nat} {e0 e:Env} {σ0 σ:St} {w0 w:World} (h:CxOK G C ro e0 σ0 w0) (hL:Later e0 σ0 w0 e σ w):CxOK G C ro e σ w:=⟨h.tab,h.call,h.raw.later hL,h.iter.later hL,h.out⟩
def CxOK.calm {G:GE} {C:Cx} {ro:Option Nat} {e0:Env} {σ0:St} {w0:World} (h:CxOK G C ro e0 σ0 w0):CxOK G C.calm ro e0 σ0 w0:=⟨h.tab,h.call,fun _ _ _ _ h=>h.elim,fun _ _ _ _ _ h=>h.elim,.inr fun _ _ _ _ _ h=>h⟩
def J5 (r:Nat):Deferred:={ target:=.collected r,args:=#[] }
def Marks (lo:Nat×List Deferred×Bool) (e:Env) (σ:St) (w:World) (l:List Deferred):Prop:=lo.1<=w.heap.size/\∃rs:List Nat,l=rs.map J5++lo.2.1/\(lo.2.2=true->rs=[])/\rs.Nodup/\∀r,r∈rs->lo.1<=r/\w.heap[r]?=some (.deferred (some [])) /\
 (∀i,i<σ.bx.length->e.β i≠r)/\(∀t,t∈σ.tk->∀p,e.M t=some p->p.1≠r)/\e.H r=none
def Marks.nil {lo:Nat} {fl:Bool} (e:Env) (σ:St) {w:World} (h:lo<=w.heap.size):Marks (lo,[],fl) e σ w []:=⟨h,[],rfl,fun _=>rfl,List.nodup_nil,fun r h=>(by cases h)⟩
theorem Marks.later {lo:Nat×List Deferred×Bool} {e e':Env} {σ σ':St} {w w':World} {l:List Deferred} (h:Marks lo e σ w l) (hL:Later e σ w e' σ' w'):Marks lo e' σ' w' l:=by
 obtain ⟨h0,rs,h1,dz,h2,h3⟩:=h;refine ⟨TP h0 hL.size,rs,h1,dz,h2,fun r hr=>?_⟩;obtain ⟨g1,g2,g3,g4,g5⟩:=h3 r hr;have aa:=(Tv.1 g2).1;refine ⟨g1,(hL.blocks r aa g3 g4 g5).trans g2,fun i hi=>?_,fun t ht p hp=>?_,?_⟩
 ·by_cases h:i<σ.bx.length
  ·rw [hL.beta i h];grind
  have:=hL.fresh i oM hi;omega
 ·rcases hL.ftok t ht p hp with h | ⟨t0,h0,p0,w5,h⟩ | h
  ·omega
  ·grind
  grind
 cases hq:e'.H r with
 | none=>rfl
 | some q =>
 rcases hL.fhid r (by grind) with h | ⟨t0,h0,p0,w5,h⟩ | h
 ·omega
 ·grind
 simp_all
theorem UB {n:Nat}:∀{l:List PV},ZsX n l=true->∀(i:Nat) (x:PV),l[i]?=some x->bnd n x=true
 | [],_,i,x,hx=>by simp at hx
 | y::l,h,i,x,hx=>by
  simp only [ZsX,Tl] at h
  cases i with
  | zero=>simp_all
  | succ i=>exact UB h.2 i x (by simp_all)
theorem Zpl {n:Nat}:∀{l:List PV},(∀(i:Nat) (x:PV),l[i]?=some x->bnd n x=true)->ZsX n l=true
 | [],_=>rfl
 | y::l,h=>by
  simp only [ZsX,Tl];exact ⟨h 0 y sM,Zpl fun i x hx=>h (i+1) x (by simp_all)⟩
theorem XU:∀{l:List PV} (i:Nat) (y:PV),(Xu l)[i]?=some y->∃x,l[i]?=some x/\y=clean x
 | [],i,y,h=>by trivial
 | x::l,i,y,h=>by
  cases i with
  | zero=>simp [Xu] at h;simp_all
  | succ i=>simp only [Xu,TZ] at h;obtain ⟨z,h1,h2⟩:=XU i y h;simp_all
def YK:∀{l:List PV},(Xu l).length=l.length
 | []=>rfl
 | x::l=>by simp [Xu,YK]
section
variable {G:GE} {e e':Env} {σ σ':St} {w w':World}
theorem VRel.bnd {x:PV} {v:Value} (h:VRel G e σ w x v):bnd σ.bx.length x=true:=by
 have get:∀{l:List PV} {va:Array Value},va.size=l.length->(∀(i:Nat) (x:PV) (u:Value),l[i]?=some x->va[i]?=some u->PM.bnd σ.bx.length x=true)->ZsX σ.bx.length l=true:=fun {l va} hs h=>Zpl fun i x hx=>by
  have hi:=(To.1 hx).1;exact h i x va[i] hx (TL oM)
 induction h with
 | ptr b off h=>simp only [PM.bnd,Nat.ble_eq];omega
 | mp b h=>simp only [PM.bnd,Nat.ble_eq];omega
 | asl b off n h=>simp only [PM.bnd,Nat.ble_eq];omega
 | func f a c va vc ha hc _ _ ih1 ih2=>simp only [PM.bnd,Tl];grind
 | iface t x v _ ih=>exact ih
 | agg cs vs hs _ _ ih=>exact get hs ih
 | tuple cs vs hs _ ih=>exact get hs ih
 | _=>rfl
def VRel.clean {n:Nat} (hn:n<=σ'.bx.length) (hβ:∀i,i<n->e'.β i=e.β i)
  (hp:∀b off u,w.cell? ⟨b,off,none⟩=some u->okc e σ b off->okc e' σ' b off/\w'.cell? ⟨b,off,none⟩=some u) {x:PV} {v:Value} (h:VRel G e σ w x v) (hb:PM.bnd n x=true):VRel G e' σ' w' (clean x) v:=by
 induction h with
 | d x v h=>exact .d _ _ (h.mono hp)
 | undef v=>exact .undef _
 | ptr b off h =>
  simp only [PM.bnd,Nat.ble_eq] at hb;rw [<- hβ b oM];exact .ptr b off oM
 | asl b off m h =>
  simp only [PM.bnd,Nat.ble_eq] at hb;rw [<- hβ b oM];exact .asl b off m oM
 | mp b h =>
  simp only [PM.bnd,Nat.ble_eq] at hb;rw [<- hβ b oM];exact .mp b oM
 | nilm=>exact .nilm
 | elem r off b o u hc ho hu=>exact .elem r off b o u (fun j hj=>(hp b _ _ (hc j hj) (ho j hj)).2) (fun j hj=>(hp b _ _ (hc j hj) (ho j hj)).1) (fun j x hx=>(hu j x hx).mono hp)
 | sl t el rows v hn hd ht=>exact .d _ _ (hd.mono hp)
 | nils el=>exact .d _ _ .slnil
 | func f a c va vc ha hc _ _ ih1 ih2 =>
  simp only [PM.bnd,Tl] at hb;refine .func f _ _ va vc (by rw [YK];exact ha) (by rw [YK];exact hc) (fun i y u hy hu=>?_) (fun i y u hy hu=>?_)
  ·obtain ⟨x,hx,rfl⟩:=XU i y hy;exact ih1 i x u hx hu (UB hb.1 i x hx)
  obtain ⟨x,hx,rfl⟩:=XU i y hy;exact ih2 i x u hx hu (UB hb.2 i x hx)
 | iface t x v _ ih=>exact .iface t _ v (ih hb)
 | agg cs vs hs _ h1 ih=>exact .agg _ vs (by rw [YK];exact hs) (fun i y u hy hu=>by obtain ⟨x,hx,rfl⟩:=XU i y hy;exact ih i x u hx hu (UB hb i x hx)) h1
 | tuple cs vs hs _ ih=>exact .tuple _ vs (by rw [YK];exact hs) (fun i y u hy hu=>by obtain ⟨x,hx,rfl⟩:=XU i y hy;exact ih i x u hx hu (UB hb i x hx))
 | raw v=>exact .raw _
def U8:∀{l:List PV},(cleanNL l).length=l.length
 | []=>rfl
 | x::l=>by simp [PM.cleanNL,U8]
theorem Zc3:∀{l:List PV} (i:Nat) (y:PV),(cleanNL l)[i]?=some y->∃x,l[i]?=some x/\y=PM.cleanN x
 | [],i,y,h=>by trivial
 | x::l,i,y,h=>by
  cases i with
  | zero=>simp [PM.cleanNL] at h;simp_all
  | succ i=>simp only [PM.cleanNL,TZ] at h;obtain ⟨z,h1,h2⟩:=Zc3 i y h;simp_all
def VRel.cleanN {n:Nat} (hn:n<=σ'.bx.length) (hβ:∀i,i<n->e'.β i=e.β i)
  (hp:∀b off u,w.cell? ⟨b,off,none⟩=some u->okc e σ b off->okc e' σ' b off/\w'.cell? ⟨b,off,none⟩=some u) {x:PV} {v:Value} (h:VRel G e σ w x v) (hb:PM.bnd n x=true):VRel G e' σ' w' (cleanN x) v:=by
 induction h with
 | d x v h=>exact .d _ _ (h.mono hp)
 | undef v=>exact .undef _
 | ptr b off h =>
  simp only [PM.bnd,Nat.ble_eq] at hb;rw [<- hβ b oM];exact .ptr b off oM
 | asl b off m h =>
  simp only [PM.bnd,Nat.ble_eq] at hb;rw [<- hβ b oM];exact .asl b off m oM
 | mp b h =>
  simp only [PM.bnd,Nat.ble_eq] at hb;rw [<- hβ b oM];exact .mp b oM
 | nilm=>exact .nilm
 | elem r off b o u hc ho hu=>exact .elem r off b o u (fun j hj=>(hp b _ _ (hc j hj) (ho j hj)).2) (fun j hj=>(hp b _ _ (hc j hj) (ho j hj)).1) (fun j x hx=>(hu j x hx).mono hp)
 | sl t el rows v hn hd ht=>exact .d _ _ (hd.mono hp)
 | nils el=>exact .nils el
 | func f a c va vc ha hc h1 h2 ih1 ih2=>exact VRel.clean hn hβ hp (.func f a c va vc ha hc h1 h2) hb
 | iface t x v h ih=>exact VRel.clean hn hβ hp (.iface t x v h) hb
 | agg cs vs hs _ h1 ih=>exact .agg _ vs (by rw [U8];exact hs) (fun i y u hy hu=>by obtain ⟨x,hx,rfl⟩:=Zc3 i y hy;exact ih i x u hx hu (UB hb i x hx)) h1
 | tuple cs vs hs h ih=>exact VRel.clean hn hβ hp (.tuple cs vs hs h) hb
 | raw v=>exact .raw _
end
def FRel.clean {G:GE} {e e':Env} {σ σ':St} {w w':World} {f:Frame} {tm:Array Value} (hF:FRel G e σ w f tm) (hL:Later e σ w e' σ' w'):FRel G e' σ' w' (VB f) tm :=
 fun i=>VRel.clean hL.len hL.beta hL.pres (hF i) (hF i).bnd
def ZAZ (G:GE) (e:Env) (σ:St) (w:World):PExit->Exit->Prop
 | .normal,x=>x=.normal
 | .exit id,x=>x=.exit id
 | .goto l,x=>x=.goto l
 | .ret,x=>x=.ret
 | .panic p,x=>∃v,x=.panic [{ v:=v,recovered:=false }]/\VRel G e σ w p v
def ZM (G:GE) (e0:Env) (σ0:St) (w0:World) (ds:Nat×List Deferred×Bool) (n:Nat) (Z:Array Value->Prop) (Q:PQ):Exit->Act->World->Prop:=fun x a w =>
 ∃pe f e σ,Q pe f σ/\ZAZ G e σ w pe x/\SRel G e σ w/\FRel G e σ w f a.tmps/\Later e0 σ0 w0 e σ w/\a.tmps.size=n/\Marks ds e σ w a.defers/\Z a.tmps
def KRel (G:GE) (e0:Env) (σ0:St) (w0:World) (ds:Nat×List Deferred×Bool) (n:Nat) (Z:Array Value->Prop) (K:Frame->St->Prop):Act->World->Prop:=fun a w =>
 ∃f e σ,K f σ/\SRel G e σ w/\FRel G e σ w f a.tmps/\Later e0 σ0 w0 e σ w/\a.tmps.size=n/\Marks ds e σ w a.defers/\Z a.tmps
def X1:∀(n:Nat) (K:Nat->Prop),Yj n K=K n
 | 0,K=>rfl
 | n+1,K=>by simp only [Yj,X1 n]
def Zpm (v:PV) (K:PV->Prop):Zo0 v K=K v:=by cases v <;> simp only [Zo0,X1]
def ZaV:∀(l:List PV) (K:List PV->Prop),Vc l K=K l
 | [],_=>rfl
 | v::l,K=>by simp only [Vc,Zpm,ZaV l]
def Zig (v:PV) (K:PV->Prop):ZlA v K=K v:=by cases v <;> simp only [ZlA,X1,ZaV]
def Zfp:∀(l:List PV) (K:List PV->Prop),Zgl l K=K l
 | [],_=>rfl
 | v::l,K=>by simp only [Zgl,Zig,Zfp l]
def Z5 (v:PV) (K:PV->Prop):UU v K=K v:=by cases v <;> simp only [UU,X1,ZaV,Zig,Zfp]
def Zc4:∀(l:List PV) (K:List PV->Prop),Zh5 l K=K l
 | [],_=>rfl
 | v::l,K=>by simp only [Zh5,Z5,Zc4 l]
def WN:∀(l:List Nat) (K:List Nat->Prop),ZcV l K=K l
 | [],_=>rfl
 | t::l,K=>by simp only [ZcV,X1,WN l]
def Xx:∀(l:List Box) (K:List Box->Prop),XJ l K=K l
 | [],_=>rfl
 | .cells t cs::l,K=>by simp only [XJ,Zc4,Xx l]
 | .iter s p::l,K=>by simp only [XJ,Xx l]
 | .loop st pd r::l,K=>by simp only [XJ,Xx l]
 | .dmap m::l,K=>by simp only [XJ,Xx l]
 | .smap el m none::l,K=>by simp only [XJ,Xx l]
 | .smap el m (some (k,v))::l,K=>by simp only [XJ,Z5,Xx l]
 | .map cs bn ck::l,K=>by simp only [XJ,Zc4,WN,X1,Xx l]
def ZU (σ:St) (K:St->Prop):Xl σ K=K σ:=by simp only [Xl,Xx,WN,X1]
def ZZ (f:Frame) (d:Option Nat) (v:PV) (K:Frame->Prop):ZjM f d v K=K (Yk f d v):=by
 cases d with
 | none=>rfl
 | some i=>simp only [ZjM,Z5];rfl
def VW {f:Frame} {s:Nat} {v:PV} (h:f s=v):Va f s v=f:=by
 funext j
 by_cases hj:s=j
 ·subst hj;rw [Yw,h]
 rw [Y9 f v hj]
def Yr (a:Act) (d:Option Nat) (v:Value):(a.put d v).tmps.size=a.tmps.size:=by cases d <;> simp [Act.put]
def Zgr {N:Nat} {Z:Array Value->Prop} {a:Act} {d:Option Nat} {v:Value} (hd:∀i,d=some i->i<N/\∀t v,Z t->Z (t.setIfInBounds i v)) (hZ:Z a.tmps):Z (a.put d v).tmps:=by
 cases d with
 | none=>exact hZ
 | some i=>exact (hd i rfl).2 _ _ hZ
def Y4 (a:Act) (d:Option Nat) (v:Value):(a.put d v).defers=a.defers:=by cases d <;> rfl
section
variable {G:GE} {C:Cx} {e0 e:Env} {σ0 σ:St} {w0 w:World} {a:Act} {f:Frame} {Q:PQ} {K:Frame->St->Prop} {ro:Option Nat} {n:Nat} {ds:Nat×List Deferred×Bool} {N:Nat} {Z:Array Value->Prop}
theorem KRel.put {e1:Env} {σ1:St} {w1:World} {o:Oper} {pv:PV} {v:Value} (hF:FRel G e σ w f a.tmps) (hL:Later e0 σ0 w0 e σ w) (hN:a.tmps.size=N) (ba:Marks ds e σ w a.defers) (hZ:Z a.tmps) (hd:∀d,o.dst=some d->d<N/\∀t v,Z t->Z (t.setIfInBounds d v))
  (hK:ZjM f o.dst pv fun f=>K f σ1) (hst:Stepped e σ w e1 σ1 w1) (fi:SRel G e1 σ1 w1) (hr:VRel G e1 σ1 w1 pv v):KRel G e0 σ0 w0 ds N Z K (a.put o.dst v) w1:=by
 rw [ZZ] at hK;exact ⟨_,e1,σ1,hK,fi,(hF.step hst).put hr (by simp_all),hL.trans hst.toLater,by rw [Yr];exact hN,by rw [Y4];exact ba.later hst.toLater,Zgr hd hZ⟩
theorem Zgs {args:Array Operand} (hρ:∀x,VRel G e σ w (ev f x) (a.eval x)):ArgsRel G e σ w (args.toList.map (ev f)) (args.map a.eval):=by
 refine ⟨sM,fun i x u hx hu=>?_⟩
 grind
def ArgsRel.append {x y:List PV} {vx vy:Array Value} (h1:ArgsRel G e σ w x vx) (h2:ArgsRel G e σ w y vy):ArgsRel G e σ w (x++y) (vx++vy):=by
 refine ⟨by rw [Array.size_append,Tc,h1.1,h2.1],fun i p u hp hu=>?_⟩
 by_cases hi:i<x.length
 ·rw [T4 hi] at hp;rw [Array.getElem?_append_left (by rw [h1.1];exact hi)] at hu;exact h1.2 i p u hp hu
 rw [Se oM] at hp;rw [Array.getElem?_append_right (by rw [h1.1];omega),h1.1] at hu;exact h2.2 _ p u hp hu
def ZlG {G:GE} {C:Cx} {e e':Env} {σ σ':St} {w w':World} {f:Frame} {tm:Array Value} (hF:FRel G e σ w f tm) (hL:Later e σ w e' σ' w'):FRel G e' σ' w' (C.pf f) tm:=by
 unfold Cx.pf
 split
 ·exact hF.clean hL
 exact fun i=>.undef _
theorem Js (hC:CxOK G C ro e0 σ0 w0) (hS:SRel G e σ w) (hF:FRel G e σ w f a.tmps) (hL:Later e0 σ0 w0 e σ w) (hN:a.tmps.size=N) (ba:Marks ds e σ w a.defers) (hZ:Z a.tmps) {o:Oper} (hd:∀d,o.dst=some d->d<N/\∀t v,Z t->Z (t.setIfInBounds d v))
  (h:XX C o f σ Q K):o.wpIn (fw ro) n G.P a w (KRel G e0 σ0 w0 ds N Z K) (ZM G e0 σ0 w0 ds N Z Q):=by
 have hρ:∀x,VRel G e σ w (ev f x) (a.eval x):=fun x=>ZbC hF x
 refine ⟨fun _ _=>trivial,?_⟩;unfold XX at h
 simp only [ZU,Z5] at h;split at h
 ·rename_i hE
  have i6:∀c,o.op≠.defer c:=fun c hc=>by rw [hc] at h;exact h
  rw [show (fw ro).round=ro from rfl,Oper.semAt_eq _ _ _ i6];obtain ⟨pv,v,w1,hK,hg,hr,aj⟩:=Znu hC.tab hS hρ o h;rw [aj];exact KRel.put hF hL hN ba hZ hd hK (hg.stepped e σ) (hS.grow hg) hr
 rename_i hE
 have i6:∀c,o.op≠.defer c:=fun c hc=>by rw [hc] at hE;cases hE
 rw [show (fw ro).round=ro from rfl,Oper.semAt_eq _ _ _ i6];split at h
 ·rename_i x args at' ho
  have hx:=hρ x;have js:∀(next:World->Ending->World->Prop),True:=fun _=>trivial
  unfold Zfc at h
  split at h
  ·rename_i g first caps bm
   rw [bm] at hx;generalize hv:a.eval x=v at hx
   cases hx with
   | func g first caps va vc ha hc h1 h2 =>
   have ab:ArgsRel G e σ w (first++args.toList.map (ev f)++caps) (va++args.map a.eval++vc):=(ArgsRel.append (ArgsRel.append ⟨ha,h1⟩ (Zgs hρ)) ⟨hc,h2⟩)
   split at h
   ·obtain ⟨ga,iq⟩:=hC.call _ _ _ _ h;have aj:(execOp a.eval o).run G.P w=.ok (.enter g (va++args.map a.eval++vc)) w:=by
     exact mq128
    rw [aj,Oper.uponIn_enter];refine ⟨fun h=>by trivial,(iq ro (n - 1) e w _ hS ab).mono fun en w' hA=>?_⟩;obtain ⟨pe,σ',e',hK,xj,hS',hst⟩:=hA
    cases pe with
    | ret pv =>
     obtain ⟨u,rfl,hr⟩:=xj;exact KRel.put hF hL hN ba hZ hd hK hst hS' hr
    | panic pv =>
    obtain ⟨u,rfl,hr⟩:=xj;exact ⟨.panic pv,_,e',σ',hK,⟨u,rfl,hr⟩,hS',ZlG hF hst.toLater,hL.trans hst.toLater,hN,ba.later hst.toLater,hZ⟩
   obtain ⟨ga,iq⟩:=hC.iter _ _ _ _ _ h;have ul:ro=none:=hC.out.elim id fun hh=>(hh _ _ _ _ _ h).elim
   subst ul;have aj:(execOp a.eval o).run G.P w=.ok (.enter g (va++args.map a.eval++vc)) w:=by
    exact mq128
   rw [aj,Oper.uponIn_enter];refine ⟨fun h=>by trivial,(iq (n - 1) e w _ hS hL ab (hC.raw.later hL)).mono fun en w' hA=>?_⟩;exact mq44
  ·rename_i v bm
   rw [bm] at hx;generalize hv:a.eval x=v' at hx
   cases hx with
   | raw v =>
   obtain ⟨l,rfl,ia⟩:=hC.raw _ _ _ _ h;obtain ⟨fn,tmps,asg,body,hy,ma⟩:=ia ro (n - 1) e w _ hS hL (Zgs hρ);have aj:(execOp a.eval o).run G.P w=.ok (.round l fn tmps asg body) w:=by
    unfold execOp
    simp only [ho,resolve,hv,Deferred.ofValue,Sem.run_bind,Sem.run_pure,Result.andThen,invoke,Array.empty_append,hy]
   rw [aj,Oper.uponIn_round];refine ⟨fun h=>by trivial,ma.mono fun en w' hA=>?_⟩;exact mq44
  simp_all
 ·rename_i x ho
  have hx:=hρ x;split at h
  ·rename_i t pv bm
   rw [bm] at hx;generalize hv:a.eval x=v at hx
   cases hx with
   | iface _ _ u hu =>
   have aj:(execOp a.eval o).run G.P w=.halt (.panic (.iface t u)) w:=by
    unfold execOp
    simp only [ho,hv,Instr.panic];rfl
   rw [aj];exact ⟨.panic (.iface t pv),_,e,σ,h,⟨.iface t u,rfl,.iface t pv u hu⟩,hS,ZlG hF (Later.refl _ _ _),hL,hN,ba,hZ⟩
  simp_all
 obtain ⟨pv,σ1,v,w1,e1,hK,um,hst,fi,hr⟩:=Zpj hC.tab hS hρ o h;rcases um with aj | ⟨aj,rfl⟩
 ·rw [aj];exact KRel.put hF hL hN ba hZ hd hK hst fi hr
 rw [aj];exact KRel.put hF hL hN ba hZ hd hK hst fi hr
theorem Vh (hC:CxOK G C ro e0 σ0 w0) (hS:SRel G e σ w) (hF:FRel G e σ w f a.tmps) (hL:Later e0 σ0 w0 e σ w) (hN:a.tmps.size=N) (ba:Marks ds e σ w a.defers) (hZ:Z a.tmps) {ops:Array Oper} {o:Oper} (hd:∀d,o.dst=some d->d<N/\∀t v,Z t->Z (t.setIfInBounds d v))
  (h:VJ C ops.toList Q o f σ K) :
  if Region.wanted o (yielded ops a.tmps)=true then o.wpIn (fw ro) n G.P a w (KRel G e0 σ0 w0 ds N Z K) (ZM G e0 σ0 w0 ds N Z Q)
  else KRel G e0 σ0 w0 ds N Z K (a.put o.dst Go.undef) w:=by
 unfold VJ at h
 split at h
 ·rename_i hg
  have:Region.wanted o (yielded ops a.tmps)=true:=by simp [Region.wanted,hg]
  rw [Ti this];exact Js hC hS hF hL hN ba hZ hd h
 rename_i j want hg
 split at h
 ·rename_i s hs
  have sn:(ops[j]?).bind (·.dst)=some s:=by
   unfold WH at hs
   grind
  have za:=hF s;split at h
  ·rename_i t ov
   rw [ov] at za;have hv:=za.dbool;have hy:yielded ops a.tmps j=some t:=by
    unfold yielded
    rw [sn];have:a.tmps[s]?=some (.bool t):=by
     rw [Array.getD_eq_getD_getElem?] at hv
     cases h2:a.tmps[s]? with
     | none=>rw [h2] at hv;cases hv
     | some u=>simp_all
    grind
   have o9:Region.wanted o (yielded ops a.tmps)=(t == want):=by simp [Region.wanted,hg,hy]
   rw [o9]
   cases t <;> cases want <;> simp only [CondP] at h
   ·rw [VW ov] at h;simp only [beq_self_eq_true,if_true];exact Js hC hS hF hL hN ba hZ hd h
   ·rw [VW ov] at h;rw [Te dM];exact KRel.put hF hL hN ba hZ hd h (.refl _ _ _) hS (.raw _)
   ·rw [VW ov] at h;rw [Te dM];exact KRel.put hF hL hN ba hZ hd h (.refl _ _ _) hS (.raw _)
   rw [VW ov] at h;simp only [beq_self_eq_true,if_true];exact Js hC hS hF hL hN ba hZ hd h
  ·rename_i vs ov
   rw [ov] at za;generalize hv:a.tmps.getD s Go.undef=v at za
   cases za
   have hy:yielded ops a.tmps j=none:=by
    unfold yielded
    rw [sn];rw [Array.getD_eq_getD_getElem?] at hv
    grind
   have o9:Region.wanted o (yielded ops a.tmps)=false:=by simp [Region.wanted,hg,hy]
   rw [o9,Te sM];exact KRel.put hF hL hN ba hZ hd h (.refl _ _ _) hS (.raw _)
  simp_all
 simp_all
theorem ZbE (hC:CxOK G C ro e0 σ0 w0) (hS:SRel G e σ w) (hF:FRel G e σ w f a.tmps) (hL:Later e0 σ0 w0 e σ w) (hN:a.tmps.size=N) (ba:Marks ds e σ w a.defers) (hZ:Z a.tmps) {ops:Array Oper} {o:Oper} (hd:∀d,o.dst=some d->d<N/\∀t v,Z t->Z (t.setIfInBounds d v))
  (h:ZlC C ops.toList Q o f σ K) :
  if Region.wanted o (yielded ops a.tmps)=true then o.wpIn (fw ro) n G.P a w (KRel G e0 σ0 w0 ds N Z K) (ZM G e0 σ0 w0 ds N Z Q)
  else KRel G e0 σ0 w0 ds N Z K (a.put o.dst Go.undef) w:=by
 unfold ZlC at h
 split at h
 ·rename_i hb
  have hg:o.guard=none:=by
   unfold ZlB at hb
   grind
  have:Region.wanted o (yielded ops a.tmps)=true:=by simp [Region.wanted,hg]
  rw [Ti this];simp only [ZU] at h;have i6:∀c,o.op≠.defer c:=fun c hc=>by rw [hc] at h;exact h
  refine ⟨fun _ _=>trivial,?_⟩;rw [show (fw ro).round=ro from rfl,Oper.semAt_eq _ _ _ i6];obtain ⟨pv,σ1,v,w1,e1,hK,aj,hst,fi,hr⟩:=Znt hC.tab hS (fun x=>ZbC hF x) o h;rw [aj];exact KRel.put hF hL hN ba hZ hd hK hst fi hr
 exact Vh hC hS hF hL hN ba hZ hd h
theorem Zfq (hC:CxOK G C ro e0 σ0 w0) {ops:Array Oper} (hd:∀o,o∈ops->∀d,o.dst=some d->d<N/\∀t v,Z t->Z (t.setIfInBounds d v)):∀(l:List Oper) (k:Nat),(∀j,l[j]?=ops[k+j]?)->∀{e:Env} {σ:St} {w:World} {a:Act} {f:Frame},
  SRel G e σ w->FRel G e σ w f a.tmps->Later e0 σ0 w0 e σ w->a.tmps.size=N->Marks ds e σ w a.defers->Z a.tmps->ZsY C ops.toList Q l f σ ->
  wpOpsIn (fw ro) n G.P ops (ZM G e0 σ0 w0 ds N Z Q) (List.range' k l.length) a w
 | [],k,_,e,σ,w,a,f,hS,hF,hL,hN,ba,hZ,h=>⟨.normal,f,e,σ,h,rfl,hS,hF,hL,hN,ba,hZ⟩
 | o::l,k,hl,e,σ,w,a,f,hS,hF,hL,hN,ba,hZ,h=>by
  have h0:ops[k]?=some o:=by simpa using (hl 0).symm
  have bc:=ZbE (ro:=ro) (n:=n) hC hS hF hL hN ba hZ (ops:=ops) (hd o (Sc h0)) h;have next:∀a' w',KRel G e0 σ0 w0 ds N Z (ZsY C ops.toList Q l) a' w'->wpOpsIn (fw ro) n G.P ops (ZM G e0 σ0 w0 ds N Z Q) (List.range' (k+1) l.length) a' w':=fun a' w' ⟨f',e',σ',h1,h2,h3,h4,h5,h6,h7⟩ =>
   Zfq hC hd l (k+1) (fun j=>by have:=hl (j+1);grind) h2 h3 h4 h5 h6 h7 h1
  rw [Tf,List.range'_succ];simp only [wpOpsIn,h0];split at bc
  ·rename_i hw
   rw [Ti hw];exact Oper.wpIn_mono next bc
  rename_i hw
  rw [Te hw];exact ⟨fun _ _=>trivial,next _ _ bc⟩
end
end Go.PM
end

section
namespace Go.PM
def Zcm {k:IntKind} {n:Int} {K:PV->Prop} (h:ZcS k n K):∃v,K v/\∀K':PV->Prop,K' v->ZcS k n K':=by
 rcases h with ⟨h1,h2⟩ | h
 ·exact ⟨_,h2,fun K' h'=>.inl ⟨h1,h'⟩⟩
 exact ⟨_,h,fun K' h'=>.inr h'⟩
def ZwO {op:BinOp} {k:IntKind} {a b:Int} {K:PV->Prop} (h:ZAH op k a b K):∃v,K v/\∀K':PV->Prop,K' v->ZAH op k a b K':=by
 cases op <;> simp only [ZAH] at h <;> first
  | exact h.elim
  | exact Zcm h
  | exact ⟨_,h,fun K' h'=>h'⟩
  | (obtain ⟨v,h1,h2⟩:=Zcm h.2;exact ⟨v,h1,fun K' h'=>⟨h.1,h2 K' h'⟩⟩)
  | exact ⟨_,h.2,fun K' h'=>⟨h.1,h'⟩⟩
theorem Vi {T:Tab}:∀{fs:List (Nat×Nat)} {i:Nat} {xs ys:List PV} {K:Bool->Prop},YI T i fs xs ys K->∃v,K v/\∀K':Bool->Prop,K' v->YI T i fs xs ys K'
 | [],i,xs,ys,K,h=>by cases xs <;> cases ys <;> first | exact ⟨_,h,fun K' h'=>h'⟩ | exact h.elim
 | (o,t)::fs,i,[],ys,K,h=>h.elim
 | (o,t)::fs,i,x::xs,[],K,h=>h.elim
 | (o,t)::fs,i,x::xs,y::ys,K,h=>by
  simp only [YI] at h;split at h
  ·rename_i h1 h2
   split at h
   ·rename_i h3
    obtain ⟨v,g1,g2⟩:=Vi h;exact ⟨_,g1,fun K' h'=>by simp only [YI,h1,h2,h3];simp_all⟩
   simp_all
  ·exact mq131
  ·exact mq131
  simp_all
theorem ZA0 {T:Tab} {t:TypeId} {x y:Operand} {px py:PV} {K:Bool->Prop} (h:peq T t x y px py K):∃v,K v/\∀K':Bool->Prop,K' v->peq T t x y px py K':=by
 unfold peq at h
 split at h
 case h_7 =>
  rename_i hk
  split at h
  ·rename_i he
   split at h
   ·obtain ⟨v,g1,g2⟩:=Vi h;exact ⟨v,g1,fun K' h'=>by simp only [peq,hk,he];simp_all⟩
   simp_all
  simp_all
 all_goals (repeat' split at h) <;> first
  | exact h.elim
  | exact ⟨_,h,fun K' h'=>by simp only [peq, *];exact h'⟩
  | exact ⟨_,h,fun K' h'=>by simp only [peq, *]⟩
theorem ZwP {T:Tab} {op:BinOp} {t:TypeId} {x y:Operand} {px py:PV} {K:PV->Prop} (h:ZvQ T op t x y px py K):∃v,K v/\∀K':PV->Prop,K' v->ZvQ T op t x y px py K':=by
 unfold ZvQ at h
 split at h
 ·split at h
  ·obtain ⟨v,h1,h2⟩:=Zcm h.2;exact ⟨_,h1,fun K' h'=>⟨h.1,h2 K' h'⟩⟩
  ·exact ⟨_,h.2,fun K' h'=>⟨h.1,h'⟩⟩
  rename_i h1 h2
  split at h
  ·rename_i hk
   obtain ⟨v,g1,g2⟩:=ZwO h;refine ⟨v,g1,fun K' h'=>?_⟩
   cases op <;> first
    | exact absurd rfl h1
    | exact absurd rfl h2
    | (simp only [ZvQ,hk];simp_all)
  simp_all
 ·cases op <;> simp only at h <;> first
   | exact h.elim
   | exact ⟨_,h,fun K' h'=>h'⟩
   | exact ⟨_,h.2,fun K' h'=>⟨h.1,h'⟩⟩
 rename_i h1 h2
 cases op <;> simp only at h <;> first
  | exact h.elim
  | (obtain ⟨v, g1, g2⟩ := ZA0 h
     refine ⟨_,g1,fun K' h'=>?_⟩;unfold ZvQ
     simp_all)
theorem Zc5 {lo hi:Option PV} {n:Nat} {K:Nat->Nat->Prop} (h:Vd lo hi n K):∃a b,K a b/\∀K':Nat->Nat->Prop,K' a b->Vd lo hi n K':=by
 unfold Vd at h
 split at h
 ·exact ⟨_,_,h,fun K' h'=>h'⟩
 ·split at h
  ·exact ⟨_,_,h.2.2,fun K' h'=>⟨h.1,h.2.1,h'⟩⟩
  simp_all
 ·split at h
  ·exact ⟨_,_,h.2.2,fun K' h'=>⟨h.1,h.2.1,h'⟩⟩
  simp_all
 split at h
 ·exact ⟨_,_,h.2.2.2,fun K' h'=>⟨h.1,h.2.1,h.2.2.1,h'⟩⟩
 simp_all
theorem Zgt {T:Tab} {t:TypeId} {x:PV} {bx:List Box} {K:PV->Prop} (h:ZaS T t x bx K):∃v,K v/\∀K':PV->Prop,K' v->ZaS T t x bx K':=by
 unfold ZaS at h
 (repeat' split at h) <;> first
  | exact h.elim
  | exact ⟨_,h,fun K' h'=>by simp only [ZaS, *];exact h'⟩
  | exact ⟨_,h,fun K' h'=>by simp_all [ZaS]⟩
theorem Znv {T:Tab} {t:TypeId} {m k:PV} {ok:Bool} {bx:List Box} {K:PV->Prop} (h:YD T t m k ok bx K):∃v,K v/\∀K':PV->Prop,K' v->YD T t m k ok bx K':=by
 unfold YD at h
 split at h
 ·rename_i kt el hk
  split at h
  ·grind
  rename_i ho
  have lift:∀{X:Prop},X->(match (generalizing:=false) (T.get el).kind with | .other=>False | _=>X):=fun {X} x=>by
   simp_all
  split at h
  ·split at h
   ·rename_i hz
    split at h
    ·exact ⟨_,h,fun K' h'=>by simp only [YD,hk,hz];exact h'⟩
    ·split at h
     ·rename_i hb
      split at h
      ·rename_i hf;exact ⟨_,h,fun K' h'=>by simp only [YD,hk,hz,hb,hf];exact h'⟩
      rename_i hf;exact ⟨_,h,fun K' h'=>by simp only [YD,hk,hz,hb,hf];exact h'⟩
     ·rename_i hb
      exact mq95
     ·rename_i hb
      split at h
      ·exact mq95
      split at h
      ·obtain ⟨rfl,h⟩:=h;exact ⟨_,h,fun K' h'=>by simp only [YD,hk,hz,hb];simp_all⟩
      simp_all
     simp_all
    simp_all
   simp_all
  simp_all
 simp_all
theorem Ztc {m m':List (List UInt8×List (List D))} {fo fo':Option (List UInt8×PV)} (h:ZDC m fo=ZDC m' fo'):m=m'/\fo=fo':=by
 unfold ZDC at h
 obtain ⟨h1,h2⟩:=List.cons.inj h;refine ⟨List.map_inj_right (fun x y hxy=>?_) |>.1 h2,?_⟩
 ·grind
 grind
theorem Zgu {T:Tab} {t:TypeId} {m k:PV} {ok:Bool} {bx bx':List Box} {K:PV->Prop} (hl:∀b,m=.mp b->Z8 bx b 0 0=Z8 bx' b 0 0) (h:YD T t m k ok bx K):YD T t m k ok bx' K:=by
 cases m with
 | mp b =>
  have hc:=hl b rfl;have:(∀cs bn ck,bx[b]?=some (.map cs bn ck)->∃bn' ck',bx'[b]?=some (.map cs bn' ck')):=fun cs bn ck hb=>by
   unfold Z8 at hc
   grind
  have this2:∀l,bx[b]?=some (.dmap l)->bx'[b]?=some (.dmap l):=fun l hb=>by
   unfold Z8 at hc
   grind
  have this3:∀el m fo,bx[b]?=some (.smap el m fo)->∃el',bx'[b]?=some (.smap el' m fo):=fun el m fo hb=>by
   unfold Z8 at hc
   rw [hb] at hc;simp only at hc;split at hc
   ·cases hc
   ·cases hc
   ·cases hc
   ·rename_i el' m' fo' n8
    obtain ⟨rfl,rfl⟩:=Ztc (Prod.mk.inj (Prod.mk.inj (Option.some.inj hc)).2).1
    simp_all
   grind
  unfold YD at h |-
  split at h
  ·rename_i kt el hk
   split at h
   ·omega
   rename_i ho
   have lift:∀{X:Prop},X->(match (generalizing:=false) (T.get el).kind with | .other=>False | _=>X):=fun {X} x=>by
    simp_all
   split at h
   ·split at h
    ·grind
    omega
   omega
  omega
 | _=>exact h
theorem Zpn {T:Tab} {t:TypeId} {x:PV} {lo hi:Option PV} {K:PV->Prop} (h:U1 T t x lo hi K):∃v,K v/\∀K':PV->Prop,K' v->U1 T t x lo hi K':=by
 unfold U1 at h
 split at h
 ·rename_i hk
  split at h
  ·obtain ⟨a,b,h1,h2⟩:=Zc5 h;exact ⟨_,h1,fun K' h'=>by simp only [U1,hk];simp_all⟩
  simp_all
 ·rename_i el hk
  split at h
  ·grind
  rename_i cu
  split at h
  ·rename_i rows bu
   obtain ⟨hw,h⟩:=h;obtain ⟨a,b,h1,h2⟩:=Zc5 h;refine ⟨_,h1,fun K' h'=>?_⟩;unfold U1
   simp_all
  simp_all
 ·rename_i n el hk
  split at h
  ·grind
  rename_i cu
  split at h
  ·refine ⟨_,h,fun K' h'=>?_⟩;unfold U1
   simp_all
  ·rename_i kh sc
   obtain ⟨g1,g2,h⟩:=h;refine ⟨_,h,fun K' h'=>?_⟩;unfold U1
   simp_all
  simp_all
 simp_all
theorem ZjZ {T:Tab} {fs:List (Nat×Nat)} {ρ:Operand->PV}:∀{ps:List (Nat×Operand)} {cs:List PV} {K:List PV->Prop},Yv T fs ρ ps cs K->∃v,K v/\∀K':List PV->Prop,K' v->Yv T fs ρ ps cs K'
 | [],cs,K,h=>⟨cs,h,fun K' h'=>h'⟩
 | (i,x)::ps,cs,K,h=>by
  simp only [Yv] at h;split at h
  ·split at h
   ·grind
   ·obtain ⟨v,h1,h2⟩:=ZjZ h;exact ⟨v,h1,fun K' h'=>by have:=h2 K' h';simp only [Yv, *]⟩
   simp_all
  simp_all
theorem ZA1 {T:Tab} {o:Op} {ty:TypeId} {ρ:Operand->PV} {bx:List Box} {K:PV->Prop} (h:qop T o ty ρ bx K):∃v,K v/\∀K':PV->Prop,K' v->qop T o ty ρ bx K':=by
 unfold qop at h
 split at h
 case h_5=>obtain ⟨v,h1,h2⟩:=Zgt h;exact ⟨v,h1,fun K' h'=>h2 K' h'⟩
 case h_6=>obtain ⟨v,h1,h2⟩:=Znv h;exact ⟨v,h1,fun K' h'=>h2 K' h'⟩
 case h_8=>obtain ⟨v,h1,h2⟩:=ZwP h;exact ⟨v,h1,fun K' h'=>h2 K' h'⟩
 case h_15=>obtain ⟨v,h1,h2⟩:=Zpn h;exact ⟨v,h1,fun K' h'=>h2 K' h'⟩
 case h_4 =>
  split at h
  ·rename_i fs hk;obtain ⟨v,h1,h2⟩:=ZjZ h;exact ⟨_,h1,fun K' h'=>by simp only [qop,hk];simp_all⟩
  ·rename_i n el hk
   split at h
   ·grind
   rename_i cu
   split at h
   ·rename_i bq
    obtain ⟨v,h1,h2⟩:=ZjZ h;refine ⟨_,h1,fun K' h'=>?_⟩;have h3:=h2 (fun cs=>K' (.agg cs)) h';simp only [qop,hk]
    grind
   simp_all
  simp_all
 case h_3 =>
  split at h
  ·rename_i t bm
   cases t
   ·exact ⟨_,h,fun K' h'=>by simp only [qop,bm];exact h'⟩
   exact ⟨_,h,fun K' h'=>by simp only [qop,bm];exact h'⟩
  simp_all
 all_goals (repeat' split at h) <;> first
  | exact h.elim
  | exact ⟨_,h,fun K' h'=>by first | (simp only [qop, *];exact h') | (simp only [qop, *])⟩
  | (obtain ⟨v,h1,h2⟩:=Zcm h;exact ⟨_,h1,fun K' h'=>by first | (simp only [qop, *];exact h2 K' h') | (simp only [qop, *])⟩)
  | (obtain ⟨h1,h2⟩:=h;exact ⟨_,h2,fun K' h'=>by simp only [qop, *];exact ⟨h1,h'⟩⟩)
  | (obtain ⟨h0,h1,h2⟩:=h;exact ⟨_,h2,fun K' h'=>by first | (simp only [qop, *];exact ⟨h0,h1,h'⟩) | (simp only [qop, *];exact ⟨trivial,trivial,h'⟩)⟩)
  | skip
 ·rename_i h1 _ h2 _ h3 _ rows h4
  obtain ⟨l,hl,hK⟩:=h;exact ⟨_,hK,fun K' h'=>by simp only [qop,h1,h2,h3,h4];exact ⟨l,hl,h'⟩⟩
 ·rename_i h1 _ h2 _ s h3
  obtain ⟨h4,h5,hK⟩:=h;exact ⟨_,hK,fun K' h'=>by simp only [qop,h1,h2,h3];exact ⟨h4,h5,h'⟩⟩
 ·rename_i hi _ m el hk _ cs hx _ ha _ l hl
  obtain ⟨h4,h5,hK⟩:=h;exact ⟨_,hK,fun K' h'=>by simp only [qop,hi,hk,hx,ha,hl];simp_all⟩
 ·rename_i hi _ m el hk _ cs hx _ ha _ ho _ hs _ v hv
  obtain ⟨h4,h5,hK⟩:=h;refine ⟨_,hK,fun K' h'=>?_⟩;simp only [qop,hi,hk,hx,ha]
  simp_all
 ·rename_i hi _ el hk _ ho _ b off m hx
  obtain ⟨h4,h5,hK⟩:=h;refine ⟨_,hK,fun K' h'=>?_⟩;simp only [qop,hi,hk,hx]
  simp_all
 ·rename_i hi _ el hk _ ho _ ai _ rows hr
  obtain ⟨r,h4,h5,h6⟩:=h;split at h6
  ·rename_i h7
   refine ⟨_,h6,fun K' h'=>?_⟩;simp only [qop,hi,hk]
   simp_all
  simp_all
 rename_i hi _ m el hk _ ho _ b off hx
 obtain ⟨h4,h5,hK⟩:=h;refine ⟨_,hK,fun K' h'=>?_⟩;simp only [qop,hi,hk,hx]
 simp_all
theorem Znw {T:Tab} {o:Op} {ty:TypeId} {ρ:Operand->PV} {bx:List Box} {K:PV->Prop} (h1:Zni T o=none) (h2:∀t n ps,o=.buildSlice t n ps->False) (h3:∀t l c,o=.makeSlice t l c->False):Zh4 T o ty ρ bx K=qop T o ty ρ bx K:=by
 unfold Zh4
 simp_all
theorem Zpo {T:Tab} {o:Op} {ty:TypeId} {ρ:Operand->PV} {bx:List Box} {K:PV->Prop} (h:Zh4 T o ty ρ bx K):∃v,K v/\∀K':PV->Prop,K' v->Zh4 T o ty ρ bx K':=by
 unfold Zh4 at h
 split at h
 ·rename_i x hx
  split at h
  ·rename_i s bm
   exact ⟨_,h,fun K' h'=>by unfold Zh4;simp_all⟩
  simp_all
 rename_i hx
 split at h
 ·rename_i t n ps
  (repeat' split at h) <;> first
   | grind
   | (refine ⟨_,h,fun K' h'=>?_⟩;unfold Zh4;grind)
 ·rename_i t l c
  (repeat' split at h) <;> first
   | grind
   | (obtain ⟨rfl,q2,q3,q4,h⟩:=h;refine ⟨_,h,fun K' h'=>?_⟩;unfold Zh4;simp_all)
 rename_i je yv
 obtain ⟨v,h1,h2⟩:=ZA1 h;exact ⟨v,h1,fun K' h'=>by rw [Znw hx je yv];simp_all⟩
theorem Zj0 {bx bx':List Box} {b off n:Nat} (h:Z8 bx b off n=Z8 bx' b off n) {t:TypeId} {cs:List PV} (hb:bx[b]?=some (.cells t cs)) :
  ∃t' cs',bx'[b]?=some (.cells t' cs')/\(cs.drop off).take n=(cs'.drop off).take n:=by
 unfold Z8 at h
 grind
def Zc6 {α:Type}:∀{n:Nat} {l m:List α},l.take n=m.take n->UV n l=UV n m
 | 0,_,_,_=>rfl
 | n+1,[],[],_=>rfl
 | n+1,[],y::m,h=>by simp at h
 | n+1,x::l,[],h=>by simp at h
 | n+1,x::l,y::m,h=>by
  simp only [List.take_succ_cons,List.cons.injEq] at h;obtain ⟨rfl,h⟩:=h;simp only [UV,Zc6 h]
theorem Zj1 {T:Tab} {t:TypeId} {x:PV} {bx bx':List Box} {K:PV->Prop} (ax:(T.get t).kind≠.other->(T.get t).kind.isAgg=false->(T.get t).size=1) (hl:∀b off,x=.ptr b off->Z8 bx b off (T.get t).size=Z8 bx' b off (T.get t).size)
  (h:ZaS T t x bx K):ZaS T t x bx' K:=by
 unfold ZaS at h |-
 split at h
 ·rename_i b off
  have hc:=hl b off rfl;split at h
  ·rename_i ty cs hb
   obtain ⟨t',cs',n8,so⟩:=Zj0 hc hb;simp only [n8];split at h
   ·rename_i hk
    rw [<- Zc6 so];exact h
   rename_i hk
   have h1:(T.get t).kind≠.other->cs[off]?=cs'[off]?:=fun ho=>by
    have hp:=ax ho hk;have:=congrArg (·[0]?) so
    grind
   grind
  simp_all
 ·exact h
 omega
theorem Zpp {T:Tab} {o:Op} {ty:TypeId} {ρ ρ':Operand->PV} {bx bx':List Box} {K:PV->Prop} (hρ:∀x,x∈o.operands->ρ x=ρ' x)
  (ax:∀t,(T.get t).kind≠.other->(T.get t).kind.isAgg=false->(T.get t).size=1)
  (hl:∀b off n,ZsZ T o ρ=some (b,off,n)->Z8 bx b off n=Z8 bx' b off n) (h:qop T o ty ρ bx K):qop T o ty ρ' bx' K:=by
 cases o with
 | load t a =>
  have ha:ρ a=ρ' a:=hρ a oP;simp only [qop] at h |-;rw [<- ha];exact Zj1 (ax t) (fun b off hx=>hl b off _ (by simp only [ZsZ,hx])) h
 | lookup t m k ok =>
  simp only [qop] at h |-;rw [<- hρ m oP,<- hρ k oP];exact Zgu (fun b hx=>hl b 0 0 (by simp only [ZsZ,hx])) h
 | build t ps =>
  simp only [qop] at h |-;have fillC:∀fs (l:List (Nat×Operand)),(∀p∈l,ρ p.2=ρ' p.2)->∀cs (K:List PV->Prop),Yv T fs ρ l cs K->Yv T fs ρ' l cs K:=by
    intro fs l
    induction l with
    | nil=>intro _ cs K h;exact h
    | cons p l ih =>
    intro hp cs K h
    obtain ⟨i,x⟩:=p;simp only [Yv] at h |-;rw [<- hp (i,x) sM]
    grind
  have y7:∀p∈ps.toList,ρ p.2=ρ' p.2:=fun p hp=>hρ p.2 (by simp only [Op.operands];grind)
  split at h
  ·grind
  ·grind
  omega
 | slice t x lo hi mx =>
  cases mx with
  | some _=>exact h
  | none =>
  simp only [qop] at h |-;have h1:ρ x=ρ' x:=hρ x oP;have h2:lo.map ρ=lo.map ρ':=by cases lo with | none=>rfl | some a=>simp [hρ a oP]
  have h3:hi.map ρ=hi.map ρ':=by cases hi with | none=>rfl | some a=>simp [hρ a oP]
  simp_all
 | makeFunc fn a c =>
  cases fn with
  | func g =>
   simp only [qop] at h |-;have h1:a.toList.map ρ=a.toList.map ρ':=Su fun x hx=>hρ x (by simp only [Op.operands,Array.mem_append];simp_all)
   have h2:c.toList.map ρ=c.toList.map ρ':=Su fun x hx=>hρ x (by simp only [Op.operands,Array.mem_append];simp_all)
   simp_all
  | _=>exact h
 | call c =>
  obtain ⟨callee,args,argTypes⟩:=c
  cases callee with
  | builtin b =>
   simp only [qop] at h |-;have h1:args.toList.map ρ=args.toList.map ρ':=Su fun x hx=>hρ x (by simp only [Op.operands,Call.operands,Array.empty_append];simp_all)
   rw [<- h1];split at h
   ·rename_i t ts v hts bh
    split at h
    ·exact h
    ·exact h
    ·rename_i hk
     split at h
     ·exact h
     ·rename_i b
      have hc:=hl b 0 0 (by simp only [ZsZ,bh]);split at h
      ·rename_i cs bn ck hb
       unfold Z8 at hc
       grind
      ·rename_i m hb
       unfold Z8 at hc
       grind
      simp_all
     omega
    omega
   ·exact h
   ·exact h
   omega
  | _=>exact h
 | move x=>simp only [qop] at h |-;rw [<- hρ x oP];exact h
 | assign x=>simp only [qop] at h |-;rw [<- hρ x oP];exact h
 | pick c a b=>simp only [qop] at h |-;rw [<- hρ c oP,<- hρ a oP,<- hρ b oP];exact h
 | nilCheck x=>simp only [qop] at h |-;rw [<- hρ x oP];exact h
 | binOp op t x y yt=>simp only [qop] at h |-;rw [<- hρ x oP,<- hρ y oP];exact h
 | unOp op t x=>simp only [qop] at h |-;rw [<- hρ x oP];exact h
 | convert s d x=>simp only [qop] at h |-;rw [<- hρ x oP];exact h
 | fieldAddr s x i=>simp only [qop] at h |-;rw [<- hρ x oP];exact h
 | field s x i=>simp only [qop] at h |-;rw [<- hρ x oP];exact h
 | index t x i=>simp only [qop] at h |-;rw [<- hρ x oP,<- hρ i oP];exact h
 | indexAddr t x i=>simp only [qop] at h |-;rw [<- hρ x oP,<- hρ i oP];exact h
 | extract x i=>simp only [qop] at h |-;rw [<- hρ x oP];exact h
 | makeInterface t x=>simp only [qop] at h |-;rw [<- hρ x oP];exact h
 | typeAssert x xt t b=>cases b <;> simp only [qop] at h |- <;> first | exact h.elim | (rw [<- hρ x oP];exact h)
 | _=>exact h
def Zgv {T:Tab} {o:Op} {x:Operand} (h:Zni T o=some x):x∈o.operands/\∀t a,o≠.load t a:=by
 unfold Zni at h
 split at h
 ·(repeat' split at h) <;> first | cases h;done | (cases h;exact ⟨oP,fun t a hh=>by cases hh⟩)
 cases h
theorem U9 {w:Nat} {ρ ρ':Operand->PV}:∀{ps:List (Nat×Operand)} (_:∀p∈ps,ρ p.2=ρ' p.2) (rows:List (List D)),XN w ρ ps rows=XN w ρ' ps rows
 | [],_,_=>rfl
 | (i,x)::ps,h,rows=>by
  simp only [XN];rw [<- h (i,x) sM]
  cases ZjT (ρ x) with
  | none=>rfl
  | some r =>
  have ih:=U9 (w:=w) (ρ:=ρ) (ρ':=ρ') (ps:=ps) (fun p hp=>h p (TF _ hp)) (rows.set i r)
  simp_all
theorem Zfr {T:Tab} {o:Op} {ty:TypeId} {ρ ρ':Operand->PV} {bx bx':List Box} {K:PV->Prop} (hρ:∀x,x∈o.operands->ρ x=ρ' x)
  (ax:∀t,(T.get t).kind≠.other->(T.get t).kind.isAgg=false->(T.get t).size=1)
  (hl:∀b off n,ZsZ T o ρ=some (b,off,n)->Z8 bx b off n=Z8 bx' b off n) (h:Zh4 T o ty ρ bx K):Zh4 T o ty ρ' bx' K:=by
 unfold Zh4 at h |-
 split at h
 ·rename_i x hx
  rw [<- hρ x (Zgv hx).1];exact h
 rename_i hx
 split at h
 ·rename_i t n ps
  have:∀w rows,XN w ρ ps.toList rows=XN w ρ' ps.toList rows:=fun w rows=>U9 (fun p hp=>hρ p.2 (by simp only [Op.operands];grind)) rows
  simp only [ZcT,this] at h |-;exact h
 ·rename_i t l c
  rw [<- hρ l oP,<- hρ c oP];exact h
 exact Zpp hρ ax hl h
theorem Zpq {T:Tab} {o:Op} {ρ ρ':Operand->PV} {σ:St} {K:PV->St->Prop} (hρ:∀x,x∈o.operands->ρ x=ρ' x) (h:eop T o ρ σ K):eop T o ρ' σ K:=by
 cases o with
 | box e x=>simp only [eop] at h |-;rw [<- hρ x oP];exact h
 | store t a x=>simp only [eop] at h |-;rw [<- hρ a oP,<- hρ x oP];exact h
 | mapUpdate t a x v=>simp only [eop] at h |-;rw [<- hρ a oP,<- hρ x oP,<- hρ v oP];exact h
 | insert t a x v=>simp only [eop] at h |-;rw [<- hρ a oP,<- hρ x oP,<- hρ v oP];exact h
 | makeMap t r=>cases r <;> exact h
 | range t x=>simp only [eop] at h |-;rw [<- hρ x oP];exact h
 | next x b=>cases b <;> simp only [eop] at h |- <;> first | exact h | (rw [<- hρ x oP];exact h)
 | call c =>
  obtain ⟨callee,args,argTypes⟩:=c
  cases callee with
  | builtin b =>
   cases b with
   | append =>
    simp only [eop] at h |-;have h1:args.toList.map ρ=args.toList.map ρ':=Su fun x hx=>hρ x (by simp only [Op.operands,Call.operands,Array.empty_append];simp_all)
    simp_all
   | _=>exact h
  | _=>exact h
 | _=>exact h
end Go.PM
end

section
namespace Go.PM
def Y5 (all:List Oper) (o:Oper) (f:Frame):Option Bool:=match o.guard with
 | none=>some true
 | some (j,want)=>match WH all j with
  | some s=>match f s with
   | .d (.bool t)=>some (t == want)
   | .raw (.tuple _)=>some false
   | _=>none
  | none=>none
def YU (C:Cx) (all:List Oper) (Q:PQ) (o:Oper) (f:Frame) (σ:St) (K:Frame->St->Prop) :
  VJ C all Q o f σ K↔match Y5 all o f with
   | some true=>XX C o f σ Q K
   | some false=>K (Yk f o.dst (.raw Go.undef)) σ
   | none=>False:=by
 unfold VJ Y5
 cases hg:o.guard with
 | none=>rfl
 | some p =>
 obtain ⟨j,want⟩:=p;simp only
 cases hs:WH all j with
 | none=>rfl
 | some s =>
 simp only
 cases hf:f s with
 | d x =>
  cases x with
  | bool t=>cases t <;> cases want <;> simp only [CondP,VW hf,ZZ] <;> exact Iff.rfl
  | _=>rfl
 | raw v=>cases v <;> simp only [ZZ] <;> exact Iff.rfl
 | _=>rfl
structure CxMono (C:Cx):Prop where
 one:∀t,(C.T.get t).kind≠.other->(C.T.get t).kind.isAgg=false->(C.T.get t).size=1
 call:∀g args σ (K K':PEnd->St->Prop),(∀e σ,K e σ->K' e σ)->C.call g args σ K->C.call g args σ K'
 raw:∀v args σ (K:PEnd->St->Prop),¬C.raw v args σ K
 iter:∀g args r σ (K:PEnd->St->Prop),¬C.iter g args r σ K
 quiet:C.pk=false
def J6 {T:Tab} {o:Op} {ty:TypeId} {ρ:Operand->PV} {bx:List Box} {K K':PV->Prop} (hK:∀v,K v->K' v) (h:Zh4 T o ty ρ bx K):Zh4 T o ty ρ bx K' :=
 let ⟨v,h1,h2⟩:=Zpo h;h2 K' (hK v h1)
def Znx {t:Bool} {X Y X' Y':Prop} (h1:X->X') (h2:Y->Y') (h:CondP t X Y):CondP t X' Y':=by cases t;exact h2 h;exact h1 h
theorem Zj2 {T:Tab} {t:TypeId} {m k x:PV} {σ:St} {K K':PV->St->Prop} (hK:∀v σ,K v σ->K' v σ) (h:ZcU T t m k x σ K):ZcU T t m k x σ K':=by
 unfold ZcU at h |-
 (repeat' split at h) <;> first
  | grind
  | simp_all
  | grind
theorem Zcn {T:Tab} {o:Op} {ρ:Operand->PV} {σ:St} {K K':PV->St->Prop} (hK:∀v σ,K v σ->K' v σ) (h:eop T o ρ σ K):eop T o ρ σ K':=by
 unfold eop at h |-
 (repeat' split at h) <;> first
  | omega
  | simp_all
  | exact Zj2 hK h
  | exact Znx (hK _ _) (hK _ _) h
  | simp_all
  | (rename_i hk;exfalso;simp_all;done)
section
variable {C:Cx} {all:List Oper} {Q:PQ} {f:Frame} {σ:St} {K K':Frame->St->Prop}
theorem Zny (hM:CxMono C) {o:Oper} (hK:∀f σ,K f σ->K' f σ) (h:XX C o f σ Q K):XX C o f σ Q K':=by
 unfold XX at h |-
 simp only [ZU,Z5] at h |-;split at h
 ·exact mq140
 exact mq48
theorem ZaW (hM:CxMono C) {o:Oper} (hK:∀f σ,K f σ->K' f σ) (h:VJ C all Q o f σ K):VJ C all Q o f σ K':=by
 rw [YU] at h |-;split at h
 ·exact Zny hM hK h
 ·simp_all
 exact h
def looks (all:List Oper) (o:Oper):List Nat :=
 (o.op.operands.toList.filterMap fun | .tmp t=>some t | _=>none)++(match o.guard with | some (j,_)=>(WH all j).toList | none=>[])
def Zj3 {f f':Frame} {o:Oper} (h:∀d,d∈looks all o->f d=f' d) {x:Operand} (hx:x∈o.op.operands):ev f x=ev f' x:=by
 cases x with
 | tmp t =>
  refine h t ?_;unfold looks
  refine Tw.2 (.inl (List.mem_filterMap.2 ⟨.tmp t,TS.1 hx,rfl⟩))
 | _=>rfl
theorem ZaX {f f':Frame} {o:Oper} (h:∀d,d∈looks all o->f d=f' d):Y5 all o f=Y5 all o f':=by
 unfold Y5
 cases hg:o.guard with
 | none=>rfl
 | some p =>
 obtain ⟨j,want⟩:=p;simp only
 cases hs:WH all j with
 | none=>rfl
 | some s =>
 simp only;rw [h s (by unfold looks;simp_all)]
def Zfs {d d':Option Nat} (h:∀i,d=some i->d'≠some i) (f:Frame) (v u:PV):Yk (Yk f d v) d' u=Yk (Yk f d' u) d v:=by
 cases d with
 | none=>rfl
 | some i =>
 cases d' with
 | none=>rfl
 | some j =>
 have ji:i≠j:=fun e=>h i rfl (by rw [e])
 funext k
 simp only [Yk]
 by_cases h1:j=k
 ·subst h1;rw [Yw,Y9 _ _ ji,Yw]
 rw [Y9 _ _ h1]
 by_cases h2:i=k
 ·subst h2;rw [Yw,Yw]
 rw [Y9 _ _ h2,Y9 _ _ h2,Y9 _ _ h1]
def J7 {d:Option Nat} {v:PV} {k:Nat} (h:∀i,d=some i->i≠k):Yk f d v k=f k:=by
 cases d with
 | none=>rfl
 | some i=>exact Y9 f v (h i rfl)
def calls_operands {x:Operand} {args:Array Operand} {at':Array TypeId} {y:Operand}:y∈(Op.call { callee:=.value x,args,argTypes:=at' }).operands↔y=x\/y∈args:=by
 simp [Op.operands,Call.operands]
theorem Zpr (hM:CxMono C) {o:Oper} {d:Option Nat} {v:PV} (h1:∀i,d=some i->i∉looks all o) (h2:∀i,d=some i->o.dst≠some i) (h:XX C o (Yk f d v) σ Q K) :
  XX C o f σ Q (fun f' σ'=>K (Yk f' d v) σ'):=by
 have fm:∀k,k∈looks all o->Yk f d v k=f k:=fun k hk=>J7 fun i hi e=>h1 i hi (e ▸ hk)
 have zb:∀x,x∈o.op.operands->ev (Yk f d v) x=ev f x:=fun x hx=>Zj3 fm hx
 have afg:∀u,Yk (Yk f d v) o.dst u=Yk (Yk f o.dst u) d v:=fun u=>Zfs h2 f v u
 unfold XX at h |-
 simp only [ZU,Z5,Cx.pf,hM.quiet] at h |-;split at h
 ·refine J6 (fun u hu=>?_) (Zfr zb hM.one (fun _ _ _ _=>rfl) h);rw [ZZ] at hu |-;simp_all
 split at h
 ·rename_i x args at' ho
  have hx:ev (Yk f d v) x=ev f x:=zb x (by rw [ho];exact calls_operands.2 (.inl rfl));have ab:args.toList.map (ev (Yk f d v))=args.toList.map (ev f):=Su fun y hy=>zb y (by rw [ho];exact calls_operands.2 (.inr (TS.2 hy)))
  rw [hx,ab] at h;have hk:∀(e:PEnd) (σ':St),(match e with | .ret u=>ZjM (Yk f d v) o.dst u fun f=>K f σ' | .panic v=>Q (.panic v) (fun _=>.undef) σ':Prop)->(match e with | .ret u=>ZjM f o.dst u fun f=>K (Yk f d v) σ' | .panic v=>Q (.panic v) (fun _=>.undef) σ':Prop):=fun e σ' he=>by
   cases e with
   | ret u=>simp only at he |-;rw [ZZ] at he |-;simp_all
   | panic v=>exact he
  unfold Zfc at h |-
  split at h
  ·split at h
   ·exact hM.call _ _ _ _ _ hk h
   exact (hM.iter _ _ _ _ _ h).elim
  ·exact (hM.raw _ _ _ _ h).elim
  exact h
 ·rename_i x ho
  rw [zb x (by rw [ho];simp [Op.operands])] at h;exact h
 refine Zcn (fun u σ' hu=>?_) (Zpq (fun x hx=>zb x hx) h);rw [ZZ] at hu |-;simp_all
theorem Zj4 (hM:CxMono C) {o:Oper} (hK:∀u σ',(YX o.op=false->σ'=σ)->K (Yk f o.dst u) σ'->K' (Yk f o.dst u) σ') (h:XX C o f σ Q K):XX C o f σ Q K':=by
 unfold XX at h |-
 simp only [ZU,Z5] at h |-;split at h
 ·rename_i hE
  exact mq140
 rename_i hE
 have xj:∀σ',YX o.op=false->σ'=σ:=fun σ' h=>by simp_all
 exact mq48
theorem Zj5 (hM:CxMono C) {o:Oper} (hK:∀u σ',(YX o.op=false->σ'=σ)->K (Yk f o.dst u) σ'->K' (Yk f o.dst u) σ') (h:VJ C all Q o f σ K):VJ C all Q o f σ K':=by
 rw [YU] at h |-;split at h
 ·exact Zj4 hM hK h
 ·simp_all
 exact h
def Zps (hM:CxMono C) {o:Oper} {d:Option Nat} {v:PV} (h1:∀i,d=some i->i∉looks all o) (h2:∀i,d=some i->o.dst≠some i) (h:VJ C all Q o (Yk f d v) σ K) :
  VJ C all Q o f σ (fun f' σ'=>K (Yk f' d v) σ'):=by
 rw [YU] at h |-;rw [ZaX (f':=f) (fun k hk=>J7 fun i hi e=>h1 i hi (e ▸ hk))] at h;split at h
 ·exact Zpr hM h1 h2 h
 ·rw [Zfs h2] at h;exact h
 exact h
theorem Zj6 (hM:CxMono C) {o:Oper} (hE:YX o.op=false) (h:VJ C all Q o f σ K):∃v,K (Yk f o.dst v) σ/\∀f' σ',(∀d,d∈looks all o->f d=f' d) ->
  (∀b off n,ZsZ C.T o.op (ev f)=some (b,off,n)->Z8 σ.bx b off n=Z8 σ'.bx b off n)->∀K':Frame->St->Prop,K' (Yk f' o.dst v) σ'->VJ C all Q o f' σ' K':=by
 rw [YU] at h;split at h
 ·rename_i hg
  unfold XX at h
  simp only [hE] at h;obtain ⟨v,hv,co⟩:=Zpo h;rw [ZZ] at hv;refine ⟨v,hv,fun f' σ' hf hl K' zc=>?_⟩;rw [YU,<- ZaX hf,hg];simp only [XX,hE];refine Zfr (fun x hx=>Zj3 hf hx) hM.one hl (co _ ?_);rw [ZZ];exact zc
 ·rename_i hg
  refine ⟨_,h,fun f' σ' hf hl K' zc=>?_⟩;rw [YU,<- ZaX hf,hg];exact zc
 simp_all
def chkL_iff {ms:List Nat} {j:Nat} {pre post:List Box} {X:Prop}:∀{l:List Ld},Zs5 ms j pre post l X↔(∀d,d∈l->anc ms d.i j=false->Z8 pre d.b d.off d.n=Z8 post d.b d.off d.n)/\X
 | []=>by simp [Zs5]
 | d::l=>by
  obtain ⟨di,db,doff,dn⟩:=d;simp only [Zs5]
  cases hd:anc ms di j with
  | true=>simp only [chkL_iff,Tr,forall_eq_or_imp,hd,Bool.true_eq_false,false_implies,true_and]
  | false=>simp only [chkL_iff,Tr,forall_eq_or_imp,hd,true_implies,and_assoc]
theorem Zpt {T:Tab} {o:Op} {ρ ρ':Operand->PV} (h:∀x,x∈o.operands->ρ x=ρ' x):ZsZ T o ρ=ZsZ T o ρ':=by
 unfold ZsZ
 split
 ·rename_i t a;rw [h a oP]
 ·rename_i t a k ok;rw [h a oP]
 ·rename_i args at'
  rw [Su fun x hx=>h x (by simp only [Op.operands,Call.operands,Array.empty_append];simp_all)]
 rfl
def ZaY {o:Oper} {f':Frame} (h:∀d,d∈looks all o->f d=f' d) (T:Tab) (i:Nat) (ctx:List Ld):VT T o i f ctx=VT T o i f' ctx:=by
 unfold VT
 rw [Zpt fun x hx=>Zj3 h hx]
theorem Zco (T:Tab) (o:Oper) (i:Nat) (f:Frame):∃l,∀c,VT T o i f c=l++c:=by
 unfold VT
 split
 ·exact ⟨[_],fun c=>rfl⟩
 simp_all
theorem Zpu {o:Oper} {ctx ctx':List Ld} (h:∀d,d∈ctx'->d∈ctx) (T:Tab) (i:Nat):∀d,d∈VT T o i f ctx'->d∈VT T o i f ctx:=by
 obtain ⟨l,hl⟩:=Zco T o i f
 grind
theorem Zpv {o:Oper} {ctx:List Ld} (T:Tab) (i:Nat):∀d,d∈ctx->d∈VT T o i f ctx:=by
 obtain ⟨l,hl⟩:=Zco T o i f
 simp_all
theorem Zpw {o o':Oper} {f':Frame} {ctx:List Ld} (T:Tab) (i i':Nat):∀d,d∈VT T o i f (VT T o' i' f' ctx)->d∈VT T o' i' f' (VT T o i f ctx):=by
 obtain ⟨l,hl⟩:=Zco T o i f;obtain ⟨l',hl'⟩:=Zco T o' i' f'
 grind
theorem Zc7 (hM:CxMono C) {ms:List Nat} {i:Nat} {o:Oper} {ctx ctx':List Ld} {K:List Ld->Frame->St->Prop} (hs:∀d,d∈ctx'->d∈ctx) (hK:∀c c' f σ,(∀d,d∈c'->d∈c)->K c f σ->K c' f σ)
  (h:XY C all ms Q i o ctx f σ K):XY C all ms Q i o ctx' f σ K:=by
 unfold XY at h |-
 refine ZaW hM (fun f' σ' hk=>?_) h
 cases hE:YX o.op with
 | true=>simp only [hE] at hk |-;rw [chkL_iff] at hk |-;grind
 | false=>simp only [hE] at hk |-;exact hK _ _ _ _ (Zpu hs _ _) hk
def Zih (hM:CxMono C) {ms:List Nat}:∀(l:List (Nat×Oper)) (c c':List Ld) (f:Frame) (σ:St),(∀d,d∈c'->d∈c)->Wg C all ms Q l c f σ->Wg C all ms Q l c' f σ
 | [],_,_,_,_,_,h=>h
 | (i,o)::l,c,c',f,σ,hs,h=>Zc7 hM hs (fun c c' f σ=>Zih hM l c c' f σ) h
def ZbF (all:List Oper) (x y:Oper):Bool :=
 (match x.dst with | some d=>!(ZhY d (looks all y)) && (match y.dst with | some d'=>!(Nat.beq d d') | none=>true) | none=>true) &&
 (match y.dst with | some d=>!(ZhY d (looks all x)) | none=>true)
theorem Zj7 {x y:Oper} (h:ZbF all x y=true):(∀i,x.dst=some i->i∉looks all y)/\(∀i,x.dst=some i->y.dst≠some i)/\(∀i,y.dst=some i->i∉looks all x):=by
 unfold ZbF at h
 rw [Tl] at h;refine ⟨fun i hi=>?_,fun i hi=>?_,fun i hi=>?_⟩
 ·have:=h.1;rw [hi] at this;simp only [Tl,TV] at this;intro hm;rw [(Yq _ _).2 hm] at this;grind
 ·have:=h.1;rw [hi] at this;simp only [Tl,TV] at this;intro hm;simp_all
 have:=h.2;rw [hi] at this;simp only [TV] at this;intro hm;rw [(Yq _ _).2 hm] at this;cases this
def ZDW (hM:CxMono C) {ms:List Nat} {ix iy:Nat} {x y:Oper} {ctx:List Ld} {K0:List Ld->Frame->St->Prop} (hK:∀c c' f σ,(∀d,d∈c'->d∈c)->K0 c f σ->K0 c' f σ)
  (hE:YX x.op=false) (hap:ZbF all x y=true) (acq:anc ms ix iy=false) (h:XY C all ms Q ix x ctx f σ (fun c f σ=>XY C all ms Q iy y c f σ K0)) :
  XY C all ms Q iy y ctx f σ (fun c f σ=>XY C all ms Q ix x c f σ K0):=by
 obtain ⟨ha,hb,hc⟩:=Zj7 hap;unfold XY at h
 simp only [hE] at h;obtain ⟨v,hv,co⟩:=Zj6 hM hE h;have fm:∀u d,d∈looks all x->f d=Yk f y.dst u d:=fun u d hd=>(J7 fun i hi e=>hc i hi (e ▸ hd)).symm
 have hv:=Zps hM ha hb hv;unfold XY
 refine Zj5 hM (fun u σ' hq hk=>?_) hv
 cases hEy:YX y.op with
 | true =>
  simp only [hEy] at hk |-;rw [chkL_iff] at hk |-;refine ⟨fun d hd hda=>hk.1 d (Zpv _ _ d hd) hda,?_⟩;simp only [hE];refine co _ _ (fm u) (fun b off n ho=>?_) _ ?_
  ·exact hk.1 ⟨ix,b,off,n⟩ (by simp [VT,ho]) acq
  rw [<- ZaY (fm u)];exact hk.2
 | false =>
 simp only [hEy] at hk |-;simp only [hE];obtain rfl:=hq hEy;refine co _ _ (fm u) (fun b off n ho=>rfl) _ ?_;rw [<- ZaY (fm u)];refine hK _ _ _ _ ?_ hk;rw [<- ZaY (f:=f) (f':=Yk f x.dst v) (o:=y) (fun d hd=>(J7 fun i hi e=>ha i hi (e ▸ hd)).symm)];exact Zpw _ _ _
theorem Zj8 (hM:CxMono C) {ms:List Nat} {i:Nat} {o:Oper} {post:List (Nat×Oper)}:∀(pre:List (Nat×Oper)),(∀p,p∈pre->YX p.2.op=false/\ZbF all p.2 o=true/\anc ms p.1 i=false)->∀(ctx:List Ld) (f:Frame) (σ:St),
  Wg C all ms Q (pre++(i,o)::post) ctx f σ->XY C all ms Q i o ctx f σ (Wg C all ms Q (pre++post))
 | [],_,_,_,_,h=>h
 | (ix,x)::pre,hp,ctx,f,σ,h=>by
  obtain ⟨h1,h2,h3⟩:=hp (ix,x) sM;refine ZDW hM (Zih hM _) h1 h2 h3 ?_;have h':XY C all ms Q ix x ctx f σ (Wg C all ms Q (pre++(i,o)::post)):=h;unfold XY at h' |-
  refine ZaW hM (fun f' σ' hk=>?_) h'
  cases hE:YX x.op with
  | true=>simp_all
  | false=>simp only [hE] at hk |-;exact Zj8 hM pre (fun p ju=>hp p (TF _ ju)) _ _ _ hk
end
end Go.PM
end

section
namespace Go.PM
def Zgw (n i:Nat):List Edge->Bool
 | []=>true
 | e::l=>(match Region.binds .any e with | true=>Nat.ble (e.on+1) n && !(Nat.beq e.on i) | false=>true) && Zgw n i l
def Zcp (j:Nat):List Edge->Bool
 | []=>true
 | e::l=>(match Region.binds .any e with | true=>!(Nat.beq e.on j) | false=>true) && Zcp j l
def ZlH (all:List Oper) (ms:List Nat) (i:Nat) (o:Oper):List (Nat×Oper)->Bool
 | []=>true
 | (j,p)::l=>!(Nat.beq i j) && Zcp j o.after.toList && (anc ms i j || (!(YX o.op) && ZbF all o p)) && ZlH all ms i o l
def Zii (all:List Oper) (ms:List Nat) (n:Nat):List (Nat×Oper)->Bool
 | []=>true
 | (i,o)::l=>ZlH all ms i o l && Zgw n i o.after.toList && Zii all ms n l
def Zij (cs:List (Nat×Oper)):Nat->Bool
 | 0=>true
 | n+1=>cs.any (fun p=>Nat.beq p.1 n) && Zij cs n
def ZaZ (ms:List Nat):List (Nat×Oper)->Bool
 | []=>true
 | (i,o)::l=>Nat.beq (ms.getD i 0) (U2 ms o.after.toList 0) && ZaZ ms l
def Zpx (ops:List Oper):Bool :=
 let ms:=Wu ops []
 let cs:=Zh6 ops
 Nat.beq cs.length ops.length && Zii ops ms ops.length cs && Zij cs ops.length && ZaZ ms cs
theorem ZbG {n i:Nat}:∀{l:List Edge},Zgw n i l=true->∀e∈l,Region.binds .any e=true->e.on<n/\e.on≠i
 | [],_,e,he,_=>by cases he
 | x::l,h,e,he,hb=>by
  simp only [Zgw,Tl] at h;rcases Tr.1 he with rfl | he
  ·have h1:=h.1;rw [hb] at h1;simp only [Tl,Nat.ble_eq,TV] at h1;exact ⟨h1.1,fun e=>by simp_all⟩
  exact ZbG h.2 e he hb
theorem J8 {j:Nat}:∀{l:List Edge},Zcp j l=true->∀e∈l,Region.binds .any e=true->e.on≠j
 | [],_,e,he,_=>by cases he
 | x::l,h,e,he,hb=>by
  simp only [Zcp,Tl] at h;rcases Tr.1 he with rfl | he
  ·have h1:=h.1;rw [hb] at h1;simp only [TV] at h1;exact fun e=>by simp_all
  exact J8 h.2 e he hb
def Ztd (all:List Oper) (ms:List Nat) (x y:Nat×Oper):Prop :=
 x.1≠y.1/\(∀e∈x.2.after.toList,Region.binds .any e=true->e.on≠y.1)/\(anc ms x.1 y.1=true\/(YX x.2.op=false/\ZbF all x.2 y.2=true))
theorem Zc8 {all:List Oper} {ms:List Nat} {i:Nat} {o:Oper}:∀{l:List (Nat×Oper)},ZlH all ms i o l=true->∀p∈l,Ztd all ms (i,o) p
 | [],_,p,hp=>by cases hp
 | (j,x)::l,h,p,hp=>by
  simp only [ZlH,Tl,Sk,TV] at h;rcases Tr.1 hp with rfl | hp
  ·exact ⟨fun (e:i=j)=>by simp_all,J8 h.1.1.2,h.1.2⟩
  exact Zc8 h.2 p hp
theorem X2 {all:List Oper} {ms:List Nat} {n:Nat}:∀{l:List (Nat×Oper)},Zii all ms n l=true->l.Pairwise (Ztd all ms)/\∀p∈l,∀e∈p.2.after.toList,Region.binds .any e=true->e.on<n/\e.on≠p.1
 | [],_=>⟨List.Pairwise.nil,fun p hp=>by cases hp⟩
 | (i,o)::l,h=>by
  simp only [Zii,Tl] at h;obtain ⟨h1,h2⟩:=X2 h.2;refine ⟨List.Pairwise.cons (Zc8 h.1.1) h1,fun p hp=>?_⟩;rcases Tr.1 hp with rfl | hp
  ·exact ZbG h.1.2
  grind
theorem Jt {cs:List (Nat×Oper)}:∀{n:Nat},Zij cs n=true->∀k,k<n->∃p∈cs,p.1=k
 | 0,_,k,hk=>oM
 | n+1,h,k,hk=>by
  simp only [Zij,Tl,List.any_eq_true] at h
  by_cases l4:k=n
  ·simp_all
  exact Jt h.2 k oM
theorem Wk {ms:List Nat}:∀{l:List (Nat×Oper)},ZaZ ms l=true->∀p∈l,ms.getD p.1 0=U2 ms p.2.after.toList 0
 | [],_,p,hp=>by cases hp
 | (i,o)::l,h,p,hp=>by
  simp only [ZaZ,Tl] at h;rcases Tr.1 hp with rfl | hp
  ·simp_all
  exact Wk h.2 p hp
theorem WO {ms:List Nat} {x:Nat}:∀{l:List Edge} {s:Nat},(U2 ms l s).testBit x=true->s.testBit x=true\/∃e∈l,Region.binds .any e=true/\(e.on=x\/anc ms x e.on=true)
 | [],s,h=>.inl h
 | e::l,s,h=>by
  unfold U2 at h
  cases hb:Region.binds .any e with
  | true =>
   rw [hb] at h;rcases WO h with h1 | ⟨e',he',h1⟩
   ·rw [Nat.testBit_or,Nat.testBit_or,Sk,Sk] at h1;rcases h1 with (h1 | h1) | h1
    ·grind
    ·grind
    exact .inr ⟨e,sM,hb,.inr h1⟩
   grind
  | false =>
  rw [hb] at h;rcases WO h with h1 | ⟨e',he',h1⟩
  ·grind
  grind
theorem Zik {left:List (Nat×Oper)}:∀{l:List (Nat×Oper)} {p:Nat×Oper},Zgm left l=some p->p∈l
 | [],p,h=>by cases h
 | (i,o)::l,p,h=>by
  unfold Zgm at h
  split at h
  ·grind
  exact TF _ (Zik h)
theorem Yx {i:Nat}:∀{l:List (Nat×Oper)} {p:Nat×Oper},p∈Yp i l->p∈l
 | [],p,h=>by cases h
 | (j,o)::l,p,h=>by
  unfold Yp at h
  split at h
  ·simp_all
  rcases Tr.1 h with rfl | h
  ·simp
  exact TF _ (Yx h)
def UC:∀{n:Nat} {l:List (Nat×Oper)} {p:Nat×Oper},p∈VC n l->p∈l
 | 0,l,p,h=>h
 | n+1,[],p,h=>by cases h
 | n+1,x::l,p,h=>by
  unfold VC at h
  split at h
  ·rename_i i o hp
   rcases Tr.1 h with rfl | h
   ·exact Zik hp
   exact Yx (UC h)
  rcases Tr.1 h with rfl | h
  ·simp
  exact TF _ (UC h)
theorem Xy:∀{l:List Oper} {i:Nat} {p:Nat×Oper},p∈ZI i l->i<=p.1/\l[p.1 - i]?=some p.2
 | [],i,p,h=>by cases h
 | o::l,i,p,h=>by
  unfold ZI at h
  rcases Tr.1 h with rfl | h
  ·simp
  obtain ⟨h1,h2⟩:=Xy h
  grind
theorem Zpy {ops:List Oper} {p:Nat×Oper} (h:p∈Zh6 ops):ops[p.1]?=some p.2:=by
 have:=Xy (UC h)
 simp_all
section
variable {G:GE} {C:Cx} {e0 e:Env} {σ0 σ:St} {w0 w:World} {a:Act} {f:Frame} {Q:PQ} {ro:Option Nat} {n:Nat} {ds:Nat×List Deferred×Bool} {N:Nat} {Z:Array Value->Prop}
theorem Zil (hC:CxOK G C ro e0 σ0 w0) (hM:CxMono C) {ops:Array Oper} (hd:∀o,o∈ops->∀d,o.dst=some d->d<N/\∀t v,Z t->Z (t.setIfInBounds d v)) {ms:List Nat} (zd:∀i o,ops[i]?=some o->ms.getD i 0=U2 ms o.after.toList 0) :
  ∀(k:Nat) (l:List (Nat×Oper)),l.length=k->(∀p∈l,ops[p.1]?=some p.2)->l.Pairwise (Ztd ops.toList ms)->(∀p∈l,∀e∈p.2.after.toList,Region.binds .any e=true->e.on<ops.size/\e.on≠p.1) ->
  ∀{listed:Array Bool},listed.size=ops.size->(∀k,k<ops.size->(listed.getD k false=true↔∀p∈l,p.1≠k))->(∀j,(∀p∈l,p.1≠j)->∀p∈l,anc ms p.1 j=false) ->
  ∀{ctx:List Ld} {e:Env} {σ:St} {w:World} {a:Act} {f:Frame},SRel G e σ w->FRel G e σ w f a.tmps->Later e0 σ0 w0 e σ w->a.tmps.size=N->Marks ds e σ w a.defers->Z a.tmps->Wg C ops.toList ms Q l ctx f σ ->
  wpAnyIn (fw ro) n G.P .any ops (ZM G e0 σ0 w0 ds N Z Q) k listed a w
 | 0,l,hl,be,hp,hed,listed,hsz,eu,hdown,ctx,e,σ,w,a,f,hS,hF,hL,hN,ba,hZ,h=>by
  have l9:l=[]:=Sp.1 hl;exact mq108
 | k+1,l,hl,be,hp,hed,listed,hsz,eu,hdown,ctx,e,σ,w,a,f,hS,hF,hL,hN,ba,hZ,h=>by
  have ni:∀i b,i<ops.size->listed.getD i b=listed.getD i false:=fun i b hi=>by
   simp_all
  refine ⟨fun hr=>?_,fun i hi=>?_⟩
  ·cases l with
   | nil=>simp at hl
   | cons x l =>
   exfalso;have hx:=be x sM;have aa:=(Tv.1 hx).1;have:x.1∈Region.ready .any ops listed:=by
    refine mem_ready.2 ⟨?_,x.2,hx,fun ed nj hb=>?_⟩
    ·grind
    have h1:=hed x sM ed (TS.1 nj) hb;refine (eu ed.on h1.1).2 fun p ju=>?_
    exact mq132
   simp_all
  obtain ⟨h1,o,ho,co⟩:=mem_ready.1 hi;have aa:=(Tv.1 ho).1;rw [ni _ _ aa] at h1;have dh:∃p∈l,p.1=i:=by
   grind
  obtain ⟨p,eg,rfl⟩:=dh;have uo:p.2=o:=by grind
  obtain ⟨pre,post,rfl⟩:=List.append_of_mem eg;obtain ⟨i,o'⟩:=p;dsimp only at uo ho aa h1 hi;subst uo;have pa:=List.pairwise_append.1 hp;have gc:=(List.pairwise_cons.1 pa.2.1)
  have jv:∀x∈pre++(i,o')::post,anc ms x.1 i=false:=fun x hx=>by
   cases sq:anc ms x.1 i with
   | false=>rfl
   | true =>
   exfalso;unfold anc at sq
   rw [zd i o' ho] at sq;rcases WO sq with h2 | ⟨ed,nj,hb,h2⟩
   ·simp at h2
   grind
  have ir:=Zj8 hM pre (fun x hx=>by
   have hA:=pa.2.2 x hx (i,o') sM;have mr:=jv x (by simp [hx]);rcases hA.2.2 with h2 | h2
   ·simp_all
   simp_all) ctx f σ h
  have bc:=Vh (ro:=ro) (n:=n) hC hS hF hL hN ba hZ (ops:=ops) (hd o' (Sc ho)) ir;have acs:∀x∈pre++post,x.1≠i:=fun x hx=>by
   exact mq145
  have bj:∀x,x∈pre++post->x∈pre++(i,o')::post:=fun x hx=>by
   grind
  have next:∀a' w',KRel G e0 σ0 w0 ds N Z (fun f' σ'=>∃c,Wg C ops.toList ms Q (pre++post) c f' σ') a' w'->wpAnyIn (fw ro) n G.P .any ops (ZM G e0 σ0 w0 ds N Z Q) k (listed.setIfInBounds i true) a' w':=fun a' w' ⟨f',e',σ',⟨c,lq⟩,h2,h3,h4,h5,h6,h7⟩=>by
   refine Zil hC hM hd zd k (pre++post) (by grind) (fun x hx=>be x (bj x hx)) (List.pairwise_append.2 ⟨pa.1,gc.2,fun x hx y hy=>pa.2.2 x hx y (TF _ hy)⟩)
    (fun x hx=>hed x (bj x hx)) (by simp_all) (fun k hk=>?_) (fun j hj x hx=>?_) h2 h3 h4 h5 h6 h7 lq
   ·exact mq75
   grind
  have hK:∀a' w',KRel G e0 σ0 w0 ds N Z (fun f' σ'=>match YX o'.op with | true=>Zs5 ms i σ.bx σ'.bx ctx (Wg C ops.toList ms Q (pre++post) ctx f' σ') | false=>Wg C ops.toList ms Q (pre++post) (VT C.T o' i f ctx) f' σ') a' w' ->
    KRel G e0 σ0 w0 ds N Z (fun f' σ'=>∃c,Wg C ops.toList ms Q (pre++post) c f' σ') a' w':=fun a' w' ⟨f',e',σ',hk,au⟩=>by
   refine ⟨f',e',σ',?_,au⟩
   cases hE:YX o'.op with
   | true=>rw [hE] at hk;exact ⟨_,(chkL_iff.1 hk).2⟩
   | false=>grind
  exact mq83
theorem Znz (hC:CxOK G C ro e0 σ0 w0) (hM:CxMono C) {ops:Array Oper} (hd:∀o,o∈ops->∀d,o.dst=some d->d<N/\∀t v,Z t->Z (t.setIfInBounds d v)) (ak:Zpx ops.toList=true)
  (hS:SRel G e σ w) (hF:FRel G e σ w f a.tmps) (hL:Later e0 σ0 w0 e σ w) (hN:a.tmps.size=N) (ba:Marks ds e σ w a.defers) (hZ:Z a.tmps) (h:Wg C ops.toList (Wu ops.toList []) Q (Zh6 ops.toList) [] f σ) :
  wpAnyIn (fw ro) n G.P .any ops (ZM G e0 σ0 w0 ds N Z Q) ops.size (Array.replicate ops.size false) a w:=by
 simp only [Zpx,Tl] at ak;obtain ⟨⟨⟨h1,h2⟩,h3⟩,h4⟩:=ak;have hlen:(Zh6 ops.toList).length=ops.size:=by simp_all
 have qy:∀k,k<ops.size->∃p∈Zh6 ops.toList,p.1=k:=fun k hk=>Jt h3 k oM
 have be:∀p∈Zh6 ops.toList,ops[p.1]?=some p.2:=fun p hp=>by have:=Zpy hp;simp_all
 refine Zil hC hM hd (ms:=Wu ops.toList []) (fun i o ho=>?_) _ (Zh6 ops.toList) hlen be (X2 h2).1 (fun p hp e he hb=>by have:=(X2 h2).2 p hp e he hb;omega) sM (fun k hk=>?_) (fun j hj p hp=>?_) hS hF hL hN ba hZ h
 ·obtain ⟨p,hp,rfl⟩:=qy i (Tv.1 ho).1;have:=be p hp;rw [ho] at this
  cases this
  exact Wk h4 p hp
 ·simp_all
 exact mq65
end
end Go.PM
end
