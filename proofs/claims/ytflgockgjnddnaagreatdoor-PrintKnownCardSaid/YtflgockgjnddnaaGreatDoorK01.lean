/- A part of the proof: plain logic, contracts and laws over the given program. -/
import Derived.Laws.Cells
import Derived.Laws.Slices
import Derived.Laws.Strings
import GoSem.Dispatch
import Derived.Laws.BytesString
import Derived.Test.YtflgockgjnddnaaGreatDoorK00
set_option linter.unusedVariables false
set_option linter.unusedSimpArgs false
set_option linter.all false
set_option maxRecDepth 100000
set_option maxHeartbeats 16000000
section
namespace Go.PM
def ZkY:D→Value→Bool
 | .bool a,.bool b=>a == b
 | .int k a,.int k' b=>keq k k' && (a == b)
 | .str s,.string t=>s == t.data.toList
 | .nilp,.pointer none=>true
 | .nilf,.nilFunc=>true
 | .nili,.nilIface=>true
 | _,_=>false
def ZpK:PV→Value→Bool
 | .d x,v=>ZkY x v
 | .nils _,.slice none 0 0=>true
 | _,_=>false
def ZkZ:List PV→List Value→Bool
 | [],[]=>true
 | x::l,v::m=>ZpK x v && ZkZ l m
 | _,_=>false
def ZeL (P:Program):List (Nat×Nat)→List Field→Bool
 | [],[]=>true
 | (o,t)::l,f::m=>Nat.beq o f.offset && Nat.beq t f.type && (match P.info? t with | some i=>Nat.ble 1 i.size | none=>false) && ZeL P l m
 | _,_=>false
def ZpL (P:Program):TK→TypeDesc→Bool
 | .int k,.int k'=>keq k k'
 | .bool,.bool=>true
 | .string,.string=>true
 | .ptr e,.pointer e'=>Nat.beq e e'
 | .slice e,.slice e'=>Nat.beq e e'
 | .array n e,.array n' e'=>Nat.beq n n' && Nat.beq e e'
 | .struct fs,.struct gs=>ZeL P fs gs.toList
 | .func,.func _ _ _=>true
 | .iface,.interface _=>true
 | _,_=>false
def eqB (P:Program) (t:Nat) (d:TypeDesc):Bool:=match d with
 | .struct gs => gs.toList.all (fun f => f.name != "_") && !P.stoodInHeld t && !P.eqGuardType P.depth t
 | .int _=>match P.info? t with | some i=>i.comparable | none=>false
 | _=>false
def Zk0 (P:Program) (t:Nat) (v:TI):Bool:=match v.kind with
 | .other=>true
 | k=>match P.info? t,P.underlying t with
  | some i,some d=>Nat.beq i.size v.size && Nat.beq i.bytes v.bytes && ZpL P k d && Nat.beq v.zero.length v.size && (k.isAgg || Nat.beq v.size 1) && (!v.eqok || eqB P t d) && (match i.zero with | some z=>ZkZ v.zero z.cells.toList | none=>false)
  | _,_=>false
def Tab.all (p:Nat→TI→Bool):Tab→Bool
 | .leaf=>true
 | .node l k v r=>p k v && (l.all p && r.all p)
theorem ZyE {p:Nat→TI→Bool}:∀{T:Tab},T.all p=true→∀t,T.get t=TI.no∨p t (T.get t)=true:=by
 intro T
 induction T with
 | leaf=>exact fun _ _=>.inl rfl
 | node l k v r ihl ihr =>
  intro h t
  simp only [Tab.all,Tj] at h
  unfold Tab.get
  split
  ·rename_i hb
   have:t=k:=Tm hb
   subst this
   exact .inr h.1
  ·split
   ·exact ihl h.2.1 t
   ·exact ihr h.2.2 t
theorem Zci {a b:IntKind} (h:keq a b=true):a=b:=by cases a <;> cases b <;> first | rfl | cases h
inductive FieldsOK (P:Program):List (Nat×Nat)→List Field→Prop
 | nil:FieldsOK P [] []
 | cons (o t:Nat) (l) (f:Field) (m) (i:TypeInfo) (ho:f.offset=o) (ht:f.type=t) (hi:P.info? t=some i) (hs:1≤i.size) (h:FieldsOK P l m):FieldsOK P ((o,t)::l) (f::m)
theorem Zd7 {P:Program}:∀{l:List (Nat×Nat)} {m:List Field},ZeL P l m=true→FieldsOK P l m
 | [],[],_=>.nil
 | (o,t)::l,f::m,h=>by
  simp only [ZeL,Tj] at h
  obtain ⟨⟨⟨h1,h2⟩,h3⟩,h4⟩:=h
  cases hi:P.info? t with
  | none=>rw [hi] at h3;cases h3
  | some i =>
   rw [hi] at h3
   exact .cons o t l f m i (Tm h1).symm (Tm h2).symm hi (Tb h3) (Zd7 h4)
 | [],_::_,h=>by cases h
 | _::_,[],h=>by cases h
theorem FieldsOK.get {P:Program} {l:List (Nat×Nat)} {m:List Field} (h:FieldsOK P l m):∀{i o t:Nat},l[i]?=some (o,t)→∃f j,m[i]?=some f∧f.offset=o∧f.type=t∧P.info? t=some j∧1≤j.size:=by
 induction h with
 | nil=>intro i o t h;simp at h
 | cons o t l f m j ho ht hi hs _ ih =>
  intro i o' t' h'
  cases i with
  | zero=>simp at h';obtain ⟨rfl,rfl⟩:=h';exact ⟨f,j,rfl,ho,ht,hi,hs⟩
  | succ i=>simpa using ih (by simpa using h')
def KindOK (P:Program):TK→TypeDesc→Prop
 | .int k,d=>d=.int k
 | .bool,d=>d=.bool
 | .string,d=>d=.string
 | .ptr e,d=>d=.pointer e
 | .slice e,d=>d=.slice e
 | .array n e,d=>d=.array n e
 | .struct fs,d=>∃gs,d=.struct gs∧FieldsOK P fs gs.toList
 | .func,d=>∃a b c,d=.func a b c
 | .iface,d=>∃ms,d=.interface ms
 | .other,_=>False
theorem Znw {P:Program} {k:TK} {d:TypeDesc} (h:ZpL P k d=true):KindOK P k d:=by
 cases k <;> cases d <;> simp only [ZpL,Tj] at h <;> first
  | (cases h;done)
  | rfl
  | (have:=Zci h;subst this;rfl)
  | (have:=Tm h;subst this;rfl)
  | (have h1:=Tm h.1;have h2:=Tm h.2;subst h1;subst h2;rfl)
  | exact ⟨_,rfl,Zd7 h⟩
  | exact ⟨_,_,_,rfl⟩
  | exact ⟨_,rfl⟩
structure TIOK (P:Program) (t:Nat) (v:TI):Prop where
 ex:∃i d z,P.info? t=some i∧P.underlying t=some d∧i.size=v.size∧i.bytes=v.bytes∧KindOK P v.kind d∧i.zero=some z∧ZkZ v.zero z.cells.toList=true∧v.zero.length=v.size∧(v.kind.isAgg=true∨v.size=1)∧(v.eqok=true→eqB P t d=true)
def TabOK (T:Tab) (P:Program):Prop:=T.all (Zk0 P)=true
theorem TabOK.get {T:Tab} {P:Program} (h:TabOK T P) {t:Nat} (hk:(T.get t).kind≠.other):TIOK P t (T.get t):=by
 rcases ZyE h t with h1 | h1
 ·rw [h1] at hk;exact absurd rfl hk
 ·refine ⟨?_⟩
  unfold Zk0 at h1
  split at h1
  ·rename_i h2;exact absurd h2 hk
  ·split at h1
   ·rename_i i d hi hd
    simp only [Tj] at h1
    obtain ⟨⟨⟨⟨⟨⟨h2,h3⟩,h4⟩,h6⟩,h7⟩,h8⟩,h5⟩:=h1
    split at h5
    ·rename_i z hz
     exact ⟨i,d,z,hi,hd,Tm h2,Tm h3,Znw h4,hz,h5,Tm h6,by
      rw [Sj] at h7
      exact h7.imp id Tm,fun he=>by
      rw [he] at h8;simpa using h8⟩
    ·cases h5
   ·cases h1
theorem TabOK.one {T:Tab} {P:Program} (h:TabOK T P) {t:Nat} (hk:(T.get t).kind≠.other) (ha:(T.get t).kind.isAgg=false):(T.get t).size=1:=by
 obtain ⟨i,d,z,_,_,_,_,_,_,_,_,h1,_⟩:=(h.get hk).ex
 exact h1.resolve_left (by rw [ha];simp)
theorem ZfS {ok:Nat→Nat→Prop} {w:World} {x:D} {v:Value} (h:ZkY x v=true):DRel ok w x v∧v.oneCell'=true:=by
 cases x <;> cases v <;> try (first | (cases h;done) | (rename_i a;cases a <;> first | (cases h;done) | exact ⟨.nilp,rfl⟩))
 ·rename_i a b;have:a=b:=by simpa [ZkY] using h
  subst this;exact ⟨.bool _,rfl⟩
 ·rename_i k a k' b
  simp only [ZkY,Tj] at h
  have h1:=Zci h.1;have h2:a=b:=by simpa using h.2
  subst h1;subst h2;exact ⟨.int _ _,rfl⟩
 ·rename_i s t
  have:s=t.data.toList:=by simpa [ZkY] using h
  subst this;exact ⟨.str _,rfl⟩
 ·exact ⟨.nilf,rfl⟩
 ·exact ⟨.nili,rfl⟩
theorem Zk1 {G:GE} {e:Env} {σ:St} {w:World} {x:PV} {v:Value} (h:ZpK x v=true):VRel G e σ w x v∧v.oneCell'=true:=by
 cases x with
 | d x=>exact ⟨.d _ _ (ZfS h).1,(ZfS (ok:=okc e σ) (w:=w) h).2⟩
 | nils el =>
  unfold ZpK at h
  split at h <;> first | (cases h;done) | skip
  ·rename_i heq;cases heq
  ·exact ⟨.nils _,rfl⟩
 | _=>cases h
theorem Ww {G:GE} {e:Env} {σ:St} {w:World}:∀{l:List PV} {m:List Value},ZkZ l m=true→m.length=l.length∧∀(i:Nat) (x:PV) (u:Value),l[i]?=some x→m[i]?=some u→VRel G e σ w x u∧u.oneCell'=true
 | [],[],_=>⟨rfl,fun i x u h=>by simp at h⟩
 | x::l,v::m,h=>by
  simp only [ZkZ,Tj] at h
  obtain ⟨h1,h2⟩:=Ww (G:=G) (e:=e) (σ:=σ) (w:=w) h.2
  refine ⟨by simp [h1],fun i x' u hx hu=>?_⟩
  cases i with
  | zero=>simp at hx hu;subst hx;subst hu;exact Zk1 h.1
  | succ i=>exact h2 i x' u (by simpa using hx) (by simpa using hu)
 | [],_::_,h=>by cases h
 | _::_,[],h=>by cases h
end Go.PM
end

section
namespace Go.PM
section inv
variable {G:GE} {e:Env} {σ:St} {w:World} {v:Value}
theorem DRel.one {ok:Nat→Nat→Prop} {x:D} (h:DRel ok w x v):v.oneCell'=true:=by cases h <;> rfl
theorem VRel.dint {k:IntKind} {n:Int} (h:VRel G e σ w (.d (.int k n)) v):v=.int k n:=by cases h with | d _ _ h=>cases h;rfl
theorem VRel.dbool {b:Bool} (h:VRel G e σ w (.d (.bool b)) v):v=.bool b:=by cases h with | d _ _ h=>cases h;rfl
theorem VRel.dstr {s:List UInt8} (h:VRel G e σ w (.d (.str s)) v):v=.string ⟨s.toArray⟩:=by cases h with | d _ _ h=>cases h;rfl
theorem VRel.mkint {k:IntKind} {n:Int}:VRel G e σ w (.d (.int k n)) (.int k n):=.d _ _ (.int _ _)
theorem VRel.mkbool {b:Bool}:VRel G e σ w (.d (.bool b)) (.bool b):=.d _ _ (.bool _)
theorem VRel.mkstr {s:List UInt8}:VRel G e σ w (.d (.str s)) (.string ⟨s.toArray⟩):=.d _ _ (.str _)
theorem VN {x:PV} {y:D} (hy:toD x=some y) (h:VRel G e σ w x v):DRel (okc e σ) w y v:=by
 cases h with
 | d x v h=>cases hy;exact h
 | sl t el rows v hn hd _=>cases hy;exact hd
 | nils el=>cases hy;exact .slnil
 | _=>cases hy
theorem DRel.sl_inv {ok:Nat→Nat→Prop} {rows:List (List D)} (h:DRel ok w (.sl rows) v):∃a cap,v=.slice a rows.length cap∧rows.length≤cap:=by
 cases h with
 | slnil=>exact ⟨none,0,rfl,Tp _⟩
 | slz a=>exact ⟨some a,0,rfl,Tp _⟩
 | sl rows b off cap sz u hcap hsz hc ho hu=>exact ⟨some ⟨b,off,none⟩,cap,rfl,hcap⟩
end inv
theorem Z3 {P:Program} {t:TypeId} {i:TypeInfo} (h:P.info? t=some i) (w:World):(typeInfo t).run P w=.ok i w:=by simp [typeInfo,h]
theorem Zp {P:Program} {t:TypeId} {i:TypeInfo} (h:P.info? t=some i) (w:World):(sizeOf t).run P w=.ok i.size w:=by simp [sizeOf,Z3 h]
theorem Za {P:Program} {t:TypeId} {d:TypeDesc} (h:P.underlying t=some d) (w:World):(underlying t).run P w=.ok d w:=by simp [underlying,h]
theorem UO {P:Program} {k:TK} {d:TypeDesc} (h:KindOK P k d) {t:TypeId} (hd:P.underlying t=some d) (w:World):(isAgg t).run P w=.ok k.isAgg w:=by
 unfold isAgg
 simp only [Sem.run_bind,Za hd,Result.andThen]
 cases k with
 | struct fs=>obtain ⟨gs,rfl,_⟩:=h;rfl
 | func=>obtain ⟨a,b,c,rfl⟩:=h;rfl
 | iface=>obtain ⟨ms,rfl⟩:=h;rfl
 | other=>cases h
 | _=>cases h;rfl
theorem Vl {α:Type}:∀{n:Nat} {l r:List α},Uf n l=some r→r.length=n∧∀i,i<n→l[i]?=r[i]?
 | 0,l,r,h=>by simp [Uf] at h;subst h;exact ⟨rfl,fun i hi=>by omega⟩
 | n+1,[],r,h=>by simp [Uf] at h
 | n+1,x::l,r,h=>by
  simp only [Uf] at h
  split at h
  ·rename_i r' hr
   cases h
   obtain ⟨h1,h2⟩:=Vl hr
   refine ⟨by simp [h1],fun i hi=>?_⟩
   cases i with
   | zero=>rfl
   | succ i=>simpa using h2 i (by omega)
  ·cases h
theorem Z4 (b o i:Nat):(⟨b,o,none⟩:Addr).add i=⟨b,o+i,none⟩:=by
 unfold Addr.add
 split
 ·subst_vars;rfl
 ·rfl
theorem WV {P:Program} {t:TypeId} {i:TypeInfo} {d:TypeDesc} {k:TK} (hi:P.info? t=some i) (hd:P.underlying t=some d) (hk:KindOK P k d) (w:World) (b o:Nat) (g:Nat→Value)
  (hc:∀j,j<(if k.isAgg then i.size else 1)→w.cell? ⟨b,o+j,none⟩=some (g j)) :
  (loadVar t ⟨b,o,none⟩).run P w=.ok (if k.isAgg then .agg ((List.range i.size).map g).toArray else g 0) w:=by
 unfold loadVar
 simp only [Sem.run_bind,UO hk hd,Result.andThen]
 cases hka:k.isAgg with
 | true =>
  simp only [if_true,Sem.run_bind,Zp hi,Result.andThen]
  rw [run_loadCells w ⟨b,o,none⟩ i.size g (fun j hj=>by rw [Z4];exact hc j (by simp [hka,hj]))]
  rfl
 | false =>
  simp only [To,if_false,run_load]
  have:=hc 0 (by simp [hka])
  simp only [SC] at this
  rw [this]
section
variable {G:GE} {e:Env} {σ:St} {w:World}
theorem BRel.cell {t:TypeId} {cs:List PV} {b:Nat} (h:BRel G e σ w (.cells t cs) b) {o:Nat} {x:PV} (hx:cs[o]?=some x):∃u,w.cell? ⟨b,o,none⟩=some u∧VRel G e σ w x u∧u.oneCell'=true:=by
 obtain ⟨vs,h1,h2,h3⟩:=h
 have ho:o<vs.size:=by rw [h2];exact (Tg.1 hx).1
 have hv:vs[o]?=some vs[o]:=Tx ho
 exact ⟨vs[o],by simp [World.cell?,h1,hv],(h3 o x _ hx hv).1,(h3 o x _ hx hv).2⟩
theorem Zd8 {T:Tab} {K:PV→Prop} (hT:TabOK T G.P) (hS:SRel G e σ w) {t:TypeId} {x:PV} {v:Value} (hv:VRel G e σ w x v)
  (h:ZaH T t x σ.bx K):∃pv u,K pv∧VRel G e σ w pv u∧(Instr.loadAt t v).run G.P w=.ok u w:=by
 cases hv with
 | ptr b off hb =>
  simp only [ZaH] at h
  split at h
  ·rename_i ty cs hbx
   have hB:=hS.box b _ hbx
   split at h
   ·rename_i hk
    obtain ⟨i,d,z,hi,hd,hs,hby,hkd,hz,hz2,_⟩:=(hT.get (t:=t) (by intro h0;rw [h0] at hk;cases hk)).ex
    split at h
    ·rename_i l hl
     obtain ⟨hll,hlg⟩:=Vl hl
     have hcell:∀j,j<i.size→∃u x,l[j]?=some x∧w.cell? ⟨e.β b,off+j,none⟩=some u∧VRel G e σ w x u∧u.oneCell'=true:=fun j hj=>by
      have h1:j<l.length:=by omega
      have h2:=hlg j (by omega)
      rw [Th h1,SA] at h2
      obtain ⟨u,hu1,hu2,hu3⟩:=hB.cell h2
      exact ⟨u,l[j],Th h1,hu1,hu2,hu3⟩
     have hrun:=WV hi hd hkd w (e.β b) off (fun j=>(w.cell? ⟨e.β b,off+j,none⟩).getD undef) (fun j hj=>by
      rw [hk] at hj
      obtain ⟨u,x,_,hu,_⟩:=hcell j hj
      rw [hu];rfl)
     rw [hk] at hrun
     refine ⟨_,_,h,?_,by simp only [Instr.loadAt,Instr.sureAddr,Sem.run_bind,Sem.run_pure,Result.andThen];exact hrun⟩
     refine .agg _ _ (by simp [hll,hs]) (fun j x u hx hu=>?_) (fun u hu=>?_)
     ·have hj:j<i.size:=by have:=(Tg.1 hx).1;omega
      obtain ⟨u',x',hx',hu',hr,_⟩:=hcell j hj
      simp [hj,hu'] at hu
      rw [hx'] at hx;cases hx;subst hu;exact hr
     ·simp only [List.mem_toArray,Sx,List.mem_range] at hu
      obtain ⟨j,hj,rfl⟩:=hu
      obtain ⟨u',x',hx',hu',hr,h1⟩:=hcell j hj
      rw [hu'];exact h1
    ·exact h.elim
   ·rename_i hk
    split at h
    ·exact h.elim
    ·rename_i hk2
     obtain ⟨i,d,z,hi,hd,hs,hby,hkd,hz,hz2,_⟩:=(hT.get (t:=t) (fun h0=>hk2 h0)).ex
     split at h
     ·rename_i y hy
      obtain ⟨u,hu1,hu2,hu3⟩:=hB.cell hy
      have hrun:=WV hi hd hkd w (e.β b) off (fun _=>u) (fun j hj=>by
       rw [hk] at hj
       have:j=0:=by simpa using hj
       subst this;simpa using hu1)
      rw [hk] at hrun
      exact ⟨_,_,h,hu2,by simp only [Instr.loadAt,Instr.sureAddr,Sem.run_bind,Sem.run_pure,Result.andThen];exact hrun⟩
     ·exact h.elim
  ·exact h.elim
 | elem r off b o u hc ho hu =>
  simp only [ZaH] at h
  split at h
  ·rename_i hk
   obtain ⟨i,d,z,hi,hd,hs,hby,hkd,hz,hz2,_⟩:=(hT.get (t:=t) (by intro h0;rw [h0] at hk;cases hk)).ex
   split at h
   ·rename_i l hl
    obtain ⟨hll,hlg⟩:=Vl hl
    have hrj:∀j,j<i.size→off+j<r.length∧r[off+j]?=l[j]?:=fun j hj=>by
     have h1:j<l.length:=by omega
     have h2:=hlg j (by omega)
     rw [SA] at h2
     refine ⟨?_,h2⟩
     rw [Th h1] at h2
     exact (Tg.1 h2).1
    have hrun:=WV hi hd hkd w b (o+off) (fun j=>u (off+j)) (fun j hj=>by
     rw [hk] at hj
     have:=hc _ (hrj j hj).1
     rwa [← Sg] at this)
    rw [hk] at hrun
    refine ⟨_,_,h,?_,by simp only [Instr.loadAt,Instr.sureAddr,Sem.run_bind,Sem.run_pure,Result.andThen];exact hrun⟩
    have hrel:∀j x,j<i.size→l[j]?=some x→DRel (okc e σ) w x (u (off+j)):=fun j x hj hx=>hu (off+j) x (by rw [(hrj j hj).2];exact hx)
    refine .agg _ _ (by simp [hll,hs]) (fun j x v hx hv=>?_) (fun v hv=>?_)
    ·rw [TH] at hx
     cases hlj:l[j]? with
     | none=>rw [hlj] at hx;cases hx
     | some y =>
      rw [hlj] at hx;cases hx
      have hj:j<i.size:=by have:=(Tg.1 hlj).1;omega
      simp [hj] at hv
      subst hv
      exact .d _ _ (hrel j y hj hlj)
    ·simp only [List.mem_toArray,Sx,List.mem_range] at hv
     obtain ⟨j,hj,rfl⟩:=hv
     have h1:j<l.length:=by omega
     exact (hrel j _ hj (Th h1)).one
   ·exact h.elim
  ·rename_i hk
   split at h
   ·exact h.elim
   ·rename_i hk2
    obtain ⟨i,d,z,hi,hd,hs,hby,hkd,hz,hz2,_⟩:=(hT.get (t:=t) (fun h0=>hk2 h0)).ex
    split at h
    ·rename_i y hy
     have hlt:=(Tg.1 hy).1
     have hrun:=WV hi hd hkd w b (o+off) (fun _=>u off) (fun j hj=>by
      rw [hk] at hj
      have:j=0:=by simpa using hj
      subst this;simpa using hc off hlt)
     rw [hk] at hrun
     exact ⟨_,_,h,.d _ _ (hu off y hy),by simp only [Instr.loadAt,Instr.sureAddr,Sem.run_bind,Sem.run_pure,Result.andThen];exact hrun⟩
    ·exact h.elim
 | _=>exact h.elim
theorem J1 {P:Program} (op:BinOp) (k:IntKind) (a b:Int) (w:World) (h:op=.and∨op=.or∨op=.xor∨op=.andNot):(Op.intBits op k a b).run P w=.ok (.int k (Zh op k a b)) w:=by
 rw [Yl];rcases h with rfl | rfl | rfl | rfl <;> rfl
theorem Js {k:IntKind} {n:Int} {K:PV→Prop} (h:Zcg k n K):∃pv,K pv∧VRel G e σ w pv (.int k (k.wrap n)):=by
 rcases h with ⟨h1,h2⟩ | h
 ·exact ⟨_,h2,by rw [show k.wrap n=n from h1];exact .mkint⟩
 ·exact ⟨_,h,.mkint⟩
theorem Ui {k:IntKind} {n:Int} {K:PV→Prop} (h:Zcg k n K) {s:Sem Value} {P:Program} (hs:s.run P w=.ok (.int k (k.wrap n)) w):∃pv u,K pv∧VRel G e σ w pv u∧s.run P w=.ok u w:=by
 obtain ⟨pv,h1,h2⟩:=Js (G:=G) (e:=e) (σ:=σ) (w:=w) h
 exact ⟨pv,_,h1,h2,hs⟩
theorem ZjD {op:BinOp} {k:IntKind} {a b:Int} {K:PV→Prop} (h:Ztu op k a b K) (t:TypeId) (x y:Operand) :
  ∃pv u,K pv∧VRel G e σ w pv u∧(do eqGuard op t x y (.int k a) (.int k b);binOp op t (.int k a) (.int k b):Sem Value).run G.P w=.ok u w:=by
 have hg:(eqGuard op t x y (.int k a) (.int k b)).run G.P w=.ok () w:=by cases op <;> rfl
 cases op <;> simp only [Ztu] at h <;> simp only [Sem.run_bind,hg,Result.andThen]
 case add=>exact Ui h (by simp [binOp,Op.intArith])
 case sub=>exact Ui h (by simp [binOp,Op.intArith])
 case mul=>exact Ui h (by simp [binOp,Op.intArith])
 case quo=>exact Ui h.2 (by simp [binOp,Op.intDiv,h.1])
 case rem=>exact ⟨_,_,h.2,.mkint,by simp [binOp,Op.intDiv,h.1]⟩
 case and=>exact ⟨_,_,h,.mkint,by simp [binOp,J1]⟩
 case or=>exact ⟨_,_,h,.mkint,by simp [binOp,J1]⟩
 case xor=>exact ⟨_,_,h,.mkint,by simp [binOp,J1]⟩
 case andNot=>exact ⟨_,_,h,.mkint,by simp [binOp,J1]⟩
 case eql=>exact ⟨_,_,h,.mkbool,by simp [binOp,Op.intCmp];rfl⟩
 case neq=>exact ⟨_,_,h,.mkbool,by simp [binOp,Op.intCmp,bne];rfl⟩
 case lss=>exact ⟨_,_,h,.mkbool,by simp [binOp,Op.intCmp]⟩
 case leq=>exact ⟨_,_,h,.mkbool,by simp [binOp,Op.intCmp]⟩
 case gtr=>exact ⟨_,_,h,.mkbool,by simp [binOp,Op.intCmp]⟩
 case geq=>exact ⟨_,_,h,.mkbool,by simp [binOp,Op.intCmp]⟩
theorem toList_mk (s:List UInt8):(⟨s.toArray⟩:ByteArray).toList=s:=ByteArray.toList_mk s
theorem ZaI {α:Type} [BEq α] [LawfulBEq α] [DecidableEq α] (a b:α):(a == b)=decide (a=b):=by rw [Bool.eq_iff_iff];simp
theorem Ja {T : Tab} (hT : TabOK T G.P) (d : Nat) {xs ys : Array Value} : ∀ {fs : List (Nat × Nat)} {gs : List Field} {i : Nat} {px py : List PV} {K : Bool → Prop}, FieldsOK G.P fs gs → gs.all (fun f => f.name != "_") = true →
  (∀(j:Nat) (x:PV),px[j]?=some x→∃u,xs[i+j]?=some u∧VRel G e σ w x u)→(∀(j:Nat) (x:PV),py[j]?=some x→∃u,ys[i+j]?=some u∧VRel G e σ w x u)→YV T i fs px py K →
  ∃r,K r∧(Op.eqFields (d+1) xs ys gs).run G.P w=.ok r w
 | [],gs,i,px,py,K,hf,hn,hx,hy,h=>by
  cases hf
  cases px <;> cases py <;> first | exact ⟨_,h,rfl⟩ | exact h.elim
 | (o',t')::fs',gs,i',px,py,K,hf,hn,hx,hy,h=>by
  cases hf with
  | cons _ _ _ f gs info ho ht hi hs hf =>
   simp only [List.all_cons,Tj] at hn
   cases px with
   | nil=>exact h.elim
   | cons x xs' =>
   cases py with
   | nil=>exact h.elim
   | cons y ys' =>
    obtain ⟨u,hu,hxu⟩:=hx 0 x rfl
    obtain ⟨v,hv,hyv⟩:=hy 0 y rfl
    simp only [SC] at hu hv
    have hx':∀(j:Nat) (z:PV),xs'[j]?=some z→∃u,xs[i'+1+j]?=some u∧VRel G e σ w z u:=fun j z hz=>by have:=hx (j+1) z (by simpa using hz);rwa [show i'+(j+1)=i'+1+j by omega] at this
    have hy':∀(j:Nat) (z:PV),ys'[j]?=some z→∃u,ys[i'+1+j]?=some u∧VRel G e σ w z u:=fun j z hz=>by have:=hy (j+1) z (by simpa using hz);rwa [show i'+(j+1)=i'+1+j by omega] at this
    have hname : f.name ≠ "_" := by simpa using hn.1
    have fin:∀(b:Bool) (K1:Bool→Prop),o'=i'→(T.get t').kind≠.other→(T.get t').kind.isAgg=false→(Op.equalIn (d+1) t' u v).run G.P w=.ok b w→(YV T (i'+1) fs' xs' ys' fun r=>K1 (b && r)) →
      ∃r,K1 r∧(Op.eqFields (d+1) xs ys (f::gs)).run G.P w=.ok r w:=fun b K1 hoi hko hka he hk=>by
     obtain ⟨r,h1,h2⟩:=Ja hT d hf hn.2 hx' hy' hk
     obtain ⟨i2,d2,z2,hi2,hd2,hs2,hby2,hkd2,_⟩:=(hT.get hko).ex
     have hpx:∀(zs:Array Value) (q:Value),zs[i']?=some q→(part t' zs f.offset).run G.P w=.ok q w:=fun zs q hq=>by
      unfold part
      simp only [Sem.run_bind,UO hkd2 hd2,Result.andThen,hka]
      simp [ho,hoi,hq]
     refine ⟨_,h1,?_⟩
     simp only [Op.eqFields]
     rw [Ti hname]
     simp only [Sem.run_bind,ht,hpx xs u hu,hpx ys v hv,he,Result.andThen]
     cases b with
     | true=>simp only [Bool.not_true,To,if_false,TJ];exact h2
     | false=>simp
    have tk:∀(k:TK),(T.get t').kind=k→k≠.other→∃dd,G.P.underlying t'=some dd∧KindOK G.P k dd:=fun k hk hko=>by
     obtain ⟨i2,d2,z2,hi2,hd2,hs2,hby2,hkd2,_⟩:=(hT.get (t:=t') (by rw [hk];exact hko)).ex
     exact ⟨d2,hd2,by rw [← hk];exact hkd2⟩
    simp only [YV] at h
    split at h
    ·rename_i k0 k a k' b hoi hkind
     obtain ⟨dd,hd1,hd2⟩:=tk _ hkind (by simp)
     cases hxu.dint;cases hyv.dint
     split at h
     ·rename_i hk
      cases Zci hk
      refine fin (decide (a=b)) K (Tm hoi) (by rw [hkind];simp) (by rw [hkind];rfl) ?_ h
      rw [run_equalIn_int w d _ k k0 a b (by rw [hd1];exact congrArg some hd2),ZaI]
     ·exact h.elim
    ·rename_i a b hoi hkind
     obtain ⟨dd,hd1,hd2⟩:=tk _ hkind (by simp)
     cases hxu.dstr;cases hyv.dstr
     refine fin (decide (a=b)) K (Tm hoi) (by rw [hkind];simp) (by rw [hkind];rfl) ?_ h
     rw [run_equalIn_string w d _ _ _ (by rw [hd1];exact congrArg some hd2),toList_mk,toList_mk,ZaI]
    ·rename_i a b hoi hkind
     obtain ⟨dd,hd1,hd2⟩:=tk _ hkind (by simp)
     cases hxu.dbool;cases hyv.dbool
     refine fin (decide (a=b)) K (Tm hoi) (by rw [hkind];simp) (by rw [hkind];rfl) ?_ h
     rw [run_equalIn_bool w d _ a b (by rw [hd1];exact congrArg some hd2),ZaI]
    ·exact h.elim
def Zk2:Value→Bool
 | .int _ _=>false | .string _=>false | .float _ _=>false | .complex _ _ _=>false | _=>true
theorem Zk3 {t:TypeId} {vx vy:Value} (h:Zk2 vx=true):binOp .eql t vx vy=(do pure (.bool (← Op.equal t vx vy))):=by
 cases vx <;> first | (cases h;done) | (cases vy <;> rfl)
theorem Zk4 {t:TypeId} {vx vy:Value} (h:Zk2 vx=true):binOp .neq t vx vy=(do pure (.bool (!(← Op.equal t vx vy)))):=by
 cases vx <;> first | (cases h;done) | (cases vy <;> rfl)
theorem ZR {P:Program} {op:BinOp} {t:TypeId} {x y:Operand} {vx vy:Value} (h:(match vx with | .nilIface=>false | .agg _=>false | _=>true)=true):(eqGuard op t x y vx vy).run P w=.ok () w:=by
 cases op <;> first | rfl | (cases vx <;> first | (cases h;done) | rfl)
theorem Ya (t:TypeId) (x y:Value):Op.equal t x y=Op.equalIn (9999+1) t x y:=rfl
theorem ZfT {T:Tab} (hT:TabOK T G.P) {t:TypeId} {x y:Operand} {px py:PV} {vx vy:Value} {K:Bool→Prop} (hx:VRel G e σ w px vx) (hy:VRel G e σ w py vy) (h:peq T t x y px py K) (op:BinOp) :
  ∃b,K b∧(Op.equal t vx vy).run G.P w=.ok b w∧(eqGuard op t x y vx vy).run G.P w=.ok () w∧Zk2 vx=true:=by
 have tk:∀(k:TK),(T.get t).kind=k→k≠.other→∃dd,G.P.underlying t=some dd∧KindOK G.P k dd∧((T.get t).eqok=true→eqB G.P t dd=true):=fun k hk hko=>by
  obtain ⟨i2,d2,z2,hi2,hd2,hs2,hby2,hkd2,_,_,_,_,h8⟩:=(hT.get (t:=t) (by rw [hk];exact hko)).ex
  exact ⟨d2,hd2,by rw [← hk];exact hkd2,h8⟩
 have dn:∀{v:Value},VRel G e σ w (.d .nilp) v→v=.pointer none:=fun h=>by cases h with | d _ _ h=>cases h;rfl
 have df:∀{v:Value},VRel G e σ w (.d .nilf) v→v=.nilFunc:=fun h=>by cases h with | d _ _ h=>cases h;rfl
 have di:∀{v:Value},VRel G e σ w (.d .nili) v→v=.nilIface:=fun h=>by cases h with | d _ _ h=>cases h;rfl
 unfold peq at h
 split at h
 ·rename_i hkind
  obtain ⟨dd,hd1,hd2,_⟩:=tk _ hkind (by simp)
  split at h
  ·rename_i a b
   cases hx.dbool;cases hy.dbool
   exact ⟨_,h,by rw [run_equal_bool w t a b (by rw [hd1];exact congrArg some hd2),ZaI],ZR rfl,rfl⟩
  ·exact h.elim
 ·rename_i el hkind
  obtain ⟨dd,hd1,hd2,_⟩:=tk _ hkind (by simp)
  obtain rfl:dd=.pointer el:=hd2
  split at h
  ·cases dn hx;cases dn hy
   exact m33
  ·cases dn hx;cases hy
   exact m33
  ·cases dn hx;cases hy
   exact m33
  ·cases dn hy;cases hx
   exact m33
  ·cases dn hy;cases hx
   exact m33
  ·exact h.elim
 ·rename_i hkind
  obtain ⟨dd,hd1,⟨q1,q2,q3,rfl⟩,_⟩:=tk _ hkind (by simp)
  split at h
  ·cases df hx;cases df hy
   exact m33
  ·cases df hx;cases hy
   exact m33
  ·cases df hy;cases hx
   exact m33
  ·exact h.elim
 ·rename_i hkind
  obtain ⟨dd,hd1,⟨q1,rfl⟩,_⟩:=tk _ hkind (by simp)
  split at h
  ·cases di hx;cases di hy
   split at h
   ·rename_i hc
    refine ⟨_,h,by rw [Ya,Op.equalIn];simp [Za hd1],?_,rfl⟩
    cases op <;> first | rfl | (unfold eqGuard;cases x <;> cases y <;> first | rfl | (cases hc;done))
   ·exact h.elim
  ·cases di hx;cases hy
   exact ⟨_,h,by rw [Ya,Op.equalIn];simp [Za hd1],by cases op <;> rfl,rfl⟩
  ·cases di hy;cases hx
   exact ⟨_,h,by rw [Ya,Op.equalIn];simp [Za hd1],by cases op <;> rfl,rfl⟩
  ·rename_i t1 k a t2 k' b
   cases hx with
   | iface _ _ u hu =>
   cases hy with
   | iface _ _ v hv =>
   cases hu.dint;cases hv.dint
   split at h
   ·rename_i kk hb hkk hek
    cases Tm hb
    split at h
    ·rename_i hkq
     cases Zci hkq
     obtain ⟨i2,d2,z2,hi2,hd2,hs2,hby2,hkd2,_,_,_,_,h8⟩:=(hT.get (t:=t1) (by rw [hkk];simp)).ex
     rw [hkk] at hkd2
     obtain rfl:d2=.int kk:=hkd2
     have hc:=h8 hek
     simp only [eqB,hi2] at hc
     refine ⟨_,h,?_,by cases op <;> rfl,rfl⟩
     rw [Ya,Op.equalIn]
     simp only [Sem.run_bind,Za hd1,Result.andThen,ne_eq,not_true,if_false,Z3 hi2,hc,Bool.not_true,To]
     rw [run_equalIn_int w 9998 t1 k kk a b hd2,ZaI]
    ·exact h.elim
   ·rename_i hb
    have hne:t1≠t2:=fun e=>by subst e;simp at hb
    refine ⟨_,h,?_,by cases op <;> rfl,rfl⟩
    rw [Ya,Op.equalIn]
    simp [Za hd1,hne]
   ·exact h.elim
  ·exact h.elim
 ·rename_i el hkind
  obtain ⟨dd,hd1,hd2,_⟩:=tk _ hkind (by simp)
  obtain rfl:dd=.slice el:=hd2
  split at h
  ·cases hx;cases hy
   exact m33
  ·cases hy
   cases hx with
   | d _ _ hx=>cases hx with
    | sl=>exact ⟨_,h,by rw [Ya,Op.equalIn];simp [Za hd1],ZR rfl,rfl⟩
  ·cases hy
   cases hx with
   | sl _ _ _ _ _ hx _=>cases hx with
    | sl=>exact ⟨_,h,by rw [Ya,Op.equalIn];simp [Za hd1],ZR rfl,rfl⟩
  ·exact h.elim
 ·rename_i fs hkind
  obtain ⟨dd,hd1,⟨gs,rfl,hf⟩,h8⟩:=tk _ hkind (by simp)
  split at h
  ·rename_i hek
   have hB:=h8 hek
   simp only [eqB,Tj,TS] at hB
   split at h
   ·rename_i xs ys
    cases hx with
    | agg _ vxs hxs hxr _ =>
    cases hy with
    | agg _ vys hys hyr _ =>
    have hfo:G.P.fieldsOf t=gs:=by simp [Program.fieldsOf,hd1]
    have conv:∀{l:List PV} {vs:Array Value},vs.size=l.length→(∀(i:Nat) (x:PV) (u:Value),l[i]?=some x→vs[i]?=some u→VRel G e σ w x u)→∀(j:Nat) (x:PV),l[j]?=some x→∃u,vs[0+j]?=some u∧VRel G e σ w x u:=fun {l vs} hs hr j x hx=>by
     have hj:=(Tg.1 hx).1
     refine ⟨vs[j],by rw [Sf];exact Tx (by omega),hr j x _ hx (Tx (by omega))⟩
    obtain ⟨r,hK,hrun⟩:=Ja hT 9998 hf hB.1.1 (conv hxs hxr) (conv hys hyr) h
    refine ⟨r,hK,?_,run_eqGuard_agg w op t x y _ _ hB.2,rfl⟩
    have:=run_equalIn_struct w 9999 t vxs vys (by rw [hfo];exact hd1) hB.1.2
    rw [hfo] at this
    exact this.trans hrun
   ·exact h.elim
  ·exact h.elim
 ·exact h.elim
theorem ZjE {T:Tab} (hT:TabOK T G.P) {op:BinOp} {px py:PV} {vx vy:Value} {K:PV→Prop} {t:TypeId} {x y:Operand} (hx:VRel G e σ w px vx) (hy:VRel G e σ w py vy) (h:Zo4 T op t x y px py K) :
  ∃pv u,K pv∧VRel G e σ w pv u∧(do eqGuard op t x y vx vy;binOp op t vx vy:Sem Value).run G.P w=.ok u w:=by
 unfold Zo4 at h
 split at h
 ·rename_i k a k' b
  cases hx.dint;cases hy.dint
  split at h
  ·have hg:(eqGuard .shl t x y (.int k a) (.int k' b)).run G.P w=.ok () w:=rfl
   have:¬b<0:=by omega
   exact Ui h.2 (by simp [hg,binOp,Op.shift,this])
  ·refine ⟨_,_,h.2,.mkint,?_⟩
   have hg:(eqGuard .shr t x y (.int k a) (.int k' b)).run G.P w=.ok () w:=rfl
   have:¬b<0:=by omega
   simp [hg,binOp,Op.shift,this]
  ·split at h
   ·rename_i hk
    cases Zci hk
    exact ZjD h t x y
   ·exact h.elim
 ·rename_i a b
  cases hx.dstr;cases hy.dstr
  have hg:(eqGuard op t x y (.string ⟨a.toArray⟩) (.string ⟨b.toArray⟩)).run G.P w=.ok () w:=by cases op <;> rfl
  cases op <;> simp only at h <;> simp only [Sem.run_bind,hg,Result.andThen]
  case add =>
   refine ⟨_,_,h.2,.mkstr,?_⟩
   have h1:¬((a.length:Int)+(b.length:Int)>IntKind.i64.max):=by
    have:IntKind.i64.max=2 ^ 63 - 1:=rfl
    rw [this];have:=h.1;omega
   have h2:(⟨a.toArray⟩:ByteArray)++⟨b.toArray⟩=⟨(a++b).toArray⟩:=by
    apply ByteArray.ext;simp [ByteArray.data_append]
   have h3:(⟨a.toArray⟩:ByteArray).size=a.length:=rfl
   have h4:(⟨b.toArray⟩:ByteArray).size=b.length:=rfl
   simp only [binOp,Op.stringOp,h3,h4,Int.natCast_add]
   rw [Te h1,h2]
   rfl
  all_goals refine ⟨_,_,h,.mkbool,?_⟩
  all_goals simp only [binOp,Op.stringOp,toList_mk,← ZaI,Sem.run_pure]
 ·rename_i px' py' hno1 hno2
  cases op <;> simp only at h <;> first | exact h.elim | skip
  ·obtain ⟨b,hK,h1,h2,n1⟩:=ZfT hT hx hy h .eql
   refine ⟨_,_,hK,.mkbool,?_⟩
   simp only [Sem.run_bind,h2,Result.andThen,Zk3 n1,h1,Sem.run_pure]
  ·obtain ⟨b,hK,h1,h2,n1⟩:=ZfT hT hx hy h .neq
   refine ⟨_,_,hK,.mkbool,?_⟩
   simp only [Sem.run_bind,h2,Result.andThen,Zk4 n1,h1,Sem.run_pure]
theorem Xt {α:Type}:∀(l:List α) (o:Nat) (vs:List α),(ZJ l o vs).length=l.length
 | [],_,[]=>rfl
 | _::_,_,[]=>rfl
 | [],_,_::_=>rfl
 | _::l,0,_::vs=>by simp [ZJ,Xt l 0 vs]
 | _::l,o+1,v::vs=>by simp [ZJ,Xt l o (v::vs)]
theorem WX {α:Type}:∀(l:List α) (o:Nat) (vs:List α) (i:Nat),(ZJ l o vs)[i]?=if o≤i∧i<o+vs.length∧i<l.length then vs[i - o]? else l[i]?
 | l,o,[],i=>by
  have:ZJ l o []=l:=by cases l <;> rfl
  rw [this,Te];simp;omega
 | [],o,v::vs,i=>by simp [ZJ]
 | x::l,0,v::vs,i=>by
  cases i with
  | zero=>simp [ZJ]
  | succ i =>
   have:=WX l 0 vs i
   simp only [ZJ,T3,this,T4,true_and,Sf,Tc,Nat.sub_zero]
   by_cases h:i<vs.length∧i<l.length
   ·rw [Ti h,Ti ⟨by omega,by omega⟩]
   ·rw [Te h,Te];omega
 | x::l,o+1,v::vs,i=>by
  cases i with
  | zero=>simp [ZJ]
  | succ i =>
   have:=WX l o (v::vs) i
   simp only [ZJ,T3,this,Tc]
   by_cases h:o≤i∧i<o+(vs.length+1)∧i<l.length
   ·rw [Ti h,Ti ⟨by omega,by omega,by omega⟩];congr 1;omega
   ·rw [Te h,Te];omega
theorem Zbp (vs:Array Value) (off:Nat):∀(l:List Value) (j:Nat) (cs:Array Value),((l.zipIdx j).foldl (fun cs (p:Value×Nat)=>cs.setIfInBounds (off+p.2) p.1) cs).size=cs.size:=by
 intro l
 induction l with
 | nil=>intro j cs;rfl
 | cons v l ih=>intro j cs;simp only [List.zipIdx_cons,List.foldl_cons];rw [ih];simp
theorem Zcj (off:Nat):∀(l:List Value) (j:Nat) (cs:Array Value) (i:Nat),
  ((l.zipIdx j).foldl (fun cs (p:Value×Nat)=>cs.setIfInBounds (off+p.2) p.1) cs)[i]?=if off+j≤i∧i<off+j+l.length∧i<cs.size then l[i - (off+j)]? else cs[i]?:=by
 intro l
 induction l with
 | nil=>intro j cs i;rw [Te];rfl;simp;omega
 | cons v l ih =>
  intro j cs i
  simp only [List.zipIdx_cons,List.foldl_cons]
  rw [ih]
  simp only [Array.size_setIfInBounds,Tc,TX]
  by_cases h:off+(j+1)≤i∧i<off+(j+1)+l.length∧i<cs.size
  ·rw [Ti h,Ti ⟨by omega,by omega,by omega⟩]
   rw [show i - (off+j)=(i - (off+(j+1)))+1 by omega,T3]
  ·rw [Te h]
   by_cases h2:off+j=i
   ·subst h2
    simp only [if_true]
    by_cases h3:off+j<cs.size
    ·rw [Ti h3,Ti ⟨by omega,by omega,h3⟩];simp
    ·rw [Te h3,Te (by omega)];simp [h3]
   ·rw [Te h2,Te (by omega)]
theorem Vm {x:PV} {v:Value} {l:List PV} (h:VRel G e σ w x v) (hl:x.cells=some l):v.cells.size=l.length∧∀(i:Nat) (y:PV) (u:Value),l[i]?=some y→v.cells[i]?=some u→VRel G e σ w y u∧u.oneCell'=true:=by
 have plain:∀(x:PV) (v:Value),VRel G e σ w x v→v.oneCell'=true→x.cells=some [x]→v.cells=#[v]→x.cells=some l→v.cells.size=l.length∧∀(i:Nat) (y:PV) (u:Value),l[i]?=some y→v.cells[i]?=some u→VRel G e σ w y u∧u.oneCell'=true:=by
  intro x v h h1 hx hv hl
  rw [hx] at hl;cases hl
  rw [hv]
  refine ⟨rfl,fun i y u hy hu=>?_⟩
  cases i with
  | zero=>simp at hy hu;subst hy;subst hu;exact ⟨h,h1⟩
  | succ i=>simp at hy
 cases h with
 | agg cs vs hs h h1 =>
  cases hl
  exact ⟨hs,fun i y u hy hu=>⟨h i y u hy hu,h1 u (T7 hu)⟩⟩
 | undef v=>cases hl
 | d x v h=>exact plain _ _ (.d _ _ h) h.one rfl (by cases h <;> rfl) hl
 | sl t el rows v hn hd ht=>exact plain _ _ (.sl _ _ _ _ hn hd ht) hd.one rfl (by cases hd <;> rfl) hl
 | ptr b off h=>exact plain _ _ (.ptr _ _ h) rfl rfl rfl hl
 | asl b off n h=>exact plain _ _ (.asl _ _ _ h) rfl rfl rfl hl
 | elem r off b o u hc ho hu=>exact plain _ _ (.elem _ _ _ _ u hc ho hu) rfl rfl rfl hl
 | nils el=>exact plain _ _ (.nils _) rfl rfl rfl hl
 | func f a c va vc ha hc h1 h2=>exact plain _ _ (.func _ _ _ _ _ ha hc h1 h2) rfl rfl rfl hl
 | iface t x v h=>exact plain _ _ (.iface _ _ _ h) rfl rfl rfl hl
 | tuple cs vs hs h=>cases hl
 | raw v =>
  cases v with
  | func f a c=>exact plain _ _ (.raw _) rfl rfl rfl hl
  | _=>cases hl
theorem Zk5 (off:Nat) (vs cells:Array Value):Array.foldl (fun cs (x:Value×Nat)=>cs.setIfInBounds (off+x.2) x.1) vs cells.zipIdx=List.foldl (fun cs (x:Value×Nat)=>cs.setIfInBounds (off+x.2) x.1) vs (cells.toList.zipIdx 0):=by
 rw [← Array.foldl_toList,Array.toList_zipIdx]
theorem FieldsOK.length {P:Program} {l:List (Nat×Nat)} {m:List Field} (h:FieldsOK P l m):m.length=l.length:=by
 induction h with
 | nil=>rfl
 | cons _ _ _ _ _ _ _ _ _ _ _ ih=>simp [ih]
theorem ZaJ {T:Tab} (hT:TabOK T G.P) {fs:List (Nat×Nat)} {gs:List Field} (hf:FieldsOK G.P fs gs) {ρ:Operand→PV} {ρ':Operand→Value} (hρ:∀x,VRel G e σ w (ρ x) (ρ' x)) {K:List PV→Prop}
  (places:Nat→Option (Nat×Nat)) (hp:∀i f j,gs[i]?=some f→G.P.info? f.type=some j→places i=some (f.offset,j.size)) :
  ∀(ps:List (Nat×Operand)) (cs:List PV) (vs:Array Value),vs.size=cs.length→(∀(i:Nat) (x:PV) (u:Value),cs[i]?=some x→vs[i]?=some u→VRel G e σ w x u∧u.oneCell'=true) →
   Ym T fs ρ ps cs K→∃cs' vs',K cs'∧Instr.fill places vs (ps.map fun p=>(p.1,ρ' p.2))=some vs'∧vs'.size=cs'.length∧(∀(i:Nat) (x:PV) (u:Value),cs'[i]?=some x→vs'[i]?=some u→VRel G e σ w x u∧u.oneCell'=true)
 | [],cs,vs,hs,hr,h=>⟨cs,vs,h,rfl,hs,hr⟩
 | (i,x)::ps,cs,vs,hs,hr,h=>by
  simp only [Ym] at h
  split at h
  ·rename_i o t l hfi hl
   split at h
   ·exact h.elim
   ·rename_i h1 h2 hk
    obtain ⟨f,j,hg,ho,ht,hi,hj⟩:=hf.get hfi
    obtain ⟨i2,d,z,hi2,hd,hs2,hby,hkd,hz,hz2,_⟩:=(hT.get (t:=t) (fun h0=>hk h0)).ex
    rw [hi] at hi2;cases hi2
    have e1:=Tm h1
    have e2:=Tb h2
    obtain ⟨hc1,hc2⟩:=Vm (hρ x) hl
    have hpl:=hp i f j hg (by rw [ht];exact hi)
    simp only [TA,Instr.fill,hpl]
    have hsz:(ρ' x).cells.size=j.size:=by rw [hc1,e1,hs2]
    rw [Te (by rw [hsz,hs,ho];simp;omega)]
    refine ZaJ hT hf hρ places hp ps _ _ ?_ ?_ h
    ·rw [Xt,← hs]
     rw [Zk5];exact Zbp vs f.offset (ρ' x).cells.toList 0 vs
    ·intro k y u hy hu
     rw [WX] at hy
     have hu':(((ρ' x).cells.toList.zipIdx 0).foldl (fun cs (p:Value×Nat)=>cs.setIfInBounds (f.offset+p.2) p.1) vs)[k]?=some u:=by
      rw [← Zk5];exact hu
     rw [Zcj] at hu'
     simp only [SC,Sk] at hu'
     by_cases hin:o≤k∧k<o+l.length∧k<cs.length
     ·rw [Ti hin] at hy
      rw [Ti ⟨by omega,by omega,by omega⟩,ho] at hu'
      exact hc2 (k - o) y u hy (by simpa using hu')
     ·rw [Te hin] at hy
      rw [Te (by omega)] at hu'
      exact hr k y u hy hu'
   ·exact h.elim
  ·exact h.elim
theorem ZyF {rows:List (List D)} {v:Value} (h:DRel (okc e σ) w (.sl rows) v) {n:Nat} {r:List D} (hr:rows[n]?=some r) :
  ∃(b off cap:Nat) (u:Nat→Value),v=.slice (some ⟨b,off,none⟩) rows.length cap∧n<rows.length∧(∀j,j<r.length→w.cell? ⟨b,off+n * r.length+j,none⟩=some (u j))∧(∀j,j<r.length→okc e σ b (off+n * r.length+j)) ∧
   ∀(j:Nat) (x:D),r[j]?=some x→DRel (okc e σ) w x (u j):=by
 cases h with
 | slnil=>simp at hr
 | slz a=>simp at hr
 | sl rows b off cap sz u hcap hsz hc ho hu =>
  have hn:=(Tg.1 hr).1
  have hlen:r.length=sz:=hsz r (Sd hr)
  refine ⟨b,off,cap,u n,rfl,hn,fun j hj=>?_,fun j hj=>?_,fun j x hx=>hu n j x (by rw [hr];exact hx)⟩
  ·rw [hlen] at hj ⊢;exact hc n j hn hj
  ·rw [hlen] at hj ⊢;exact ho n j hn hj
theorem XV (P:Program) (k:IntKind) (n:Int) (w:World):(asIntOf (.int k n)).run P w=.ok (k,n) w:=rfl
theorem UP (P:Program) (k:IntKind) (n:Int) (y:Nat) (c:BoundsCode) (w:World) (h0:0≤n) (h:n≤y):(Instr.sliceBound (.int k n) y c).run P w=.ok n.toNat w:=by
 simp [Instr.sliceBound,XV,h0,h]
theorem Jb {P:Program} {lo hi:Option PV} {vlo vhi:Option Value} (isS:Bool) {len cap:Nat} (hcap:len≤cap) (hlo:∀v,vlo=some v→∃x,lo=some x∧VRel G e σ w x v) (hlo':vlo=none→lo=none)
  (hhi:∀v,vhi=some v→∃x,hi=some x∧VRel G e σ w x v) (hhi':vhi=none→hi=none) {K:Nat→Nat→Prop} (h:VJ lo hi len K) :
  ∃l u,K l u∧l≤u∧u≤len∧(Instr.sliceBounds isS len cap vlo vhi none).run P w=.ok (l,u,cap) w:=by
 unfold VJ at h
 cases vlo with
 | none =>
  rw [hlo' rfl] at h
  cases vhi with
  | none =>
   rw [hhi' rfl] at h
   exact ⟨0,len,h,T4 _,Tp _,by simp [Instr.sliceBounds]⟩
  | some v =>
   obtain ⟨x,hx,hr⟩:=hhi v rfl
   rw [hx] at h
   simp only at h
   split at h
   ·cases hr.dint
    refine ⟨0,_,h.2.2,T4 _,by omega,?_⟩
    simp only [Instr.sliceBounds,Sem.run_bind,Sem.run_pure,Result.andThen]
    rw [UP P _ _ cap _ w h.1 (by omega)]
   ·exact h.elim
 | some v =>
  obtain ⟨x,hx,hr⟩:=hlo v rfl
  rw [hx] at h
  cases vhi with
  | none =>
   rw [hhi' rfl] at h
   simp only at h
   split at h
   ·cases hr.dint
    refine ⟨_,len,h.2.2,by omega,Tp _,?_⟩
    simp only [Instr.sliceBounds,Sem.run_bind,Sem.run_pure,Result.andThen]
    rw [UP P _ _ len _ w h.1 h.2.1]
   ·exact h.elim
  | some v2 =>
   obtain ⟨y,hy,hr2⟩:=hhi v2 rfl
   rw [hy] at h
   simp only at h
   split at h
   ·cases hr.dint;cases hr2.dint
    refine ⟨_,_,h.2.2.2,by omega,by omega,?_⟩
    simp only [Instr.sliceBounds,Sem.run_bind,Sem.run_pure,Result.andThen]
    rw [UP P _ _ cap _ w (by omega) (by omega)]
    simp only []
    rw [UP P _ _ _ _ w h.1 (by omega)]
   ·exact h.elim
end
end Go.PM
end

section
namespace Go.PM
section
variable {G:GE} {e:Env} {σ:St} {w:World} {T:Tab}
theorem KindOK.slice {P:Program} {e:Nat} {d:TypeDesc} (h:KindOK P (.slice e) d):d=.slice e:=h
theorem Znx {rows:List (List D)} {v:Value} {a b sz:Nat} (h:DRel (okc e σ) w (.sl rows) v) (hsz:∀r∈rows,r.length=sz) (hab:a≤b) (hb:b≤rows.length) :
  ∃ad cap,v=.slice ad rows.length cap∧rows.length≤cap∧DRel (okc e σ) w (.sl (cut rows a b)) (.slice (if cap=a then ad else ad.map (·.add (a * sz))) (b - a) (cap - a)):=by
 have hlen:(cut rows a b).length=b - a:=by simp [cut];omega
 cases h with
 | slnil =>
  refine ⟨none,0,rfl,Tp _,?_⟩
  have h1:b=0:=by simpa using hb
  have h2:a=0:=by omega
  subst h1;subst h2
  exact .slnil
 | slz ad =>
  refine ⟨some ad,0,rfl,Tp _,?_⟩
  have h1:b=0:=by simpa using hb
  have h2:a=0:=by omega
  subst h1;subst h2
  exact .slz ad
 | sl rows bk off cap sz' u hcap hsz' hc ho hu =>
  refine ⟨some ⟨bk,off,none⟩,cap,rfl,hcap,?_⟩
  by_cases hr:rows=[]
  ·subst hr
   have h1:b=0:=by simpa using hb
   have h2:a=0:=by omega
   subst h1;subst h2
   have hh:DRel (okc e σ) w (.sl (cut ([]:List (List D)) 0 0)) (.slice (some ⟨bk,off,none⟩) ([]:List (List D)).length cap):=.sl [] bk off cap sz' u (T4 _) (fun r h=>by cases h) (fun i j h=>by cases h) (fun i j h=>by cases h) (fun i j x h=>by simp at h)
   split
   ·exact hh
   ·simpa [Z4] using hh
  ·have hss:sz'=sz:=by
    cases rows with
    | nil=>exact absurd rfl hr
    | cons r l=>rw [← hsz' r (by simp),hsz r (by simp)]
   subst hss
   have hg:∀i,i<b - a→(cut rows a b)[i]?=rows[a+i]?:=fun i hi=>by
    simp only [cut,SA,List.getElem?_take]
    rw [Ti (by omega)]
   have main:DRel (okc e σ) w (.sl (cut rows a b)) (.slice (some ⟨bk,off+a * sz',none⟩) (cut rows a b).length (cap - a)):=by
    refine .sl _ bk (off+a * sz') (cap - a) sz' (fun i j=>u (a+i) j) (by rw [hlen];omega) (fun r hr=>hsz' r (List.mem_of_mem_take (List.mem_of_mem_drop hr))) ?_ ?_ ?_
    ·intro i j hi hj
     rw [hlen] at hi
     have:=hc (a+i) j (by omega) hj
     rw [Sh] at this
     rwa [show off+a * sz'+i * sz'+j=off+(a * sz'+i * sz')+j by omega]
    ·intro i j hi hj
     rw [hlen] at hi
     have:=ho (a+i) j (by omega) hj
     rw [Sh] at this
     rwa [show off+a * sz'+i * sz'+j=off+(a * sz'+i * sz')+j by omega]
    ·intro i j x hx
     by_cases hi:i<b - a
     ·rw [hg i hi] at hx;exact hu (a+i) j x hx
     ·rw [Si (by rw [hlen];omega)] at hx;cases hx
   rw [hlen] at main
   split
   ·rename_i hca
    have hba:b=a:=by omega
    subst hba
    have:cut rows b b=[]:=by simp [cut]
    rw [this,Nat.sub_self]
    exact .sl [] bk off (cap - b) sz' u (T4 _) (fun r h=>by cases h) (fun i j h=>by cases h) (fun i j h=>by cases h) (fun i j x h=>by simp at h)
   ·simpa [Z4] using main
theorem Uj {ρ:Operand→PV} {ρ':Operand→Value} (hρ:∀x,VRel G e σ w (ρ x) (ρ' x)) (lo:Option Operand):(∀v,lo.map ρ'=some v→∃x,lo.map ρ=some x∧VRel G e σ w x v)∧(lo.map ρ'=none→lo.map ρ=none):=by
 cases lo with
 | none=>exact ⟨fun v h=>by simp at h,fun _=>rfl⟩
 | some x=>exact ⟨fun v h=>by simp at h;subst h;exact ⟨ρ x,rfl,hρ x⟩,fun h=>by simp at h⟩
theorem Zhq (hT:TabOK T G.P) {K:PV→Prop} {t:TypeId} {px:PV} {vx:Value} (hx:VRel G e σ w px vx) {ρ:Operand→PV} {ρ':Operand→Value} (hρ:∀x,VRel G e σ w (ρ x) (ρ' x)) {lo hi:Option Operand}
  (h:U7 T t px (lo.map ρ) (hi.map ρ) K):∃pv u,K pv∧VRel G e σ w pv u∧(Instr.sliceAt t vx (lo.map ρ') (hi.map ρ') none).run G.P w=.ok u w:=by
 unfold U7 at h
 split at h
 ·rename_i hk
  obtain ⟨i,d,z,hi',hd,hs,hby,hkd,hz,hz2,_⟩:=(hT.get (t:=t) (by rw [hk];simp)).ex
  rw [hk] at hkd;cases hkd
  split at h
  ·rename_i s
   cases hx.dstr
   obtain ⟨l,u,hK,hlu,hul,hrun⟩:=Jb (G:=G) (e:=e) (σ:=σ) (w:=w) (P:=G.P) false (Tp s.length) (Uj hρ lo).1 (Uj hρ lo).2 (Uj hρ hi).1 (Uj hρ hi).2 h
   refine ⟨_,_,hK,.mkstr,?_⟩
   have hsz:(⟨s.toArray⟩:ByteArray).size=s.length:=rfl
   simp only [Instr.sliceAt,Instr.slice,Sem.run_bind,Za hd,Result.andThen,Option.isSome_none,To,if_false,hsz,hrun,Sem.run_pure]
   congr 2
   apply ByteArray.ext
   apply Array.ext'
   simp [cut,ByteArray.data_extract,List.drop_take]
  ·exact h.elim
 ·rename_i el hk
  split at h
  ·exact h.elim
  ·rename_i hk2
   split at h
   ·rename_i rows hrows
    obtain ⟨i,d,z,hi',hd,hs,hby,hkd,hz,hz2,_⟩:=(hT.get (t:=t) (by rw [hk];simp)).ex
    rw [hk] at hkd;cases hkd
    have hD:=VN hrows hx
    obtain ⟨hsz,h⟩:=h
    obtain ⟨ad,cap,rfl,hcap⟩:=hD.sl_inv
    obtain ⟨l,u,hK,hlu,hul,hrun⟩:=Jb (G:=G) (e:=e) (σ:=σ) (w:=w) (P:=G.P) true hcap (Uj hρ lo).1 (Uj hρ lo).2 (Uj hρ hi).1 (Uj hρ hi).2 h
    obtain ⟨ad',cap',hv,_,hR⟩:=Znx hD hsz hlu hul
    cases hv
    obtain ⟨i2,d2,z2,hi2,hd2,hs2,_,_,_,_,_⟩:=(hT.get (t:=el) (fun h0=>hk2 h0)).ex
    refine ⟨_,_,hK,.d _ _ hR,?_⟩
    simp only [Instr.sliceAt,Instr.slice,Sem.run_bind,Za hd,Result.andThen,hrun,Zp hi2,Sem.run_pure,hs2]
   ·exact h.elim
 ·rename_i n el hk
  split at h
  ·exact h.elim
  ·rename_i hk2
   obtain ⟨i2,d2,z2,hi2,hd2,hs2,_,_,_,_,_⟩:=(hT.get (t:=el) (fun h0=>hk2 h0)).ex
   obtain ⟨i,d,z,hi',hd,hs,hby,hkd,hz,hz2,_⟩:=(hT.get (t:=t) (by rw [hk];simp)).ex
   rw [hk] at hkd;cases hkd
   split at h
   ·rename_i b off hlo hhi
    cases hx with
    | ptr _ _ hb =>
     have e1:lo=none:=by cases lo <;> simp_all
     have e2:hi=none:=by cases hi <;> simp_all
     subst e1;subst e2
     refine ⟨_,_,h,.asl b off n hb,?_⟩
     simp only [Instr.sliceAt,Instr.sureAddr,Instr.sliceBounds,Option.map_none,Sem.run_bind,Za hd,Result.andThen,Sem.run_pure,Zp hi2]
     by_cases hn:n=0
     ·subst hn;simp
     ·simp [hn,Z4]
   ·rename_i b off kk a hlo hhi
    obtain ⟨ha0,han,hK⟩:=h
    cases hx with
    | ptr _ _ hb =>
     have e2:hi=none:=by cases hi <;> simp_all
     subst e2
     cases lo with
     | none=>simp at hlo
     | some x0 =>
      have hx0:=hρ x0
      simp only [So,Option.some.injEq] at hlo
      rw [hlo] at hx0
      refine ⟨_,_,hK,.asl b _ _ hb,?_⟩
      have hle:a≤(n:Int):=by omega
      have hne:¬n=a.toNat:=by omega
      simp [Instr.sliceAt,Instr.sureAddr,Instr.sliceBounds,Instr.sliceBound,asIntOf,hx0.dint,Sem.run_bind,Za hd,Result.andThen,Sem.run_pure,Zp hi2,ha0,hle,hne,hs2,Z4]
   ·exact h.elim
 ·exact h.elim
theorem Jt:∀(l acc:List UInt8),(l.map (fun b:UInt8=>(b.toNat:Int))).foldl (fun r n=>r.push (UInt8.ofNat n.toNat)) (⟨acc.toArray⟩:ByteArray)=⟨(acc++l).toArray⟩
 | [],acc=>by simp
 | b::l,acc=>by
  simp only [TA,List.foldl_cons,TF,UInt8.ofNat_toNat]
  have:(⟨acc.toArray⟩:ByteArray).push b=⟨(acc++[b]).toArray⟩:=by
   apply ByteArray.ext;simp [ByteArray.push]
  rw [this,Jt l (acc++[b])]
  simp
theorem Zhr {l:List UInt8} {v:Value} (h:DRel (okc e σ) w (.sl (l.map (fun b=>[.int .u8 b.toNat]))) v):(Conv.bytesToString v).run G.P w=.ok (.string ⟨l.toArray⟩) w:=by
 generalize hr:l.map (fun b:UInt8=>[D.int .u8 b.toNat])=rows at h
 cases h with
 | slnil =>
  have:l=[]:=by simpa using hr
  subst this;rfl
 | slz ad =>
  have:l=[]:=by simpa using hr
  subst this
  exact run_bytesToString (P:=G.P) w ad 0 0 [] (run_loadCells_list (P:=G.P) w ad [] (fun j x hx=>by simp at hx))
 | sl rows b off cap sz u hcap hsz hc ho hu =>
  subst hr
  have hl:=run_bytesToString (P:=G.P) w ⟨b,off,none⟩ (l.map (fun b=>[D.int .u8 b.toNat])).length cap (l.map (fun b:UInt8=>(b.toNat:Int))) ?_
  ·rw [hl]
   congr 2
   exact (Jt l []).trans (by simp)
  ·have:=run_loadCells_list (P:=G.P) w ⟨b,off,none⟩ ((l.map (fun b:UInt8=>(b.toNat:Int))).map (Value.int .u8)) (fun j x hx=>?_)
   ·simpa using this
   ·rw [Z4]
    simp only [TD,TH] at hx
    cases hj:l[j]? with
    | none=>rw [hj] at hx;cases hx
    | some y =>
     rw [hj] at hx
     cases hx
     have hjl:=(Tg.1 hj).1
     have h1:(l.map (fun b:UInt8=>[D.int .u8 b.toNat]))[j]?=some [.int .u8 y.toNat]:=by rw [TH,hj];rfl
     have hs1:sz=1:=(hsz _ (Sd h1)).symm
     subst hs1
     have h2:=hc j 0 (by simpa using hjl) (by omega)
     have h3:=hu j 0 (.int .u8 y.toNat) (by rw [h1];rfl)
     cases h3v:u j 0 <;> rw [h3v] at h3 <;> cases h3
     rw [h3v] at h2
     simpa using h2
theorem ZfU {α:Type}:∀{n:Nat} {l r:List α},Uf n l=some r→∀(j:Nat) (x:α),r[j]?=some x→l[j]?=some x
 | 0,l,r,h,j,x,hx=>by simp only [Uf] at h;cases h;simp at hx
 | n+1,[],r,h,j,x,hx=>by simp [Uf] at h
 | n+1,y::l,r,h,j,x,hx=>by
  simp only [Uf] at h
  split at h
  ·rename_i r' hr'
   cases h
   cases j with
   | zero=>simpa using hx
   | succ j=>simp only [T3] at hx ⊢;exact ZfU hr' j x hx
  ·cases h
theorem Zk6 {b off n:Nat} {tb:TypeId} {cs:List PV} {l:List UInt8} (hb:BRel G e σ w (.cells tb cs) (e.β b)) (htk:Uf n (cs.drop off)=some (l.map fun b=>.d (.int .u8 b.toNat))) (hln:l.length=n) :
  (Conv.bytesToString (.slice (some ⟨e.β b,off,none⟩) n n)).run G.P w=.ok (.string ⟨l.toArray⟩) w:=by
 obtain ⟨vs,hv1,hv2,hv3⟩:=hb
 have hl:=run_bytesToString (P:=G.P) w ⟨e.β b,off,none⟩ n n (l.map (fun b:UInt8=>(b.toNat:Int))) ?_
 ·rw [hl]
  congr 2
  exact (Jt l []).trans (by simp)
 ·have:=run_loadCells_list (P:=G.P) w ⟨e.β b,off,none⟩ ((l.map (fun b:UInt8=>(b.toNat:Int))).map (Value.int .u8)) (fun j x hx=>?_)
  ·rw [← hln];simpa using this
  ·rw [Z4]
   simp only [TD,TH] at hx
   cases hj:l[j]? with
   | none=>rw [hj] at hx;cases hx
   | some y =>
    rw [hj] at hx
    cases hx
    have h1:=ZfU htk j (.d (.int .u8 y.toNat)) (by rw [TH,hj];rfl)
    rw [SA] at h1
    have hlt:off+j<vs.size:=by
     have:=(Tg.1 h1).1
     rw [hv2];exact this
    have hvj:=Tx hlt
    have h2:=(hv3 (off+j) _ _ h1 hvj).1
    have h3:=h2.dint
    simp only [World.cell?,hv1,hvj,h3]
    rfl
theorem Zk7 (hT:TabOK T G.P) (hS:SRel G e σ w) {K:PV→Prop} {ρ:Operand→PV} {ρ':Operand→Value} (hρ:∀x,VRel G e σ w (ρ x) (ρ' x)) (o:Oper) (h:qop T o.op o.type ρ σ.bx K) :
  ∃pv v,K pv∧VRel G e σ w pv v∧(execOp ρ' o).run G.P w=.ok (.value v) w:=by
 have mv:∀x:Operand,(match ρ x with
  | .nils _=>match (T.get o.type).kind with | .slice e=>K (.nils e) | _=>K (.nils 0)
  | v=>K v)→∃pv,K pv∧VRel G e σ w pv (ρ' x):=by
  intro x hx
  have hr:=hρ x
  split at hx
  ·rename_i el heq
   rw [heq] at hr
   generalize ρ' x=v at hr ⊢
   cases hr
   split at hx
   ·exact ⟨_,hx,.nils _⟩
   ·exact ⟨_,hx,.nils _⟩
  ·exact ⟨_,hx,hr⟩
 unfold execOp
 unfold qop at h
 split at h
 ·rename_i x ho
  obtain ⟨pv,hK,hr⟩:=mv x h
  exact ⟨pv,_,hK,hr,by simp only [ho,Sem.run_pure]⟩
 ·rename_i x ho
  obtain ⟨pv,hK,hr⟩:=mv x h
  exact ⟨pv,_,hK,hr,by simp only [ho,Sem.run_pure]⟩
 ·rename_i c a b ho
  have hc:=hρ c
  split at h
  ·rename_i t heq
   rw [heq] at hc
   have hcb:=hc.dbool
   cases t with
   | true=>exact ⟨_,_,h,hρ a,by simp [ho,hcb,asBool]⟩
   | false=>exact ⟨_,_,h,hρ b,by simp [ho,hcb,asBool]⟩
  ·exact h.elim
 ·rename_i t ps ho
  split at h
  ·rename_i fs hk
   obtain ⟨i,d,z,hi,hd,hs,hby,hkd,hz,hz2,_⟩:=(hT.get (t:=t) (by rw [hk];simp)).ex
   rw [hk] at hkd
   obtain ⟨gs,rfl,hf⟩:=hkd
   obtain ⟨hzl,hzr⟩:=Ww (G:=G) (e:=e) (σ:=σ) (w:=w) hz2
   have hplaces:∀(l:List Field) (m:List (Nat×Nat)),FieldsOK G.P m l→∃pl:List (Nat×Nat),(l.mapM fun f=>(do pure (f.offset,← sizeOf f.type):Sem (Nat×Nat))).run G.P w=.ok pl w∧∀(i:Nat) (f:Field) (j:TypeInfo),l[i]?=some f→G.P.info? f.type=some j→pl[i]?=some (f.offset,j.size):=by
    intro l m hm
    induction hm with
    | nil=>exact ⟨[],rfl,fun i f j h=>by simp at h⟩
    | cons o t l f m i' ho ht hi' hs' _ ih =>
     obtain ⟨pl,h1,h2⟩:=ih
     have hft:G.P.info? f.type=some i':=by rw [ht];exact hi'
     refine ⟨(f.offset,i'.size)::pl,?_,fun k g j hg hj=>?_⟩
     ·simp only [List.mapM_cons,Sem.run_bind,Zp hft,Result.andThen,Sem.run_pure,h1]
     ·cases k with
      | zero=>simp at hg;subst hg;rw [hft] at hj;cases hj;rfl
      | succ k=>simpa using h2 k g j (by simpa using hg) hj
   obtain ⟨pl,hpl1,hpl2⟩:=hplaces gs.toList fs hf
   obtain ⟨cs',vs',hK,hfill,hs',hr'⟩:=ZaJ hT hf hρ (fun i=>pl[i]?) hpl2 ps.toList (T.get t).zero z.cells (by simpa using hzl) (fun i x u hx hu=>hzr i x u hx (by simpa using hu)) h
   refine ⟨_,_,hK,.agg _ vs' hs' (fun i x u hx hu=>(hr' i x u hx hu).1) (fun u hu=>?_),?_⟩
   ·exact m113
   ·have hm:(gs.mapM fun f=>(do pure (f.offset,← sizeOf f.type):Sem (Nat×Nat))).run G.P w=.ok pl.toArray w:=by
     rw [Array.mapM_eq_mapM_toList]
     simp only [Sem.run_map,hpl1,Result.andThen]
    simp only [ho,Instr.build,zeroValue,Sem.run_bind,Z3 hi,Result.andThen,hz,Sem.run_pure,Za hd]
    rw [hm]
    have hfill':Instr.fill (pl.toArray[·]?) z.cells ((ps.map fun p=>(p.1,ρ' p.2)).toList)=some vs':=by
     rw [← hfill]
     simp
    simp only [Result.andThen]
    exact m119
  ·rename_i n el hk
   obtain ⟨i,d,z,hi,hd,hs,hby,hkd,hz,hz2,_⟩:=(hT.get (t:=t) (by rw [hk];simp)).ex
   rw [hk] at hkd
   cases hkd
   split at h
   ·exact h.elim
   ·rename_i hk2
    split at h
    ·rename_i hb1
     have hb1:=Tb hb1
     obtain ⟨ie,de,ze,hie,hde,hse,_⟩:=(hT.get (t:=el) (fun h0=>hk2 h0)).ex
     obtain ⟨hzl,hzr⟩:=Ww (G:=G) (e:=e) (σ:=σ) (w:=w) hz2
     have hgs:∀m i0,FieldsOK G.P (ZpE (T.get el).size el m i0) ((List.range' i0 m).map fun k=>({ (default:Field) with type:=el,offset:=k * (T.get el).size }:Field)):=by
      intro m
      induction m with
      | zero=>exact fun _=>.nil
      | succ m ih=>exact fun i0=>.cons _ _ _ _ _ ie rfl rfl hie (by rw [hse];exact hb1) (ih (i0+1))
     have hpl:∀(i:Nat) (f:Field) (j:TypeInfo),((List.range' 0 n).map fun k=>({ (default:Field) with type:=el,offset:=k * (T.get el).size }:Field))[i]?=some f→G.P.info? f.type=some j→(fun i=>some (i * ie.size,ie.size)) i=some (f.offset,j.size):=by
      intro i f j hf hj
      have hil:i<n:=by have:=(Tg.1 hf).1;simpa using this
      simp [List.getElem?_range',hil] at hf
      subst hf
      simp only at hj
      rw [hie] at hj;cases hj
      simp [hse]
     obtain ⟨cs',vs',hK,hfill,hs',hr'⟩:=ZaJ hT (hgs n 0) hρ (fun i=>some (i * ie.size,ie.size)) hpl ps.toList (T.get t).zero z.cells (by simpa using hzl) (fun i x u hx hu=>hzr i x u hx (by simpa using hu)) h
     refine ⟨_,_,hK,.agg _ vs' hs' (fun i x u hx hu=>(hr' i x u hx hu).1) (fun u hu=>?_),?_⟩
     ·exact m113
     ·simp only [ho,Instr.build,zeroValue,Sem.run_bind,Z3 hi,Result.andThen,hz,Sem.run_pure,Za hd,Zp hie]
      have hfill':Instr.fill (fun i=>some (i * ie.size,ie.size)) z.cells ((ps.map fun p=>(p.1,ρ' p.2)).toList)=some vs':=by
       rw [← hfill]
       simp
      exact m119
    ·exact h.elim
  ·exact h.elim
 ·rename_i t a ho
  obtain ⟨pv,u,hK,hr,hrun⟩:=Zd8 hT hS (hρ a) h
  exact ⟨pv,u,hK,hr,by simp only [ho,Sem.run_bind,hrun,Result.andThen,Sem.run_pure]⟩
 ·rename_i x ho
  have hx:=hρ x
  split at h
  ·rename_i b off heq;rw [heq] at hx
   exact m103
  ·rename_i r off heq;rw [heq] at hx
   exact m103
  ·rename_i g a c heq;rw [heq] at hx
   exact m103
  ·exact h.elim
 ·rename_i op t x y yt ho
  obtain ⟨pv,u,hK,hr,hrun⟩:=ZjE hT (hρ x) (hρ y) h
  exact ⟨pv,u,hK,hr,by simp only [ho];rw [Sem.run_bind,hrun];rfl⟩
 ·rename_i op t x ho
  have hx:=hρ x
  split at h
  ·rename_i b heq;rw [heq] at hx
   exact ⟨_,_,h,.mkbool,by simp [ho,hx.dbool,Op.unary]⟩
  ·rename_i k a heq;rw [heq] at hx
   obtain ⟨pv,h1,h2⟩:=Js (G:=G) (e:=e) (σ:=σ) (w:=w) h
   exact ⟨_,_,h1,h2,by simp [ho,hx.dint,Op.unary,Op.intArith]⟩
  ·rename_i k a heq;rw [heq] at hx
   exact ⟨_,_,h,.mkint,by simp [ho,hx.dint,Op.unary,J1]⟩
  ·exact h.elim
 ·rename_i s d x ho
  have hx:=hρ x
  split at h
  ·exact h.elim
  ·rename_i el hk
   obtain ⟨i,ds,z,hi,hd,hs,hby,hkd,hz,hz2,_⟩:=(hT.get (t:=s) (by rw [hk];simp)).ex
   rw [hk] at hkd;cases hkd
   split at h
   ·rename_i hk2
    obtain ⟨i2,dd,z2,hi2,hd2,hs2,hby2,hkd2,hz2,hz22,_⟩:=(hT.get (t:=d) (by rw [hk2];simp)).ex
    rw [hk2] at hkd2;cases hkd2
    split at h
    ·rename_i hk3
     obtain ⟨i3,de,z3,hi3,hd3,hs3,hby3,hkd3,hz3,hz33,_⟩:=(hT.get (t:=el) (by rw [hk3];simp)).ex
     rw [hk3] at hkd3;cases hkd3
     split at h
     ·rename_i rows hrows
      obtain ⟨l,rfl,hK⟩:=h
      have hD:=VN hrows hx
      have hb:=Zhr (G:=G) hD
      refine ⟨_,_,hK,.mkstr,?_⟩
      obtain ⟨a,cap,hv,_⟩:=hD.sl_inv
      simp only [ho,convert,Sem.run_bind,Za hd,Za hd2,Result.andThen]
      rw [hv] at hb ⊢
      simp only [Za hd3,Sem.run_bind,Result.andThen,hb,Sem.run_pure]
     ·exact h.elim
    ·exact h.elim
   ·exact h.elim
  ·rename_i hk1 hk2
   obtain ⟨i,ds,z,hi,hd,hs,hby,hkd,hz,hz2,_⟩:=(hT.get (t:=s) (fun h0=>hk1 h0)).ex
   split at h
   ·rename_i k hkk
    obtain ⟨i2,dd,z2,hi2,hd2,hs2,hby2,hkd2,hz2,hz22,_⟩:=(hT.get (t:=d) (by rw [hkk];simp)).ex
    rw [hkk] at hkd2;cases hkd2
    split at h
    ·rename_i k' n heq;rw [heq] at hx
     obtain ⟨pv,h1,h2⟩:=Js (G:=G) (e:=e) (σ:=σ) (w:=w) h
     refine ⟨_,_,h1,h2,?_⟩
     simp only [ho,hx.dint,convert,Sem.run_bind,Za hd,Za hd2,Result.andThen]
     rfl
    ·exact h.elim
   ·rename_i hkk
    obtain ⟨i2,dd,z2,hi2,hd2,hs2,hby2,hkd2,hz2,hz22,_⟩:=(hT.get (t:=d) (by rw [hkk];simp)).ex
    rw [hkk] at hkd2;cases hkd2
    split at h
    ·rename_i s' heq;rw [heq] at hx
     refine ⟨_,_,h,.mkstr,?_⟩
     simp only [ho,hx.dstr,convert,Sem.run_bind,Za hd,Za hd2,Result.andThen]
     rfl
    ·rename_i k' n heq;rw [heq] at hx
     refine ⟨_,_,h,.mkstr,?_⟩
     simp only [ho,hx.dint,convert,Sem.run_bind,Za hd,Za hd2,Result.andThen]
     simp [Conv.intToString]
    ·exact h.elim
   ·exact h.elim
 ·rename_i s x i ho
  have hx:=hρ x
  split at h
  ·rename_i fs hk
   obtain ⟨ti,d,z,hi,hd,hs,hby,hkd,hz,hz2,_⟩:=(hT.get (t:=s) (by rw [hk];simp)).ex
   rw [hk] at hkd
   obtain ⟨gs,rfl,hf⟩:=hkd
   split at h
   ·rename_i off t hfi
    obtain ⟨f,j,hg,ho',ht,hj,hjs⟩:=hf.get hfi
    have hg':gs[i]?=some f:=by simpa using hg
    have hfp:∀(b oo:Nat),(fieldPlace ⟨b,oo,none⟩ f).run G.P w=.ok ⟨b,oo+off,none⟩ w:=fun b oo=>by
     exact m117
    split at h
    ·rename_i b oo heq;rw [heq] at hx
     generalize hv:ρ' x=v at hx
     cases hx with
     | ptr b oo hb =>
      refine ⟨_,_,h,.ptr b (oo+off) hb,?_⟩
      simp [ho,hv,Instr.fieldAt,Za hd,hg',Instr.sureAddr,hfp]
    ·rename_i r oo heq;rw [heq] at hx
     generalize hv:ρ' x=v at hx
     cases hx with
     | elem r oo b o2 u hc hok hu =>
      refine ⟨_,_,h,.elem r (oo+off) b o2 u hc hok hu,?_⟩
      simp [ho,hv,Instr.fieldAt,Za hd,hg',Instr.sureAddr,hfp,Sg]
    ·exact h.elim
   ·exact h.elim
  ·exact h.elim
 ·rename_i s x i ho
  have hx:=hρ x
  split at h
  ·rename_i fs hk
   obtain ⟨ti,d,z,hi,hd,hs,hby,hkd,hz,hz2,_⟩:=(hT.get (t:=s) (by rw [hk];simp)).ex
   rw [hk] at hkd
   obtain ⟨gs,rfl,hf⟩:=hkd
   split at h
   ·rename_i off t hfi
    obtain ⟨f,j,hg,ho',ht,hj,hjs⟩:=hf.get hfi
    have hg':gs[i]?=some f:=by simpa using hg
    split at h
    ·rename_i cs heq;rw [heq] at hx
     generalize hv:ρ' x=v at hx
     cases hx with
     | agg cs vs hsz hr h1 =>
      split at h
      ·rename_i hka
       obtain ⟨i2,d2,z2,hi2,hd2,hs2,_,hkd2,_,_,_⟩:=(hT.get (t:=t) (by intro h0;rw [h0] at hka;cases hka)).ex
       split at h
       ·rename_i l hl
        obtain ⟨hll,hlg⟩:=Vl hl
        have hb:∀k,k<l.length→off+k<vs.size∧cs[off+k]?=l[k]?:=fun k hk=>by
         exact m125
        refine ⟨_,.agg (vs.extract off (off+j.size)),h,.agg l _ ?_ ?_ ?_,?_⟩
        ·have hj2:j.size=l.length:=by rw [hj] at hi2;cases hi2;omega
         simp only [Array.size_extract,hj2]
         by_cases hl0:l.length=0
         ·omega
         ·have:=(hb (l.length - 1) (by omega)).1;omega
        ·intro k y u hy hu
         exact m110
        ·intro u hu
         exact m133
        ·have hia:=UO hkd2 hd2 w
         rw [hka] at hia
         subst ht
         simp [ho,hv,Instr.field,Za hd,hg',asAgg,part,hia,Zp hj,ho']
       ·exact h.elim
      ·rename_i hka
       split at h
       ·exact h.elim
       ·rename_i hk2
        obtain ⟨i2,d2,z2,hi2,hd2,hs2,_,hkd2,_,_,_⟩:=(hT.get (t:=t) (fun h0=>hk2 h0)).ex
        split at h
        ·rename_i y hy
         have hlt:off<vs.size:=by rw [hsz];exact (Tg.1 hy).1
         have hvo:vs[off]?=some vs[off]:=Tx hlt
         have hia:=UO hkd2 hd2 w
         rw [hka] at hia
         subst ht
         exact ⟨_,vs[off],h,hr off y _ hy hvo,by simp [ho,hv,Instr.field,Za hd,hg',asAgg,part,hia,ho',hvo]⟩
        ·exact h.elim
    ·exact h.elim
   ·exact h.elim
  ·exact h.elim
 ·rename_i t x i ho
  have hx:=hρ x
  have hi:=hρ i
  split at h
  ·rename_i k n heq;rw [heq] at hi
   have hiv:=hi.dint
   split at h
   ·rename_i hk
    obtain ⟨ti,d,z,hti,hd,hs,hby,hkd,hz,hz2,_⟩:=(hT.get (t:=t) (by rw [hk];simp)).ex
    rw [hk] at hkd;cases hkd
    split at h
    ·rename_i s heq2;rw [heq2] at hx
     have hxv:=hx.dstr
     obtain ⟨h0,h1,hK⟩:=h
     have hlt:n.toNat<s.length:=by omega
     have hb:(⟨s.toArray⟩:ByteArray)[n.toNat]?=some (s[n.toNat]):=by
      rw [getElem?_pos (h:=(by show n.toNat<s.length;exact hlt))]
      rfl
     refine ⟨_,_,hK,.mkint,?_⟩
     simp [ho,hxv,hiv,Instr.index,XV,Za hd,h0,hb,List.getD,Th hlt]
    ·exact h.elim
   ·rename_i m el hk
    obtain ⟨ti,d,z,hti,hd,hs,hby,hkd,hz,hz2,_⟩:=(hT.get (t:=t) (by rw [hk];simp)).ex
    rw [hk] at hkd;cases hkd
    split at h
    ·rename_i cs heq2;rw [heq2] at hx
     generalize hv:ρ' x=v at hx
     cases hx with
     | agg cs vs hsz hr h1 =>
      split at h
      ·rename_i hka
       obtain ⟨i2,d2,z2,hi2,hd2,hs2,_,hkd2,_,_,_⟩:=(hT.get (t:=el) (by intro h0;rw [h0] at hka;cases hka)).ex
       split at h
       ·rename_i l hl
        obtain ⟨g0,g1,h⟩:=h
        obtain ⟨hll,hlg⟩:=Vl hl
        obtain ⟨off,hoff⟩:∃off,off=n.toNat * (T.get el).size:=⟨_,rfl⟩
        rw [← hoff] at hlg
        have hb:∀k,k<l.length→off+k<vs.size∧cs[off+k]?=l[k]?:=fun k hk=>by
         exact m125
        refine ⟨_,.agg (vs.extract off (off+i2.size)),h,.agg l _ ?_ ?_ ?_,?_⟩
        ·have hj2:i2.size=l.length:=by omega
         simp only [Array.size_extract,hj2]
         by_cases hl0:l.length=0
         ·have:=hs2;have hsz1:1≤l.length∨l.length=0:=by omega
          have hle:off≤vs.size∨vs.size<off:=by omega
          omega
         ·have:=(hb (l.length - 1) (by omega)).1;omega
        ·intro k y u hy hu
         exact m110
        ·intro u hu
         exact m133
        ·have hia:=UO hkd2 hd2 w
         rw [hka] at hia
         simp [ho,hv,hiv,Instr.index,XV,Za hd,g0,g1,part,hia,Zp hi2,hoff,hs2]
       ·exact h.elim
      ·rename_i hka
       split at h
       ·exact h.elim
       ·rename_i hk2
        obtain ⟨i2,d2,z2,hi2,hd2,hs2,_,hkd2,_,_,_⟩:=(hT.get (t:=el) (fun h0=>hk2 h0)).ex
        split at h
        ·rename_i hsz1
         have hs1:=Tm hsz1
         split at h
         ·rename_i y hy
          obtain ⟨h0,hm,hK⟩:=h
          have hlt:n.toNat<vs.size:=by rw [hsz];exact (Tg.1 hy).1
          have hvo:vs[n.toNat]?=some vs[n.toNat]:=Tx hlt
          have hia:=UO hkd2 hd2 w
          rw [hka] at hia
          have hi1:i2.size=1:=by omega
          exact ⟨_,vs[n.toNat],hK,hr n.toNat y _ hy hvo,by simp [ho,hv,hiv,Instr.index,XV,Za hd,h0,hm,part,hia,Zp hi2,hi1,hvo]⟩
         ·exact h.elim
        ·exact h.elim
    ·exact h.elim
   ·exact h.elim
  ·exact h.elim
 ·rename_i t x i ho
  have hx:=hρ x
  have hi:=hρ i
  split at h
  ·rename_i k n heq;rw [heq] at hi
   have hiv:=hi.dint
   split at h
   ·rename_i el hk
    obtain ⟨ti,d,z,hti,hd,hs,hby,hkd,hz,hz2,_⟩:=(hT.get (t:=t) (by rw [hk];simp)).ex
    rw [hk] at hkd;cases hkd
    split at h
    ·exact h.elim
    ·rename_i hk2
     obtain ⟨i2,d2,z2,hi2,hd2,hs2,_,hkd2,_,_,_⟩:=(hT.get (t:=el) (fun h0=>hk2 h0)).ex
     split at h
     ·rename_i b off m heqx
      obtain ⟨h0,hn',hK⟩:=h
      rw [heqx] at hx
      generalize hv:ρ' x=vx at hx
      cases hx with
      | asl _ _ _ hb =>
       refine ⟨_,_,hK,.ptr b (off+n.toNat * (T.get el).size) hb,?_⟩
       simp [ho,hv,hiv,Instr.indexAt,XV,Za hd,h0,hn',Zp hi2,Z4,hs2]
     split at h
     ·rename_i rows hrows
      obtain ⟨r,h0,hr,hK⟩:=h
      split at hK
      ·rename_i hlen
       have hl:=Tm hlen
       obtain ⟨b,off,cap,u,hv,hn,hc,hok,hu⟩:=ZyF (VN hrows hx) hr
       refine ⟨_,_,hK,.elem r 0 b (off+n.toNat * r.length) u hc hok hu,?_⟩
       have hn':n<(rows.length:Int):=by omega
       simp [ho,hv,hiv,Instr.indexAt,XV,Za hd,h0,hn',Zp hi2,Z4,hs2,hl]
      ·exact hK.elim
     ·exact h.elim
   ·rename_i m el hk
    obtain ⟨ti,d,z,hti,hd,hs,hby,hkd,hz,hz2,_⟩:=(hT.get (t:=t) (by rw [hk];simp)).ex
    rw [hk] at hkd;cases hkd
    split at h
    ·exact h.elim
    ·rename_i hk2
     obtain ⟨i2,d2,z2,hi2,hd2,hs2,_,hkd2,_,_,_⟩:=(hT.get (t:=el) (fun h0=>hk2 h0)).ex
     split at h
     ·rename_i b off heqx
      obtain ⟨h0,hn',hK⟩:=h
      rw [heqx] at hx
      generalize hv:ρ' x=vx at hx
      cases hx with
      | ptr _ _ hb =>
       refine ⟨_,_,hK,.ptr b (off+n.toNat * (T.get el).size) hb,?_⟩
       simp [ho,hv,hiv,Instr.indexAt,Instr.sureAddr,XV,Za hd,h0,hn',Zp hi2,Z4,hs2]
     ·exact h.elim
   ·exact h.elim
  ·exact h.elim
 ·rename_i t x lo hi ho
  obtain ⟨pv,u,hK,hr,hrun⟩:=Zhq hT (hρ x) hρ h
  exact ⟨pv,u,hK,hr,by simp only [ho,Option.map_none,Sem.run_bind,hrun,Result.andThen,Sem.run_pure]⟩
 ·rename_i x i ho
  have hx:=hρ x
  split at h
  ·rename_i cs heq;rw [heq] at hx
   generalize hv:ρ' x=v at hx
   cases hx with
   | tuple cs vs hsz hr =>
    split at h
    ·rename_i y hy
     have hlt:i<vs.size:=by rw [hsz];exact (Tg.1 hy).1
     have hvo:vs[i]?=some vs[i]:=Tx hlt
     exact ⟨_,vs[i],h,hr i y _ hy hvo,by simp [ho,hv,Instr.extract,hvo]⟩
    ·exact h.elim
  ·exact h.elim
 ·rename_i g a c ho
  refine ⟨_,_,h,.func g _ _ (a.map ρ') (c.map ρ') (by simp) (by simp) ?_ ?_,by simp [ho,Instr.makeFunc]⟩
  ·intro i x u hx hu
   rw [TH] at hx
   rw [Array.getElem?_map] at hu
   cases hq:a[i]? with
   | none=>rw [hq] at hu;cases hu
   | some q =>
    exact m130
  ·intro i x u hx hu
   rw [TH] at hx
   rw [Array.getElem?_map] at hu
   cases hq:c[i]? with
   | none=>rw [hq] at hu;cases hu
   | some q =>
    exact m130
 ·rename_i t x ho
  split at h
  ·exact h.elim
  ·exact h.elim
  ·rename_i hk1 hk2
   obtain ⟨ti,d,z,hti,hd,hs,hby,hkd,hz,hz2,_⟩:=(hT.get (t:=t) (fun h0=>hk2 h0)).ex
   refine ⟨_,_,h,.iface t _ _ (hρ x),?_⟩
   have:∀ms,d≠.interface ms:=fun ms h0=>by
    exact m96
   simp only [ho,Instr.makeInterface,Sem.run_bind,Za hd,Result.andThen]
   cases d <;> first | rfl | exact absurd rfl (this _)
 ·rename_i x xt t ho
  split at h
  ·exact h.elim
  ·exact h.elim
  ·rename_i hk1 hk2
   obtain ⟨ti,d,z,hti,hd,hs,hby,hkd,hz,hz2,_⟩:=(hT.get (t:=t) (fun h0=>hk2 h0)).ex
   have this:∀ms,d≠.interface ms:=fun ms h0=>by
    exact m96
   have hx:=hρ x
   split at h
   ·rename_i t' pv heq
    split at h
    ·rename_i hb
     cases Tm hb
     rw [heq] at hx
     generalize hv:ρ' x=vv at hx
     cases hx with
     | iface _ _ u hu =>
      refine ⟨_,.tuple #[u,.bool true],h,.tuple _ _ rfl (fun i p q hp hq=>?_),?_⟩
      ·match i with
       | 0=>cases hp;cases hq;exact hu
       | 1=>cases hp;cases hq;exact .mkbool
       | n+2=>simp at hp
      ·simp only [ho,hv,Instr.typeAssert,Sem.run_bind,Za hd,Result.andThen]
       cases d <;> first | exact absurd rfl (this _) | simp
    ·exact h.elim
   ·exact h.elim
 ·rename_i b args argTypes ho
  have hargs:∀vs,args.toList.map ρ=vs→∃us:List Value,(args.map ρ').toList=us∧us.length=vs.length∧∀(i:Nat) (x:PV) (u:Value),vs[i]?=some x→us[i]?=some u→VRel G e σ w x u:=fun vs hvs=>by
   refine ⟨_,rfl,by rw [← hvs];simp,fun i x u hx hu=>?_⟩
   rw [← hvs,TH] at hx
   rw [Array.toList_map,TH] at hu
   cases hq:args.toList[i]? with
   | none=>rw [hq] at hx;cases hx
   | some q=>rw [hq] at hx hu;cases hx;cases hu;exact hρ q
  split at h
  ·rename_i t ts v hts hvs
   obtain ⟨us,hus,hlen,hr⟩:=hargs _ hvs
   have hat:argTypes[0]?=some t:=by rw [← Tu,hts];rfl
   cases us with
   | nil=>cases hlen
   | cons u us2 =>
    cases us2 with
    | cons _ _=>simp at hlen
    | nil =>
     have hu:=hr 0 v u rfl rfl
     have ha0:(args.map ρ')[0]?=some u:=by rw [← Tu,hus];rfl
     split at h
     ·rename_i hk
      obtain ⟨ti,d,z,hti,hd,hs,hby,hkd,hz,hz2,_⟩:=(hT.get (t:=t) (by rw [hk];simp)).ex
      rw [hk] at hkd;cases hkd
      split at h
      ·rename_i s
       have hus:=hu.dstr
       subst hus
       exact m64
      ·exact h.elim
     ·rename_i el hk
      obtain ⟨ti,d,z,hti,hd,hs,hby,hkd,hz,hz2,_⟩:=(hT.get (t:=t) (by rw [hk];simp)).ex
      rw [hk] at hkd;cases hkd
      split at h
      ·rename_i b off m
       cases hu with
       | asl _ _ _ hb =>
        exact m64
      split at h
      ·rename_i rows hrows
       obtain ⟨a,cap,hv,_⟩:=(VN hrows hu).sl_inv
       subst hv
       exact m64
      ·exact h.elim
     ·exact h.elim
  ·rename_i k a k' b hvs
   obtain ⟨us,hus,hlen,hr⟩:=hargs _ hvs
   split at h
   ·rename_i hkk
    cases Zci hkk
    match us,hlen with
    | [u1,u2],_ =>
     have h1:=(hr 0 _ u1 rfl rfl).dint
     have h2:=(hr 1 _ u2 rfl rfl).dint
     subst h1;subst h2
     refine ⟨_,_,h,.mkint,?_⟩
     simp only [ho,resolve,invoke,builtin,Sem.run_bind,Sem.run_pure,Result.andThen,Builtin.min_,hus]
     have:min a b=(if b<a then b else a):=by split <;> omega
     rw [this]
     rfl
   ·exact h.elim
  ·rename_i k a k' b hvs
   obtain ⟨us,hus,hlen,hr⟩:=hargs _ hvs
   split at h
   ·rename_i hkk
    cases Zci hkk
    match us,hlen with
    | [u1,u2],_ =>
     have h1:=(hr 0 _ u1 rfl rfl).dint
     have h2:=(hr 1 _ u2 rfl rfl).dint
     subst h1;subst h2
     refine ⟨_,_,h,.mkint,?_⟩
     simp only [ho,resolve,invoke,builtin,Sem.run_bind,Sem.run_pure,Result.andThen,Builtin.max_,hus]
     have:max a b=(if b>a then b else a):=by split <;> omega
     rw [this]
     rfl
   ·exact h.elim
  ·exact h.elim
 ·exact h.elim
end
end Go.PM
end
