/- A part of the proof: plain logic, contracts and laws over the given program. -/
import Derived.Lib.MapLaws
import Derived.Test.YtflgockgjnddnaaGreatDoorRows
import Derived.Test.YtflgockgjnddnaaGreatDoorTie
import Derived.Test.YtflgockgjnddnaaGreatDoorCards
import Derived.ProofKit
import Derived.OpenShut
import Derived.LaidMore
import Derived.Lay
import Derived.LaidSub
import Derived.SevenTiedAt
import Derived.Stop.Joined
import Derived.Stop.LaidErr
import Derived.Lib.LaidU8T
import Derived.Lib.LaidTab
import Derived.JoinedOf
import Derived.Deep.Slices
import Derived.ChangeArms
import Derived.DataReads
import Derived.Test.YtflgockgjnddnaaGreatDoorV10
set_option linter.unusedVariables false
set_option linter.unusedSimpArgs false
set_option linter.all false
set_option maxRecDepth 100000
set_option maxHeartbeats 16000000
section
namespace Go.PM.Lex
open Go.Proofs
abbrev Fit {α:Type} (sz:α→Nat) (P:Ts→R α):Prop:=∀ts v ts',P ts=.ok v ts'→sz v+4 * ts'.length≤4 * ts.length
theorem UZ {ts:Ts} {ws:List Bs} (h:isW ts ws=true):ts.tail.length+1=ts.length:=by obtain ⟨t,l,rfl⟩:=Zvz h;rfl
theorem Zui {ts:Ts} (h:ZF ts=true):ts.tail.length+1=ts.length:=by
 cases ts with
 | nil=>exact absurd rfl (ZeL h)
 | cons t l=>rfl
theorem Ztn (ts:Ts):ts.tail.length≤ts.length:=by rw [List.length_tail];omega
theorem Xc {w:Bs} {ts ts':Ts} {u:Unit} (h:Z0 w ts=.ok u ts'):ts'.length+1=ts.length:=by
 unfold Z0 at h
 split at h
 ·rename_i hc;cases h;exact UZ hc
 ·cases h
theorem YS {ts ts':Ts} {v:Bs} (h:Xw ts=.ok v ts'):ts'.length+1=ts.length:=by
 unfold Xw at h
 split at h
 ·rename_i hc;cases h;exact Zui hc
 ·cases h
theorem X6 {α:Type} {d:Nat} {fr tw:Bs} {read:Ts→R α} {ts ts':Ts} {v:α} (h:Zo d fr tw read ts=.ok v ts'):∃t1,read ts.tail=.ok v t1∧ts.tail.length+1=ts.length∧ts'.length≤t1.length:=by
 unfold Zo at h
 split at h
 ·rename_i hc
  split at h
  ·cases h
  ·obtain ⟨a,t1,h1,h2⟩:=ZEc h
   split at h2
   ·cases h2;exact ⟨_,h1,UZ hc,Tr _⟩
   ·obtain ⟨u,t2,h3,h4⟩:=ZEc h2
    cases h4
    have:=Xc h3
    exact ⟨_,h1,UZ hc,by omega⟩
 ·cases h
theorem Yo {α:Type} (f:α→Nat) (x:α):∀l:List α,szS f (l++[x])=szS f l+(1+f x)
 | []=>by simp only [To,szS];omega
 | y::l=>by simp only [Tm,szS,Yo f x l];omega
theorem ZgQ {α:Type} {sz:α→Nat} {sign:Bs} {most:Nat} {st:Ts→Bool} {one:Ts→R α} (h1:Fit (fun x=>1+sz x) one):∀f l ts v ts',XB sign most st one f l ts=.ok v ts'→szS sz v+4 * ts'.length≤szS sz l+4 * ts.length
 | 0,_,_,_,_,h=>by cases h
 | f+1,l,ts,v,ts',h=>by
  rw [XB] at h
  split at h
  ·cases h
  ·obtain ⟨x,t1,h2,h3⟩:=ZEc h
   have k:=h1 _ _ _ h2
   dsimp only at k
   split at h3
   ·rename_i hc
    have k2:=ZgQ h1 f _ _ _ _ h3
    have k3:=UZ hc
    rw [Yo] at k2
    omega
   ·cases h3
    rw [Yo]
    omega
theorem ZaE {α:Type} {sz:α→Nat} {sign:Bs} {most:Nat} {st:Ts→Bool} {one:Ts→R α} (h1:Fit (fun x=>1+sz x) one):Fit (szS sz) (Wf sign most st one):=fun ts v ts' h=>by
 have:=ZgQ h1 _ _ _ _ _ h
 simpa [szS] using this
theorem Zrr:Fit (fun x=>1+sz0 (α:=Fi) x) VH:=fun ts v ts' h=>by
 obtain ⟨a,t1,h1,h⟩:=ZEc h
 obtain ⟨_,t2,h2,h⟩:=ZEc h
 obtain ⟨b,t3,h3,h⟩:=ZEc h
 cases h
 have:=YS h1;have:=Xc h2;have:=YS h3
 simp only [sz0];omega
theorem Zrs:Fit (fun x=>1+sz0 (α:=Bs) x) Xw:=fun ts v ts' h=>by
 have:=YS h
 simp only [sz0];omega
theorem Zdd (fin:Bs):Fit (szS sz0) (W9 fin):=fun ts v ts' h=>by
 unfold W9 at h
 split at h
 ·cases h;simp [szS]
 ·exact ZaE Zrr _ _ _ h
theorem ZfA:Fit (szS sz0) JE:=fun ts v ts' h=>by
 unfold JE at h
 split at h
 ·rename_i hc
  obtain ⟨a,t1,h1,h⟩:=ZEc h
  obtain ⟨_,t2,h2,h⟩:=ZEc h
  cases h
  have:=ZaE Zrs _ _ _ h1;have:=Xc h2;have:=UZ hc
  omega
 ·cases h;simp [szS]
theorem Zto:Fit (fun x=>1+ZjZ x) Zbn:=fun ts v ts' h=>by
 obtain ⟨a,t1,h1,h⟩:=ZEc h
 obtain ⟨_,t2,h2,h⟩:=ZEc h
 obtain ⟨b,t3,h3,h⟩:=ZEc h
 obtain ⟨_,t4,h4,h⟩:=ZEc h
 cases h
 have:=YS h1;have:=Xc h2;have:=Zdd _ _ _ _ h3;have:=Xc h4
 simp only [ZjZ];omega
theorem Zrt:Fit (fun x=>1+Zjm x) Zb4:=fun ts v ts' h=>by
 obtain ⟨a,t1,h1,h⟩:=ZEc h
 have:=YS h1
 split at h
 ·rename_i hc
  obtain ⟨b,t3,h3,h⟩:=ZEc h
  cases h
  have:=YS h3;have:=UZ hc
  simp only [Zjm,szS];omega
 ·obtain ⟨_,t2,h2,h⟩:=ZEc h
  have:=Xc h2
  split at h
  ·rename_i hc
   obtain ⟨b,t3,h3,h⟩:=ZEc h
   obtain ⟨_,t4,h4,h⟩:=ZEc h
   cases h
   have:=Zdd _ _ _ _ h3;have:=Xc h4;have:=UZ hc
   simp only [Zjm,szS];omega
  ·obtain ⟨b,t3,h3,h⟩:=ZEc h
   cases h
   have:=ZaE Zto _ _ _ h3
   simp only [Zjm,szS];omega
theorem Zcu:∀(f:Nat) (i o n:Bool) (ts:Ts),(Yy f i o n ts).2.length≤ts.length
 | 0,i,o,n,ts=>Tr _
 | f+1,i,o,n,ts=>by
  rw [Yy]
  have:=Ztn ts
  split
  ·exact Sh (Zcu f _ _ _ _) this
  ·split
   ·exact Sh (Zcu f _ _ _ _) this
   ·split
    ·exact Sh (Zcu f _ _ _ _) this
    ·exact Tr _
theorem Ztp:Fit (fun x=>1+ZkV x) Zhs:=fun ts v ts' h=>by
 obtain ⟨a,t1,h1,h⟩:=ZEc h
 obtain ⟨_,t2,h2,h⟩:=ZEc h
 obtain ⟨b,t3,h3,h⟩:=ZEc h
 obtain ⟨_,t4,h4,h⟩:=ZEc h
 have:=YS h1;have:=Xc h2;have:=Zdd _ _ _ _ h3;have:=Xc h4
 have:=Zcu 4 false false false t4
 cases h
 simp only [ZkV];omega
abbrev Zot (P:Ts→R Ex):Prop:=Fit (fun v=>szE v+2) P
theorem Zye {P:Ts→R Ex} (h:Zot P):Fit (fun v=>1+szE v) P:=fun ts v ts' e=>by have:=h _ _ _ e;dsimp only at this ⊢;omega
theorem Zd6 {d:Nat} {ex:Ts→R Ex} (h:Zot ex) (fr tw:Bs) {ts ts':Ts} {v:List Ex} (e:ZaH d ex fr tw ts=.ok v ts'):szS szE v+4+4 * ts'.length≤4 * ts.length:=by
 unfold ZaH at e
 obtain ⟨t1,h1,h2,h3⟩:=X6 e
 split at h1
 ·cases h1;simp only [szS];omega
 ·have:=ZaE (Zye h) _ _ _ h1
  omega
theorem ZgR {ex:Ts→R Ex} (h:Zot ex):∀k l ts v ts',WY ex k l ts=.ok v ts'→szS szE v+4 * ts'.length≤szS szE l+4 * ts.length
 | 0,l,ts,v,ts',e=>by cases e;exact Tr _
 | k+1,l,ts,v,ts',e=>by
  obtain ⟨_,t1,h1,e⟩:=ZEc e
  obtain ⟨x,t2,h2,e⟩:=ZEc e
  have k2:=ZgR h k _ _ _ _ e
  have k1:=h _ _ _ h2
  dsimp only at k1
  rw [Yo] at k2
  have:t1.length≤ts.length:=by
   split at h1
   ·cases h1;exact Tr _
   ·have:=Xc h1;omega
  omega
theorem ZgS {ts:Ts} (h:¬ZJ ts=false):ts.tail.length+1=ts.length:=by
 cases ts with
 | nil=>exact absurd rfl h
 | cons t l=>rfl
theorem U0 (o:Nat) (t:Bs) (n:Int) (l:List Ex) (a:Nat):szE (.mk o t n l a)=1+szS szE l:=by rw [szE,Wl]
theorem Zly {d:Nat} {ex:Ts→R Ex} (h:Zot ex):Zot (Wg d ex):=fun ts v ts' e=>by
 unfold Wg at e
 split at e
 ·cases e
 rename_i hs
 have hl:=ZgS hs
 split at e
 ·exact m133
 split at e
 ·exact m133
 split at e
 ·obtain ⟨t1,h1,h2,h3⟩:=X6 e
  have:=h _ _ _ h1
  dsimp only at this ⊢
  omega
 split at e
 ·obtain ⟨l,t1,h1,e⟩:=ZEc e
  cases e
  have:=Zd6 h _ _ h1
  simp only [U0];omega
 split at e
 ·obtain ⟨l,t1,h1,e⟩:=ZEc e
  have:=YS h1
  split at e
  ·obtain ⟨l,t2,h2,e⟩:=ZEc e
   cases e
   have:=Zd6 h _ _ h2
   simp only [U0];omega
  ·exact m133
 split at e
 ·obtain ⟨l,t1,h1,e⟩:=ZEc e
  obtain ⟨t2,h2,h3,h4⟩:=X6 h1
  cases e
  have:=ZgR h _ _ _ _ _ h2
  simp only [U0,szS] at *;omega
 split at e
 ·exact m133
 split at e
 ·exact m133
 ·exact m133
theorem Zru {ts:Ts} (h:¬(UI ts).1=0):ts.tail.length+1=ts.length:=by
 obtain ⟨t,l,rfl⟩:=ZvA h;rfl
theorem ZgT {sub:Nat→Ts→R Ex} (h:∀n,Zot (sub n)) (least:Nat):∀f e ts v ts',VI sub least f e ts=.ok v ts'→szE v+4 * ts'.length≤szE e+4 * ts.length
 | 0,_,_,_,_,k=>by cases k
 | f+1,e,ts,v,ts',k=>by
  rw [VI] at k
  split at k
  ·cases k;exact Tr _
  ·rename_i hc
   obtain ⟨g,t1,h1,k⟩:=ZEc k
   have k1:=h _ _ _ _ h1
   have k2:=ZgT h least f _ _ _ _ k
   have k3:=Zru (fun e=>hc (.inr e))
   simp only [U0,szS] at k2
   dsimp only at k1
   omega
theorem ZfB {sg:Ts→R Ex} (h:Zot sg):∀k least,Zot (Va sg k least)
 | 0,least=>h
 | k+1,least=>fun ts v ts' e=>by
  obtain ⟨a,t1,h1,e⟩:=ZEc e
  have k1:=h _ _ _ h1
  have k2:=ZgT (fun n=>ZfB h k n) _ _ _ _ _ _ e
  dsimp only at k1 ⊢
  omega
theorem ZfC {d:Nat} {sg:Ts→R Ex} (h:Zot sg):Zot (Vb d sg):=fun ts v ts' e=>by
 unfold Vb at e
 split at e
 ·exact m117
 split at e
 ·exact m117
 ·exact Zly (ZfB h 6 1) _ _ _ e
theorem ZgU:∀d,Zot (Yp d)
 | 0=>ZfC fun _ _ _ e=>by cases e
 | d+1=>ZfC (ZgU d)
theorem Zh6 (d:Nat):Zot (Vp d):=ZfB (ZgU d) 6 1
theorem ZjM:∀d,Zot (Zbp d)
 | 0=>fun _ _ _ e=>by cases e
 | d+1=>Zh6 d
theorem Zlz {ts:Ts}:∀(ws:List Bs) (i j:Nat),JI ts i ws=some j→ts.tail.length+1=ts.length
 | [],i,j,h=>by cases h
 | w::ws,i,j,h=>by
  rw [JI] at h
  split at h
  ·rename_i hc;exact UZ hc
  ·exact Zlz ws _ _ h
theorem Zrv {ts ts':Ts} {op:Nat} (h:Ui ts=.ok op ts'):ts'.length+1≤ts.length:=by
 unfold Ui at h
 split at h
 ·cases h
 ·rename_i h1
  have:=Zlz _ _ _ h1
  split at h
  ·cases h
   have:=Ztn ts.tail
   omega
  ·cases h;omega
 ·rename_i h1
  have:=Zlz _ _ _ h1
  cases h;omega
theorem ZmU (o:Nat) (t:Bs) (l:List Ex) (b:List Li) (a:Nat):szL (.mk o t l b a)=1+szS szE l+szS szL b:=by rw [szL,Wm]
theorem ZfD {d op a:Nat} {ts ts':Ts} {v:Li} (h:Ji d op a ts=.ok v ts'):1+szL v+4 * ts'.length≤4 * ts.length:=by
 obtain ⟨nm,t1,h1,h⟩:=ZEc h
 obtain ⟨l,t2,h2,h⟩:=ZEc h
 cases h
 have:=YS h1;have:=Zd6 (ZjM d) _ _ h2
 simp only [ZmU,szS];omega
theorem ZgV {d:Nat} {bd:Ts→R (List Li)} (hb:Fit (szS szL) bd) {a op:Nat} {l:List Ex} {ts ts':Ts} {v:Li} (h:XC d bd a op l ts=.ok v ts'):szL v+4 * ts'.length≤1+szS szE l+4 * ts.length:=by
 unfold XC at h
 split at h
 ·obtain ⟨_,t1,h1,h⟩:=ZEc h
  obtain ⟨b,t2,h2,h⟩:=ZEc h
  obtain ⟨t3,h3,h4,h5⟩:=X6 h2
  cases h
  have:=Xc h1;have:=hb _ _ _ h3
  simp only [ZmU];omega
 ·cases h;simp only [ZmU,szS];omega
theorem Zrw {d:Nat} {bd:Ts→R (List Li)} (hb:Fit (szS szL) bd):Fit (fun v=>1+szL v) (Zdu d bd):=fun ts v ts' h=>by
 unfold Zdu at h
 split at h
 ·rename_i hc
  have:=UZ hc;have:=ZfD h
  dsimp only;omega
 split at h
 ·exact ZfD h
 ·obtain ⟨e,t1,h1,h⟩:=ZEc h
  obtain ⟨op,t2,h2,h⟩:=ZEc h
  have k1:=Zh6 _ _ _ _ h1;have k2:=Zrv h2
  split at h
  ·have k3:=ZgV hb h
   simp only [szS] at k3 ⊢;dsimp only at k1;omega
  ·obtain ⟨g,t3,h3,h⟩:=ZEc h
   have k3:=Zh6 _ _ _ _ h3;have k4:=ZgV hb h
   simp only [szS] at k4 ⊢;dsimp only at k1 k3;omega
theorem ZmV:∀d,Fit (szS szL) (ZfQ d)
 | 0=>ZaE (Zrw fun _ _ _ e=>by cases e)
 | d+1=>ZaE (Zrw (ZmV d))
theorem Ztq (d:Nat) (b:Bool):Fit (fun v=>1+ZjY v) (Zht d b):=fun ts v ts' h=>by
 obtain ⟨nm,t1,h1,h⟩:=ZEc h
 obtain ⟨l,t2,h2,h⟩:=ZEc h
 have:=YS h1;have:=Zd6 (ZjM d) _ _ h2
 split at h
 ·obtain ⟨b,t3,h3,h⟩:=ZEc h
  obtain ⟨_,t4,h4,h⟩:=ZEc h
  cases h
  have:=ZmV _ _ _ _ h3;have:=Xc h4;have:=Ztn t2
  simp only [ZjY];omega
 ·obtain ⟨_,t4,h4,h⟩:=ZEc h
  cases h
  have:=Xc h4
  simp only [ZjY,szS];omega
theorem ZlA (n:Bs) (p:List Bs) (b:Bs) (t:List Bs) (u:Un) (a:Nat):ZhI (.mk n p b t u a)=1+szS sz0 p+szS sz0 t+Zjn u:=by rw [ZhI]
theorem Zak (a1 a2 a3 a4 a5 a6):Zjn (.mk a1 a2 a3 a4 a5 a6)=1+szS Zjm a1+szS ZkV a2+szS ZjY a3+szS ZhI a4+szS ZkW a5+szS sz0 a6:=by rw [Zjn,Xb]
abbrev ZBW (P:Ts→R Un):Prop:=∀ts v ts',P ts=.ok v ts'→Zjn v+4 * ts'.length≤1+4 * ts.length
theorem Ztr {d:Nat} {un:Ts→R Un} (hu:ZBW un):Fit (fun v=>1+ZhI v) (ZfR d un):=fun ts v ts' h=>by
 obtain ⟨nm,t1,h1,h⟩:=ZEc h
 obtain ⟨ps,t2,h2,h⟩:=ZEc h
 have:=YS h1;have:=ZfA _ _ _ h2
 split at h
 ·rename_i hc
  obtain ⟨b,t3,h3,h⟩:=ZEc h
  obtain ⟨tys,t4,h4,h⟩:=ZEc h
  obtain ⟨u,t5,h5,h⟩:=ZEc h
  obtain ⟨t6,h6,h7,h8⟩:=X6 h5
  cases h
  have:=YS h3;have:=ZfA _ _ _ h4;have:=hu _ _ _ h6;have:=UZ hc
  simp only [ZlA];omega
 ·obtain ⟨u,t5,h5,h⟩:=ZEc h
  obtain ⟨t6,h6,h7,h8⟩:=X6 h5
  cases h
  have:=hu _ _ _ h6
  simp only [ZlA,szS];omega
theorem Zts:Fit (fun v=>1+ZkW v) Zhu:=fun ts v ts' h=>by
 obtain ⟨nm,t1,h1,h⟩:=ZEc h
 obtain ⟨_,t2,h2,h⟩:=ZEc h
 obtain ⟨c,t3,h3,h⟩:=ZEc h
 obtain ⟨tys,t4,h4,h⟩:=ZEc h
 cases h
 have:=YS h1;have:=Xc h2;have:=YS h3;have:=ZfA _ _ _ h4
 simp only [ZkW];omega
theorem Ztt:Fit (fun v=>1+sz0 (α:=Ov) v) Zhv:=fun ts v ts' h=>by
 obtain ⟨nm,t1,h1,h⟩:=ZEc h
 cases h
 have:=YS h1
 simp only [sz0];omega
theorem XA {b:Bool} {d:Nat} {un:Ts→R Un} (hu:ZBW un):∀f u ts v ts',ZX b d un f u ts=.ok v ts'→Zjn v+4 * ts'.length≤Zjn u+4 * ts.length
 | 0,u,ts,v,ts',h=>by obtain ⟨a1,a2,a3,a4,a5,a6⟩:=u;cases h
 | f+1,.mk tys rels rules comps inits overs,ts,v,ts',h=>by
  rw [Zcc] at h
  split at h
  ·cases h;exact Tr _
  have ht:=Ztn ts
  split at h
  ·split at h
   ·cases h
   ·obtain ⟨x,t1,h1,h⟩:=ZEc h
    have k1:=Zrt _ _ _ h1;have k2:=XA hu f _ _ _ _ h
    exact m75
  split at h
  ·split at h
   ·cases h
   ·obtain ⟨x,t1,h1,h⟩:=ZEc h
    have k1:=Ztp _ _ _ h1;have k2:=XA hu f _ _ _ _ h
    exact m75
  split at h
  ·split at h
   ·cases h
   ·obtain ⟨x,t1,h1,h⟩:=ZEc h
    have k1:=Ztr hu _ _ _ h1;have k2:=XA hu f _ _ _ _ h
    exact m75
  split at h
  ·split at h
   ·cases h
   ·obtain ⟨x,t1,h1,h⟩:=ZEc h
    have k1:=Zts _ _ _ h1;have k2:=XA hu f _ _ _ _ h
    exact m75
  split at h
  ·split at h
   ·cases h
   ·obtain ⟨x,t1,h1,h⟩:=ZEc h
    have k1:=Ztt _ _ _ h1;have k2:=XA hu f _ _ _ _ h
    exact m75
  split at h
  ·split at h
   ·cases h
   ·obtain ⟨x,t1,h1,h⟩:=ZEc h
    have k1:=Ztq _ _ _ _ _ h1;have k2:=XA hu f _ _ _ _ h
    exact m75
  ·cases h
theorem Zh7:Zjn .nil=1:=by rw [Un.nil,Zak];rfl
theorem ZjN:∀d,ZBW (Zhx d)
 | 0=>fun ts v ts' h=>by have:=XA (b:=true) (d:=0) (un:=fun _=>.err 0 150) (fun _ _ _ e=>by cases e) _ _ _ _ _ h;rw [Zh7] at this;exact this
 | d+1=>fun ts v ts' h=>by have:=XA (ZjN d) _ _ _ _ _ h;rw [Zh7] at this;exact this
theorem ZlB:ZBW VJ:=fun ts v ts' h=>by have:=XA (ZjN 63) _ _ _ _ _ h;rw [Zh7] at this;exact this
theorem Zou {s:Bs} {v:Un} {L:List Tok} (h:Y5 65536 16384 VJ s=.ok v L):Zjn v≤65537:=by
 unfold Y5 at h
 split at h
 ·cases h
 split at h
 ·cases h
 split at h
 ·rename_i h1
  cases h
  have k:=ZlB _ _ _ h1
  have k2:=ZhG s 16384
  rw [Tf] at k
  simp only [Td] at k
  have:((16384:Int)).toNat=16384:=rfl
  have k3:(ZdO s 16384).1.length≤16384:=k2
  have k4:(ZdO s ((16384:Nat):Int)).1.length≤16384:=k3
  omega
 ·cases h
 ·cases h
theorem Vf {α:Type} {er:α→α} {f:α→α→Bool}:∀(l m:List α),(∀x∈l,∀y,er x=er y→f x y=true)→l.map er=m.map er→XD f l m=true
 | [],[],_,_=>rfl
 | [],_::_,_,h=>by simp at h
 | _::_,[],_,h=>by simp at h
 | x::l,y::m,hf,h=>by
  simp only [Tw,List.cons.injEq] at h
  rw [XD,hf x (List.mem_cons_self ..) y h.1,TC]
  exact Vf l m (fun z hz=>hf z (Tp _ hz)) h.2
theorem U1 {α:Type} {f:α→α→Bool} (hf:∀x,f x x=true) (l:List α):XD f l l=true:=by
 induction l with
 | nil=>rfl
 | cons x l ih=>rw [XD,hf,ih];rfl
theorem ZmW (x:Bs):eqB x x=true:=by simp [eqB]
theorem ZbH (x:Fi):VM x x=true:=by simp [VM]
theorem ZlC (x:Ca):Vh x x=true:=by simp [Vh,U1 ZbH]
theorem ZmX:∀(n:Nat) (x:Ex),szE x<n→∀y,erE x=erE y→Wj x y=true
 | 0,_,h,_,_=>by omega
 | n+1,.mk o1 t1 n1 l1 a1,hz,.mk o2 t2 n2 l2 a2,h=>by
  simp only [erE,Jo,Ex.mk.injEq] at h
  obtain ⟨rfl,rfl,rfl,h,-⟩:=h
  rw [U0] at hz
  have:XD Wj l1 l2=true:=Vf l1 l2 (fun x hx y e=>by
   obtain ⟨i,hi,rfl⟩:=T8 hx
   have:=ZD szE l1 i hi
   exact ZmX n _ (by omega) y e) h
  simp [Wj,UN,this]
theorem ZmY {x y:Ex} (h:erE x=erE y):Wj x y=true:=ZmX _ x (Sc _) y h
theorem ZmZ:∀(n:Nat) (x:Li),szL x<n→∀y,erL x=erL y→W1 x y=true
 | 0,_,h,_,_=>by omega
 | n+1,.mk o1 t1 l1 b1 a1,hz,.mk o2 t2 l2 b2 a2,h=>by
  simp only [erL,ZhH,Li.mk.injEq] at h
  obtain ⟨rfl,rfl,h,h2,-⟩:=h
  rw [ZmU] at hz
  have e1:XD Wj l1 l2=true:=Vf l1 l2 (fun x hx y e=>ZmY e) (by first | exact h | (simpa [Jo] using h))
  have e2:XD W1 b1 b2=true:=Vf b1 b2 (fun x hx y e=>by
   obtain ⟨i,hi,rfl⟩:=T8 hx
   have:=ZD szL b1 i hi
   exact ZmZ n _ (by omega) y e) h2
  simp [W1,UO,e1,e2]
theorem Ztu {x y:Li} (h:erL x=erL y):W1 x y=true:=ZmZ _ x (Sc _) y h
theorem Zrx {x y:Ru} (h:ZgH x=ZgH y):Vg x y=true:=by
 simp only [ZgH,Ru.mk.injEq] at h
 obtain ⟨e1,e2,e3,-⟩:=h
 simp [Vg,e1,Vf (er:=erE) _ _ (fun x hx y e=>ZmY e) e2,Vf (er:=erL) _ _ (fun x hx y e=>Ztu e) e3]
theorem Zry {x y:Ty} (h:ZnT x=ZnT y):X3 x y=true:=by
 simp only [ZnT,Ty.mk.injEq] at h
 obtain ⟨e1,e2,e3,e4,e5,-⟩:=h
 simp [X3,e1,e2,e3,e4,e5,U1 ZbH,U1 ZlC]
theorem Zrz {x y:Re} (h:ZnU x=ZnU y):X4 x y=true:=by
 simp only [ZnU,Re.mk.injEq] at h
 obtain ⟨e1,e2,e3,e4,e5,-⟩:=h
 simp [X4,e1,e2,e3,e4,e5,U1 ZbH]
theorem ZrA {x y:Ini} (h:ZnV x=ZnV y):Vi x y=true:=by
 simp only [ZnV,Ini.mk.injEq] at h
 obtain ⟨e1,e2,e3,-⟩:=h
 simp [Vi,e1,e2,e3,U1 ZmW]
theorem ZrB {x y:Ov} (h:ZnW x=ZnW y):J8 x y=true:=by
 simp only [ZnW,Ov.mk.injEq] at h
 simp [J8,h.1]
theorem ZjO:∀(n:Nat) (x:Un),Zjn x<n→∀y,U2 x=U2 y→XL x y=true
 | 0,_,h,_,_=>by omega
 | n+1,.mk a1 a2 a3 a4 a5 a6,hz,.mk b1 b2 b3 b4 b5 b6,h=>by
  simp only [U2,Zmm,Un.mk.injEq] at h
  obtain ⟨e1,e2,e3,e4,e5,e6⟩:=h
  rw [Zak] at hz
  have k4:XD Xl a4 b4=true:=Vf a4 b4 (fun x hx y e=>by
   obtain ⟨i,hi,rfl⟩:=T8 hx
   have hg:=ZD ZhI a4 i hi
   revert hg e
   generalize a4[i]=c
   intro e hg
   obtain ⟨n1,p1,c1,t1,u1,q1⟩:=c
   obtain ⟨n2,p2,c2,t2,u2,q2⟩:=y
   rw [ZlA] at hg
   simp only [ZfW,Co.mk.injEq] at e
   obtain ⟨rfl,rfl,rfl,rfl,e,-⟩:=e
   have:=ZjO n u1 (by omega) u2 e
   simp [Xl,this,U1 ZmW]) e4
  simp [XL,X5,k4,Vf (er:=ZnT) _ _ (fun x hx y e=>Zry e) e1,Vf (er:=ZnU) _ _ (fun x hx y e=>Zrz e) e2,Vf (er:=ZgH) _ _ (fun x hx y e=>Zrx e) e3,Vf (er:=ZnV) _ _ (fun x hx y e=>ZrA e) e5,Vf (er:=ZnW) _ _ (fun x hx y e=>ZrB e) e6]
theorem ZrC {x y:Un} (h:U2 x=U2 y):XL x y=true:=ZjO _ x (Sc _) y h
end Go.PM.Lex
end

section
namespace Go.PM.Lex
open Go.Proofs
variable {w0:World} {nG:Nat}
end Go.PM.Lex
end

section
namespace Go.PM.Lex
open Go.Proofs
variable {w0:World} {nG:Nat}
end Go.PM.Lex
end

section
namespace Go.PM.Lex
open Go.Proofs
variable {w0:World} {nG:Nat}
end Go.PM.Lex
end

section
namespace Go.PM.Lex
open Go.Proofs
variable {w0:World} {nG:Nat}
theorem ZBz {r:Bs} (h:(pk r).1≠-1):r≠[]∧pk r=(((Lib.decodeL r).1:Int),(Lib.decodeL r).2)∧Lib.encodeRune ((Lib.decodeL r).1:Int)=r.take (Lib.decodeL r).2:=by
 by_cases hr:r=[]
 ·rw [hr] at h;simp [pk] at h
 ·by_cases hv:Lib.decodeL r=(65533,1)
  ·unfold pk at h;rw [Th (.inr hv)] at h;simp at h
  ·refine ⟨hr,by unfold pk;rw [Te (by simp only [not_or];exact ⟨hr,hv⟩)],Lib.encode_decode r hr fun g=>hv (Prod.ext g.1 g.2)⟩
end Go.PM.Lex
end

section
namespace Go.PM.Lex
open Go.Proofs
structure TokK (t:T0):Prop where
 num:ZsP t.n=true
 str:t.kind=3→(Vj t.text).isSome=true
 nam:t.kind=1→W3 t.text=true
def AllT (ts:Ts):Prop:=∀t∈ts,TokK t
def pt:Ts→Nat
 | []=>0
 | t::l=>t.text.length+4+pt l
theorem AllT.tail {ts:Ts} (h:AllT ts):AllT ts.tail:=fun t ht=>h t (List.mem_of_mem_tail ht)
theorem Jt (ts:Ts):pt ts.tail≤pt ts:=by
 cases ts with
 | nil=>exact Tr _
 | cons t l=>show pt l≤t.text.length+4+pt l;omega
theorem ZjP {ts:Ts} (h:ts.tail.length+1=ts.length):pt ts.tail+(hd ts).text.length+4=pt ts:=by
 cases ts with
 | nil=>simp at h
 | cons t l=>show pt l+t.text.length+4=t.text.length+4+pt l;omega
theorem ZBA {ts:Ts} (h:AllT ts) (h1:ts.tail.length+1=ts.length):TokK (hd ts):=by
 cases ts with
 | nil=>simp at h1
 | cons t l=>exact h t (List.mem_cons_self ..)
abbrev Gd {α:Type} (sz:α→Nat) (ok:α→Prop) (P:Ts→R α):Prop:=∀ts v ts',AllT ts→P ts=.ok v ts'→ok v∧AllT ts'∧sz v+pt ts'≤pt ts
theorem Wp {w:Bs} {ts ts':Ts} {u:Unit} (ha:AllT ts) (h:Z0 w ts=.ok u ts'):AllT ts'∧pt ts'+4≤pt ts:=by
 unfold Z0 at h
 split at h
 ·rename_i hc;cases h;have:=ZjP (UZ hc);exact ⟨ha.tail,by omega⟩
 ·cases h
theorem XZ {ts ts':Ts} {v:Bs} (ha:AllT ts) (h:Xw ts=.ok v ts'):Yk v=true∧AllT ts'∧v.length+4+pt ts'≤pt ts:=by
 unfold Xw at h
 split at h
 ·rename_i hc
  cases h
  have hn:=Zui hc
  have:=ZjP hn
  refine ⟨?_,ha.tail,by omega⟩
  have hk:=ZBA ha hn
  simp only [ZF,Tj,TJ] at hc
  unfold Yk
  rw [hk.nam hc.1,TC,Tj]
  exact hc.2
 ·cases h
theorem W7 {α:Type} {d:Nat} {fr tw:Bs} {read:Ts→R α} {ts ts':Ts} {v:α} (ha:AllT ts) (h:Zo d fr tw read ts=.ok v ts'):∃t1,read ts.tail=.ok v t1∧AllT ts.tail∧pt ts.tail+4≤pt ts∧(AllT t1→AllT ts'∧pt ts'≤pt t1):=by
 unfold Zo at h
 split at h
 ·rename_i hc
  have hp:=ZjP (UZ hc)
  split at h
  ·cases h
  ·obtain ⟨a,t1,h1,h2⟩:=ZEc h
   split at h2
   ·cases h2;exact ⟨_,h1,ha.tail,by omega,fun g=>⟨g,Tr _⟩⟩
   ·obtain ⟨u,t2,h3,h4⟩:=ZEc h2
    cases h4
    exact ⟨_,h1,ha.tail,by omega,fun g=>by have:=Wp g h3;exact ⟨this.1,by omega⟩⟩
 ·cases h
def okL {α:Type} (ok:α→Prop) (l:List α):Prop:=∀x∈l,ok x
theorem YN {α:Type} {ok:α→Prop}:okL ok []:=fun _ h=>by cases h
theorem Vs {α:Type} {ok:α→Prop} {l:List α} {x:α} (h:okL ok l) (hx:ok x):okL ok (l++[x]):=fun y hy=>by
 rcases TX.1 hy with g | g
 ·exact h y g
 ·rw [Sv.1 g];exact hx
theorem ZjQ {α:Type} {sz:α→Nat} {ok:α→Prop} {sign:Bs} {most:Nat} {st:Ts→Bool} {one:Ts→R α} (h1:Gd (fun x=>1+sz x) ok one):∀f l ts v ts',okL ok l→AllT ts→XB sign most st one f l ts=.ok v ts'→(okL ok v∧v≠[])∧AllT ts'∧szS sz v+pt ts'≤szS sz l+pt ts
 | 0,_,_,_,_,_,_,h=>by cases h
 | f+1,l,ts,v,ts',hl,ha,h=>by
  rw [XB] at h
  split at h
  ·cases h
  ·obtain ⟨x,t1,h2,h3⟩:=ZEc h
   obtain ⟨k1,k2,k⟩:=h1 _ _ _ ha h2
   dsimp only at k
   have hlx:=Vs hl k1
   split at h3
   ·rename_i hc
    obtain ⟨g1,g2,g3⟩:=ZjQ h1 f _ _ _ _ hlx k2.tail h3
    have:=Jt t1
    rw [Yo] at g3
    exact ⟨g1,g2,by omega⟩
   ·cases h3
    rw [Yo]
    exact ⟨⟨hlx,by simp⟩,k2,by omega⟩
theorem Zde {α:Type} {sz:α→Nat} {ok:α→Prop} {sign:Bs} {most:Nat} {st:Ts→Bool} {one:Ts→R α} (h1:Gd (fun x=>1+sz x) ok one):Gd (szS sz) (fun v=>okL ok v∧v≠[]) (Wf sign most st one):=fun ts v ts' ha h=>by
 have:=ZjQ h1 _ _ _ _ _ YN ha h
 simpa [szS] using this
def ZCZ (x:Fi):Prop:=YG x=true
def ZDC (x:Bs):Prop:=Yk x=true
theorem Ztv:Gd (fun x=>1+wFi x) ZCZ VH:=fun ts v ts' ha h=>by
 obtain ⟨a,t1,h1,h⟩:=ZEc h
 obtain ⟨_,t2,h2,h⟩:=ZEc h
 obtain ⟨b,t3,h3,h⟩:=ZEc h
 cases h
 obtain ⟨a1,a2,a3⟩:=XZ ha h1
 obtain ⟨b2,b3⟩:=Wp a2 h2
 obtain ⟨c1,c2,c3⟩:=XZ b2 h3
 refine ⟨?_,c2,?_⟩
 ·unfold ZCZ YG;rw [a1,c1];rfl
 ·simp only [wFi];omega
theorem Ztw:Gd (fun x=>1+wBs x) ZDC Xw:=fun ts v ts' ha h=>by
 obtain ⟨a1,a2,a3⟩:=XZ ha h
 exact ⟨a1,a2,by simp only [wBs];omega⟩
theorem ZfE (fin:Bs):Gd (szS wFi) (okL ZCZ) (W9 fin):=fun ts v ts' ha h=>by
 unfold W9 at h
 split at h
 ·cases h;exact ⟨YN,ha,by simp [szS]⟩
 ·obtain ⟨g1,g2,g3⟩:=Zde Ztv _ _ _ ha h
  exact ⟨g1.1,g2,g3⟩
theorem Zh8:Gd (szS wBs) (okL ZDC) JE:=fun ts v ts' ha h=>by
 unfold JE at h
 split at h
 ·rename_i hc
  obtain ⟨a,t1,h1,h⟩:=ZEc h
  obtain ⟨_,t2,h2,h⟩:=ZEc h
  cases h
  obtain ⟨g1,g2,g3⟩:=Zde Ztw _ _ _ ha.tail h1
  obtain ⟨b2,b3⟩:=Wp g2 h2
  have:=Jt ts
  exact ⟨g1.1,b2,by omega⟩
 ·cases h;exact ⟨YN,ha,by simp [szS]⟩
theorem Zal {α:Type} {p:α→Bool} {l:List α} (h:okL (fun x=>p x=true) l):l.all p=true:=Tl.2 h
def ZDD (x:Ca):Prop:=Xz x=true
theorem Zyf:Gd (fun x=>1+wCa x) ZDD Zbn:=fun ts v ts' ha h=>by
 obtain ⟨a,t1,h1,h⟩:=ZEc h
 obtain ⟨_,t2,h2,h⟩:=ZEc h
 obtain ⟨b,t3,h3,h⟩:=ZEc h
 obtain ⟨_,t4,h4,h⟩:=ZEc h
 cases h
 obtain ⟨a1,a2,a3⟩:=XZ ha h1
 obtain ⟨b2,b3⟩:=Wp a2 h2
 obtain ⟨c1,c2,c3⟩:=ZfE _ _ _ _ b2 h3
 obtain ⟨d2,d3⟩:=Wp c2 h4
 refine ⟨?_,d2,?_⟩
 ·unfold ZDD Xz;rw [a1,TC];exact Zal c1
 ·simp only [wCa];omega
def ZyG (x:Ty):Prop:=Ym x=true
theorem Ztx:Gd (fun x=>1+wTy x) ZyG Zb4:=fun ts v ts' ha h=>by
 obtain ⟨a,t1,h1,h⟩:=ZEc h
 obtain ⟨a1,a2,a3⟩:=XZ ha h1
 have hpt:=Jt t1
 split at h
 ·rename_i hc
  obtain ⟨b,t3,h3,h⟩:=ZEc h
  cases h
  obtain ⟨c1,c2,c3⟩:=XZ a2.tail h3
  refine ⟨?_,c2,?_⟩
  ·simp [ZyG,Ym,Zcg,a1,c1]
  ·simp only [wTy,szS];omega
 ·obtain ⟨_,t2,h2,h⟩:=ZEc h
  obtain ⟨b2,b3⟩:=Wp a2 h2
  have hpt2:=Jt t2
  split at h
  ·rename_i hc
   obtain ⟨b,t3,h3,h⟩:=ZEc h
   obtain ⟨_,t4,h4,h⟩:=ZEc h
   cases h
   obtain ⟨c1,c2,c3⟩:=ZfE _ _ _ _ b2.tail h3
   obtain ⟨d2,d3⟩:=Wp c2 h4
   have:=Zal c1
   refine ⟨?_,d2,?_⟩
   ·simp only [ZyG,Ym,Zcg,a1];rw [this];simp
   ·simp only [wTy,szS,Td];omega
  ·obtain ⟨b,t3,h3,h⟩:=ZEc h
   cases h
   obtain ⟨c1,c2,c3⟩:=Zde Zyf _ _ _ b2 h3
   have h5:=Zal c1.1
   have h6:¬b.length=0:=fun g=>c1.2 (SD.1 g)
   refine ⟨?_,c2,?_⟩
   ·simp only [ZyG,Ym,Zcg,a1];rw [h5];simp [h6]
   ·simp only [wTy,szS,Td];omega
theorem Zd7:∀(f:Nat) (i o n:Bool) (ts:Ts),AllT ts→AllT (Yy f i o n ts).2∧pt (Yy f i o n ts).2≤pt ts
 | 0,i,o,n,ts,ha=>⟨ha,Tr _⟩
 | f+1,i,o,n,ts,ha=>by
  rw [Yy]
  have:=Jt ts
  split
  ·have k:=Zd7 f true o n ts.tail ha.tail;exact ⟨k.1,by omega⟩
  ·split
   ·have k:=Zd7 f i true n ts.tail ha.tail;exact ⟨k.1,by omega⟩
   ·split
    ·have k:=Zd7 f i o true ts.tail ha.tail;exact ⟨k.1,by omega⟩
    ·exact ⟨ha,Tr _⟩
def ZBX (x:Re):Prop:=XN x=true
theorem Zyg:Gd (fun x=>1+wRe x) ZBX Zhs:=fun ts v ts' ha h=>by
 obtain ⟨a,t1,h1,h⟩:=ZEc h
 obtain ⟨_,t2,h2,h⟩:=ZEc h
 obtain ⟨b,t3,h3,h⟩:=ZEc h
 obtain ⟨_,t4,h4,h⟩:=ZEc h
 obtain ⟨a1,a2,a3⟩:=XZ ha h1
 obtain ⟨b2,b3⟩:=Wp a2 h2
 obtain ⟨c1,c2,c3⟩:=ZfE _ _ _ _ b2 h3
 obtain ⟨d2,d3⟩:=Wp c2 h4
 obtain ⟨e2,e3⟩:=Zd7 4 false false false t4 d2
 cases h
 refine ⟨?_,e2,?_⟩
 ·unfold ZBX XN;rw [a1,TC];exact Zal c1
 ·simp only [wRe];omega
def okE (e:Ex):Prop:=ZW e=true∧Zcl e=true
theorem JG {op:Nat} {t:Bs} {n:Int} {l:List Ex} {a:Nat} (h1:-2<Z2 op) (h2:Z2 op<0∨(l.length:Int)=Z2 op) (h3:n=0∨op=3) (h4:XM op t=true) (h5:ZsP n=true) (h6:okL okE l):okE (.mk op t n l a):=by
 have e1:l.all ZW=true:=Tl.2 fun x hx=>(h6 x hx).1
 have e2:l.all Zcl=true:=Tl.2 fun x hx=>(h6 x hx).2
 constructor
 ·simp only [ZW,Zq,Tj,Sn,TJ]
  exact ⟨h1,h2,h3,h4,e1⟩
 ·simp only [Zcl,WM,Tj];exact ⟨h5,e2⟩
theorem ZdS (o:Nat) (t:Bs) (n:Int) (l:List Ex) (a:Nat):wE (.mk o t n l a)=1+t.length+szS wE l:=by rw [wE,VP]
abbrev GdE (P:Ts→R Ex):Prop:=Gd (fun v=>wE v+2) okE P
theorem ZBB {P:Ts→R Ex} (h:GdE P):Gd (fun v=>1+wE v) okE P:=fun ts v ts' ha e=>by obtain ⟨a,b,c⟩:=h _ _ _ ha e;exact ⟨a,b,by dsimp only at c ⊢;omega⟩
theorem Zh9 {d:Nat} {ex:Ts→R Ex} (h:GdE ex) (fr tw:Bs) {ts ts':Ts} {v:List Ex} (ha:AllT ts) (e:ZaH d ex fr tw ts=.ok v ts'):okL okE v∧AllT ts'∧szS wE v+4+pt ts'≤pt ts:=by
 unfold ZaH at e
 obtain ⟨t1,h1,h2,h3,h4⟩:=W7 ha e
 split at h1
 ·cases h1;obtain ⟨g1,g2⟩:=h4 h2;exact ⟨YN,g1,by simp only [szS];omega⟩
 ·obtain ⟨k1,k2,k3⟩:=Zde (ZBB h) _ _ _ h2 h1
  obtain ⟨g1,g2⟩:=h4 k2
  exact ⟨k1.1,g1,by omega⟩
theorem ZjR {ex:Ts→R Ex} (h:GdE ex):∀k l ts v ts',okL okE l→AllT ts→WY ex k l ts=.ok v ts'→okL okE v∧v.length=l.length+k∧AllT ts'∧szS wE v+pt ts'≤szS wE l+pt ts
 | 0,l,ts,v,ts',hl,ha,e=>by cases e;exact ⟨hl,rfl,ha,Tr _⟩
 | k+1,l,ts,v,ts',hl,ha,e=>by
  obtain ⟨_,t1,h1,e⟩:=ZEc e
  obtain ⟨x,t2,h2,e⟩:=ZEc e
  have h3:AllT t1∧pt t1≤pt ts:=by
   split at h1
   ·cases h1;exact ⟨ha,Tr _⟩
   ·obtain ⟨g1,g2⟩:=Wp ha h1;exact ⟨g1,by omega⟩
  obtain ⟨k1,k2,k3⟩:=h _ _ _ h3.1 h2
  obtain ⟨g1,g2,g3,g4⟩:=ZjR h k _ _ _ _ (Vs hl k1) k2 e
  dsimp only at k3
  rw [Yo] at g4
  simp only [Ta,TD] at g2
  exact ⟨g1,by omega,g3,by omega⟩
theorem Zm0:ZsP 0=true:=by decide
theorem Zov {d:Nat} {ex:Ts→R Ex} (h:GdE ex) {ts:Ts} {v:Ex} {ts':Ts} (hm:isW ts [[45]]=false) (ht:isW ts [[126]]=false) (ha:AllT ts) (e:Wg d ex ts=.ok v ts'):okE v∧AllT ts'∧wE v+2+pt ts'≤pt ts:=by
 unfold Wg at e
 split at e
 ·cases e
 rename_i hs
 have hl:=ZgS hs
 have hp:=ZjP hl
 have hk:=ZBA ha hl
 split at e
 ·rename_i c
  cases e
  exact ⟨JG (by decide) (.inr rfl) (.inr rfl) (by decide) hk.num YN,ha.tail,by simp only [ZdS,szS,Td];omega⟩
 split at e
 ·rename_i c
  cases e
  exact ⟨JG (by decide) (.inr rfl) (.inl rfl) (by simpa [XM] using hk.str c) Zm0 YN,ha.tail,by simp only [ZdS,szS];omega⟩
 split at e
 ·obtain ⟨t1,h1,h2,h3,h4⟩:=W7 ha e
  obtain ⟨k1,k2,k3⟩:=h _ _ _ h2 h1
  obtain ⟨g1,g2⟩:=h4 k2
  dsimp only at k3
  exact ⟨k1,g1,by omega⟩
 split at e
 ·obtain ⟨l,t1,h1,e⟩:=ZEc e
  cases e
  obtain ⟨k1,k2,k3⟩:=Zh9 h _ _ ha h1
  exact ⟨JG (by decide) (.inl (by decide)) (.inl rfl) (by decide) Zm0 k1,k2,by simp only [ZdS,Td];omega⟩
 split at e
 ·obtain ⟨l,t1,h1,e⟩:=ZEc e
  obtain ⟨a1,a2,a3⟩:=XZ ha.tail h1
  have htx:XM 7 l=true:=by simpa [XM] using a1
  split at e
  ·obtain ⟨l2,t2,h2,e⟩:=ZEc e
   cases e
   obtain ⟨k1,k2,k3⟩:=Zh9 h _ _ a2 h2
   exact ⟨JG (by decide) (.inl (by decide)) (.inl rfl) htx Zm0 k1,k2,by simp only [ZdS];omega⟩
  ·cases e
   exact ⟨JG (by decide) (.inl (by decide)) (.inl rfl) htx Zm0 YN,a2,by simp only [ZdS,szS];omega⟩
 split at e
 ·rename_i hf
  obtain ⟨l,t1,h1,e⟩:=ZEc e
  obtain ⟨t2,h2,h3,h4,h5⟩:=W7 ha.tail h1
  cases e
  obtain ⟨g1,g2,g3,g4⟩:=ZjR h _ _ _ _ _ YN h3 h2
  obtain ⟨k1,k2⟩:=h5 g3
  have hw:-2<Z2 (ZL (hd ts).text)∧((Zbo (ZL (hd ts).text):Nat):Int)=Z2 (ZL (hd ts).text)∧XM (ZL (hd ts).text) []=true:=by
   unfold ZL at hf ⊢
   (repeat' split) <;> first | decide +kernel | (exfalso;revert hf;simp [*])
  simp only [Td,Sm] at g2
  refine ⟨JG hw.1 (.inr (by rw [g2];exact hw.2.1)) (.inl rfl) hw.2.2 Zm0 g1,k1,?_⟩
  simp only [ZdS,szS,Td] at *;omega
 split at e
 ·exact m131
 split at e
 ·exact m131
 ·rename_i c2 c3 cp cb cd cf cn cu
  cases e
  have hn:(hd ts).kind=1∧ZcO (hd ts).text=false:=by
   unfold ZJ at hs
   rw [Te (by simp [c2,c3])] at hs
   by_cases c4:(hd ts).kind=4
   ·rw [Th c4] at hs
    exfalso
    refine hs ?_
    have e1:isW ts [[45],[126],[40],[91],[36]]=false:=by
     unfold isW at hm ht ⊢
     simp only [c4,decide_true,Bool.or_true,TC] at hm ht ⊢
     simp only [List.contains_cons,List.contains_nil,Su] at hm ht ⊢
     rw [hm,ht]
     simp [cp,cb,cd]
    exact e1
   ·rw [Te c4] at hs
    by_cases c1:(hd ts).kind=1
    ·rw [Th c1] at hs
     refine ⟨c1,?_⟩
     simp only [cn,decide_false,Bool.false_or,TJ] at hs
     cases hk:ZcO (hd ts).text with
     | false=>rfl
     | true=>rw [hk] at hs;simp [cf] at hs
    ·rw [Te c1] at hs;exact absurd rfl hs
  have htx:XM 1 (hd ts).text=true:=by
   simp only [XM,true_or,if_true,Yk]
   rw [hk.nam hn.1,hn.2]
   simp [cu]
  exact ⟨JG (by decide) (.inr rfl) (.inl rfl) htx Zm0 YN,ha.tail,by simp only [ZdS,szS];omega⟩
theorem ZBC {ts:Ts} (h:¬(UI ts).1=0):Z2 (UI ts).2=2∧XM (UI ts).2 []=true:=by
 revert h
 unfold UI
 (repeat' split) <;> intro h <;> first | exact absurd rfl h | decide
theorem ZjS {sub:Nat→Ts→R Ex} (h:∀n,GdE (sub n)) (least:Nat):∀f e ts v ts',okE e→AllT ts→VI sub least f e ts=.ok v ts'→okE v∧AllT ts'∧wE v+pt ts'≤wE e+pt ts
 | 0,_,_,_,_,_,_,k=>by cases k
 | f+1,e,ts,v,ts',he,ha,k=>by
  rw [VI] at k
  split at k
  ·cases k;exact ⟨he,ha,Tr _⟩
  ·rename_i hc
   obtain ⟨g,t1,h1,k⟩:=ZEc k
   obtain ⟨k1,k2,k3⟩:=h _ _ _ _ ha.tail h1
   have hb:¬(UI ts).1=0:=fun e=>hc (.inr e)
   have hp:=ZjP (Zru hb)
   obtain ⟨b1,b2⟩:=ZBC hb
   have hne:okE (.mk (UI ts).2 [] 0 [e,g] e.at'):=JG (by omega) (.inr (by rw [b1];rfl)) (.inl rfl) b2 Zm0 fun x hx=>by
    rcases Tv.1 hx with rfl | hx
    ·exact he
    ·rw [Sv.1 hx];exact k1
   obtain ⟨g1,g2,g3⟩:=ZjS h least f _ _ _ _ hne k2 k
   simp only [ZdS,szS,Td] at g3
   dsimp only at k3
   exact ⟨g1,g2,by omega⟩
theorem Zia {sg:Ts→R Ex} (h:GdE sg):∀k least,GdE (Va sg k least)
 | 0,least=>h
 | k+1,least=>fun ts v ts' ha e=>by
  obtain ⟨a,t1,h1,e⟩:=ZEc e
  obtain ⟨k1,k2,k3⟩:=h _ _ _ ha h1
  obtain ⟨g1,g2,g3⟩:=ZjS (fun n=>Zia h k n) _ _ _ _ _ _ k1 k2 e
  dsimp only at k3 ⊢
  exact ⟨g1,g2,by omega⟩
theorem ZlD {α:Type} {ok:α→Prop} {x:α} (h:ok x):okL ok [x]:=fun y hy=>by rw [Sv.1 hy];exact h
theorem ZgW {d:Nat} {sg:Ts→R Ex} (h:GdE sg):GdE (Vb d sg):=fun ts v ts' ha e=>by
 unfold Vb at e
 split at e
 ·exact m66
 split at e
 ·exact m66
 ·rename_i c1 c2
  exact Zov (Zia h 6 1) (by simpa using c1) (by simpa using c2) ha e
theorem ZjT:∀d,GdE (Yp d)
 | 0=>ZgW fun _ _ _ _ e=>by cases e
 | d+1=>ZgW (ZjT d)
theorem ZlE (d:Nat):GdE (Vp d):=Zia (ZjT d) 6 1
theorem Zm1:∀d,GdE (Zbp d)
 | 0=>fun _ _ _ _ e=>by cases e
 | d+1=>ZlE d
theorem Zd8 {ts:Ts}:∀(ws:List Bs) (i j:Nat),JI ts i ws=some j→ts.tail.length+1=ts.length∧i≤j∧j<i+ws.length
 | [],i,j,h=>by cases h
 | w::ws,i,j,h=>by
  rw [JI] at h
  split at h
  ·rename_i hc;cases h;exact ⟨UZ hc,Tr _,by simp⟩
  ·obtain ⟨h1,h2,h3⟩:=Zd8 ws _ _ h
   simp only [Tc]
   exact ⟨h1,by omega,by omega⟩
theorem Zty {ts ts':Ts} {op:Nat} (ha:AllT ts) (h:Ui ts=.ok op ts'):(3≤op∧op≤12)∧AllT ts'∧pt ts'+4≤pt ts:=by
 unfold Ui at h
 split at h
 ·cases h
 ·rename_i h1
  obtain ⟨i1,i2,i3⟩:=Zd8 _ _ _ h1
  have hp:=ZjP i1
  split at h
  ·rename_i h2
   obtain ⟨j1,j2,j3⟩:=Zd8 _ _ _ h2
   have hp2:=ZjP j1
   cases h
   simp only [Yl,Tc,Td] at j3
   exact ⟨⟨by omega,by omega⟩,ha.tail.tail,by omega⟩
  ·cases h;exact ⟨⟨by omega,by omega⟩,ha.tail,by omega⟩
 ·rename_i h1
  obtain ⟨i1,i2,i3⟩:=Zd8 _ _ _ h1
  have hp:=ZjP i1
  cases h
  simp only [ZT,Tc,Td] at i3
  exact ⟨⟨by omega,by omega⟩,ha.tail,by omega⟩
def Zyh (x:Li):Prop:=YX x=true∧Zfd x=true
theorem ZlF {op:Nat} {rel:Bs} {args:List Ex} {body:List Li} {a:Nat} (h1:Xy op rel args.length body.length=true) (h2:okL okE args) (h3:okL Zyh body):Zyh (.mk op rel args body a):=by
 have e1:args.all ZW=true:=Tl.2 fun x hx=>(h2 x hx).1
 have e2:args.all Zcl=true:=Tl.2 fun x hx=>(h2 x hx).2
 have e3:body.all YX=true:=Tl.2 fun x hx=>(h3 x hx).1
 have e4:body.all Zfd=true:=Tl.2 fun x hx=>(h3 x hx).2
 constructor
 ·simp only [YX,Zq,Vq,Tj];exact ⟨h1,e1,e3⟩
 ·simp only [Zfd,WM,Uf,Tj];exact ⟨e2,e4⟩
theorem Zyi (o:Nat) (t:Bs) (l:List Ex) (b:List Li) (a:Nat):wL (.mk o t l b a)=1+t.length+szS wE l+szS wL b:=by rw [wL,Vk]
abbrev okB (l:List Li):Prop:=okL Zyh l∧l≠[]
theorem ZgX {d op a:Nat} (hop:op=1∨op=2) {ts ts':Ts} {v:Li} (ha:AllT ts) (h:Ji d op a ts=.ok v ts'):Zyh v∧AllT ts'∧1+wL v+pt ts'≤pt ts:=by
 obtain ⟨nm,t1,h1,h⟩:=ZEc h
 obtain ⟨l,t2,h2,h⟩:=ZEc h
 cases h
 obtain ⟨a1,a2,a3⟩:=XZ ha h1
 obtain ⟨k1,k2,k3⟩:=Zh9 (Zm1 d) _ _ a2 h2
 refine ⟨ZlF ?_ k1 YN,k2,by simp only [Zyi,szS];omega⟩
 unfold Xy
 rw [Th hop,a1];rfl
theorem ZjU {d:Nat} {bd:Ts→R (List Li)} (hb:Gd (szS wL) okB bd) {a op:Nat} {l:List Ex} (hop:3≤op∧op≤12) (hln:(op=9→l.length=1)∧(op≠9→l.length=2)) (hl:okL okE l) {ts ts':Ts} {v:Li} (ha:AllT ts) (h:XC d bd a op l ts=.ok v ts'):Zyh v∧AllT ts'∧wL v+pt ts'≤1+szS wE l+pt ts:=by
 unfold XC at h
 split at h
 ·rename_i h9
  obtain ⟨_,t1,h1,h⟩:=ZEc h
  obtain ⟨b,t2,h2,h⟩:=ZEc h
  obtain ⟨b2,b3⟩:=Wp ha h1
  obtain ⟨t3,h3,h4,h5,h6⟩:=W7 b2 h2
  cases h
  obtain ⟨k1,k2,k3⟩:=hb _ _ _ h4 h3
  obtain ⟨g1,g2⟩:=h6 k2
  have hpos:=TT.2 k1.2
  refine ⟨ZlF ?_ hl k1.1,g1,by simp only [Zyi,Td];omega⟩
  unfold Xy
  rw [Te (by omega),Te (by omega)]
  by_cases c9:op=9
  ·rw [Th c9];simp [hln.1 c9,hpos]
  ·rw [Te c9,Th (by omega)];simp [hln.2 c9,hpos]
 ·rename_i h9
  cases h
  refine ⟨ZlF ?_ hl YN,ha,by simp only [Zyi,szS,Td];omega⟩
  unfold Xy
  rw [Te (by omega),Th (by omega),hln.2 (by omega)];rfl
theorem Zyj {α:Type} {ok:α→Prop} {x y:α} (h:ok x) (h2:ok y):okL ok [x,y]:=fun z hz=>by
 rcases Tv.1 hz with rfl | hz
 ·exact h
 ·rw [Sv.1 hz];exact h2
theorem Zuj {d:Nat} {bd:Ts→R (List Li)} (hb:Gd (szS wL) okB bd):Gd (fun v=>1+wL v) Zyh (Zdu d bd):=fun ts v ts' ha h=>by
 unfold Zdu at h
 split at h
 ·have:=Jt ts
  obtain ⟨a,b,c⟩:=ZgX (.inr rfl) ha.tail h
  exact ⟨a,b,by dsimp only;omega⟩
 split at h
 ·exact ZgX (.inl rfl) ha h
 ·obtain ⟨e,t1,h1,h⟩:=ZEc h
  obtain ⟨op,t2,h2,h⟩:=ZEc h
  obtain ⟨k1,k2,k3⟩:=ZlE _ _ _ _ ha h1
  obtain ⟨o1,o2,o3⟩:=Zty k2 h2
  dsimp only at k3
  split at h
  ·rename_i c9
   obtain ⟨g1,g2,g3⟩:=ZjU hb o1 ⟨fun _=>rfl,fun g=>absurd c9 g⟩ (ZlD k1) o2 h
   simp only [szS] at g3 ⊢
   exact ⟨g1,g2,by omega⟩
  ·rename_i c9
   obtain ⟨g,t3,h3,h⟩:=ZEc h
   obtain ⟨j1,j2,j3⟩:=ZlE _ _ _ _ o2 h3
   obtain ⟨g1,g2,g3⟩:=ZjU hb o1 ⟨fun g=>absurd g c9,fun _=>rfl⟩ (Zyj k1 j1) j2 h
   simp only [szS] at g3 ⊢;dsimp only at j3
   exact ⟨g1,g2,by omega⟩
theorem ZrD:∀d,Gd (szS wL) okB (ZfQ d)
 | 0=>Zde (Zuj fun _ _ _ _ e=>by cases e)
 | d+1=>Zde (Zuj (ZrD d))
def ZBY (x:Ru):Prop:=Y6 x=true∧Zaf x=true
theorem ZrE {nm:Bs} {l:List Ex} {b:List Li} {a:Nat} (h1:Yk nm=true) (h2:okL okE l) (h3:okL Zyh b):ZBY ⟨nm,l,b,a⟩:=by
 have e1:l.all ZW=true:=Tl.2 fun x hx=>(h2 x hx).1
 have e2:l.all Zcl=true:=Tl.2 fun x hx=>(h2 x hx).2
 have e3:b.all YX=true:=Tl.2 fun x hx=>(h3 x hx).1
 have e4:b.all Zfd=true:=Tl.2 fun x hx=>(h3 x hx).2
 constructor
 ·unfold Y6;rw [h1,e1,e3];rfl
 ·unfold Zaf;rw [e2,e4];rfl
theorem Zyk (d:Nat) (b:Bool):Gd (fun v=>1+wRu v) ZBY (Zht d b):=fun ts v ts' ha h=>by
 obtain ⟨nm,t1,h1,h⟩:=ZEc h
 obtain ⟨l,t2,h2,h⟩:=ZEc h
 obtain ⟨a1,a2,a3⟩:=XZ ha h1
 obtain ⟨k1,k2,k3⟩:=Zh9 (Zm1 d) _ _ a2 h2
 split at h
 ·obtain ⟨b,t3,h3,h⟩:=ZEc h
  obtain ⟨_,t4,h4,h⟩:=ZEc h
  cases h
  have:=Jt t2
  obtain ⟨j1,j2,j3⟩:=ZrD _ _ _ _ k2.tail h3
  obtain ⟨g1,g2⟩:=Wp j2 h4
  exact ⟨ZrE a1 k1 j1.1,g1,by simp only [wRu];omega⟩
 ·obtain ⟨_,t4,h4,h⟩:=ZEc h
  cases h
  obtain ⟨g1,g2⟩:=Wp k2 h4
  exact ⟨ZrE a1 k1 YN,g1,by simp only [wRu,szS];omega⟩
def ZBZ (u:Un):Prop:=Za1 u=true∧ZgJ u=true
def ZC0 (c:Co):Prop:=Yc c=true∧ZaK c=true
def ZB0 (i:Ini):Prop:=XX i=true
def ZC1 (o:Ov):Prop:=W4 o=true
theorem Zyl {a1 a2 a3 a4 a5 a6} (h1:okL ZyG a1) (h2:okL ZBX a2) (h3:okL ZBY a3) (h4:okL ZC0 a4) (h5:okL ZB0 a5) (h6:okL ZC1 a6):ZBZ (.mk a1 a2 a3 a4 a5 a6):=by
 have e1:a3.all Y6=true:=Tl.2 fun x hx=>(h3 x hx).1
 have e2:a3.all Zaf=true:=Tl.2 fun x hx=>(h3 x hx).2
 have e3:a4.all Yc=true:=Tl.2 fun x hx=>(h4 x hx).1
 have e4:a4.all ZaK=true:=Tl.2 fun x hx=>(h4 x hx).2
 constructor
 ·simp only [Za1,W5,Tj];exact ⟨Zal h1,Zal h2,e1,e3,Zal h5,Zal h6⟩
 ·simp only [ZgJ,VS,Tj];exact ⟨e2,e4⟩
theorem ZfF (a1 a2 a3 a4 a5 a6):wUn (.mk a1 a2 a3 a4 a5 a6)=1+szS wTy a1+szS wRe a2+szS wRu a3+szS wCo a4+szS wIn a5+szS wOv a6:=by rw [wUn,XY]
abbrev GdU (P:Ts→R Un):Prop:=∀ts v ts',AllT ts→P ts=.ok v ts'→ZBZ v∧AllT ts'∧wUn v+pt ts'≤1+pt ts
theorem Zym {d:Nat} {un:Ts→R Un} (hu:GdU un):Gd (fun v=>1+wCo v) ZC0 (ZfR d un):=fun ts v ts' ha h=>by
 obtain ⟨nm,t1,h1,h⟩:=ZEc h
 obtain ⟨ps,t2,h2,h⟩:=ZEc h
 obtain ⟨a1,a2,a3⟩:=XZ ha h1
 obtain ⟨p1,p2,p3⟩:=Zh8 _ _ _ a2 h2
 have hpa:ps.all Yk=true:=Zal p1
 split at h
 ·rename_i hc
  obtain ⟨b,t3,h3,h⟩:=ZEc h
  obtain ⟨tys,t4,h4,h⟩:=ZEc h
  obtain ⟨u,t5,h5,h⟩:=ZEc h
  have hpt:=Jt t2
  obtain ⟨b1,b2,b3⟩:=XZ p2.tail h3
  obtain ⟨q1,q2,q3⟩:=Zh8 _ _ _ b2 h4
  obtain ⟨t6,h6,h7,h8,h9⟩:=W7 q2 h5
  cases h
  obtain ⟨k1,k2,k3⟩:=hu _ _ _ h7 h6
  obtain ⟨g1,g2⟩:=h9 k2
  have hqa:tys.all Yk=true:=Zal q1
  refine ⟨⟨?_,k1.2⟩,g1,by simp only [wCo];omega⟩
  simp only [Yc,a1,hpa,hqa,b1,k1.1];simp
 ·obtain ⟨u,t5,h5,h⟩:=ZEc h
  obtain ⟨t6,h6,h7,h8,h9⟩:=W7 p2 h5
  cases h
  obtain ⟨k1,k2,k3⟩:=hu _ _ _ h7 h6
  obtain ⟨g1,g2⟩:=h9 k2
  refine ⟨⟨?_,k1.2⟩,g1,by simp only [wCo,szS,Td];omega⟩
  simp only [Yc,a1,hpa,k1.1];simp
theorem Zyn:Gd (fun v=>1+wIn v) ZB0 Zhu:=fun ts v ts' ha h=>by
 obtain ⟨nm,t1,h1,h⟩:=ZEc h
 obtain ⟨_,t2,h2,h⟩:=ZEc h
 obtain ⟨c,t3,h3,h⟩:=ZEc h
 obtain ⟨tys,t4,h4,h⟩:=ZEc h
 cases h
 obtain ⟨a1,a2,a3⟩:=XZ ha h1
 obtain ⟨b2,b3⟩:=Wp a2 h2
 obtain ⟨c1,c2,c3⟩:=XZ b2 h3
 obtain ⟨q1,q2,q3⟩:=Zh8 _ _ _ c2 h4
 have hqa:tys.all Yk=true:=Zal q1
 exact ⟨by simp only [ZB0,XX,a1,c1,hqa];rfl,q2,by simp only [wIn];omega⟩
theorem Zyo:Gd (fun v=>1+wOv v) ZC1 Zhv:=fun ts v ts' ha h=>by
 obtain ⟨nm,t1,h1,h⟩:=ZEc h
 cases h
 obtain ⟨a1,a2,a3⟩:=XZ ha h1
 exact ⟨a1,a2,by simp only [wOv];omega⟩
theorem VV {b:Bool} {d:Nat} {un:Ts→R Un} (hu:GdU un):∀f a1 a2 a3 a4 a5 a6 ts v ts',(okL ZyG a1∧okL ZBX a2∧okL ZBY a3∧okL ZC0 a4∧okL ZB0 a5∧okL ZC1 a6)→AllT ts→ZX b d un f (.mk a1 a2 a3 a4 a5 a6) ts=.ok v ts'→ZBZ v∧AllT ts'∧wUn v+pt ts'≤wUn (.mk a1 a2 a3 a4 a5 a6)+pt ts
 | 0,_,_,_,_,_,_,ts,v,ts',_,_,h=>by cases h
 | f+1,tys,rels,rules,comps,inits,overs,ts,v,ts',hA,ha,h=>by
  obtain ⟨o1,o2,o3,o4,o5,o6⟩:=hA
  rw [Zcc] at h
  split at h
  ·cases h;exact ⟨Zyl o1 o2 o3 o4 o5 o6,ha,Tr _⟩
  have ht:=Jt ts
  have hat:=ha.tail
  split at h
  ·split at h
   ·cases h
   ·obtain ⟨x,t1,h1,h⟩:=ZEc h
    obtain ⟨k1,k2,k3⟩:=Ztx _ _ _ hat h1
    obtain ⟨g1,g2,g3⟩:=VV hu f _ _ _ _ _ _ _ _ _ ⟨Vs o1 k1,o2,o3,o4,o5,o6⟩ k2 h
    exact m56
  split at h
  ·split at h
   ·cases h
   ·obtain ⟨x,t1,h1,h⟩:=ZEc h
    obtain ⟨k1,k2,k3⟩:=Zyg _ _ _ hat h1
    obtain ⟨g1,g2,g3⟩:=VV hu f _ _ _ _ _ _ _ _ _ ⟨o1,Vs o2 k1,o3,o4,o5,o6⟩ k2 h
    exact m56
  split at h
  ·split at h
   ·cases h
   ·obtain ⟨x,t1,h1,h⟩:=ZEc h
    obtain ⟨k1,k2,k3⟩:=Zym hu _ _ _ hat h1
    obtain ⟨g1,g2,g3⟩:=VV hu f _ _ _ _ _ _ _ _ _ ⟨o1,o2,o3,Vs o4 k1,o5,o6⟩ k2 h
    exact m56
  split at h
  ·split at h
   ·cases h
   ·obtain ⟨x,t1,h1,h⟩:=ZEc h
    obtain ⟨k1,k2,k3⟩:=Zyn _ _ _ hat h1
    obtain ⟨g1,g2,g3⟩:=VV hu f _ _ _ _ _ _ _ _ _ ⟨o1,o2,o3,o4,Vs o5 k1,o6⟩ k2 h
    exact m56
  split at h
  ·split at h
   ·cases h
   ·obtain ⟨x,t1,h1,h⟩:=ZEc h
    obtain ⟨k1,k2,k3⟩:=Zyo _ _ _ hat h1
    obtain ⟨g1,g2,g3⟩:=VV hu f _ _ _ _ _ _ _ _ _ ⟨o1,o2,o3,o4,o5,Vs o6 k1⟩ k2 h
    exact m56
  split at h
  ·split at h
   ·cases h
   ·obtain ⟨x,t1,h1,h⟩:=ZEc h
    obtain ⟨k1,k2,k3⟩:=Zyk _ _ _ _ _ ha h1
    obtain ⟨g1,g2,g3⟩:=VV hu f _ _ _ _ _ _ _ _ _ ⟨o1,o2,Vs o3 k1,o4,o5,o6⟩ k2 h
    exact m56
  ·cases h
theorem Zib {b:Bool} {d:Nat} {un:Ts→R Un} (hu:GdU un):GdU (Zhw b d un):=fun ts v ts' ha h=>by
 obtain ⟨g1,g2,g3⟩:=VV hu _ _ _ _ _ _ _ _ _ _ ⟨YN,YN,YN,YN,YN,YN⟩ ha h
 simp only [ZfF,szS] at g3
 exact ⟨g1,g2,by omega⟩
theorem Zm2:∀d,GdU (Zhx d)
 | 0=>Zib fun ts v ts' _ e=>by cases e
 | d+1=>Zib (Zm2 d)
theorem Zow:GdU VJ:=Zib (Zm2 63)
def ZbI (c:Bs):Prop:=c≠[]∧Lib.decodeL c≠(65533,1)∧(Lib.decodeL c).2=c.length∧(ZcZ (Lib.decodeL c).1≠none∨¬(Lib.decodeL c).1<32)
def QTx (s:Bs):Prop:=∃ps:List Bs,s=ps.flatten∧∀c∈ps,ZbI c
theorem QTx.snoc {s c:Bs} (h:QTx s) (hc:ZbI c):QTx (s++c):=by
 obtain ⟨ps,rfl,h⟩:=h
 exact ⟨ps++[c],by simp,Vs h hc⟩
theorem ZdL:∀(f:Nat) (ps:List Bs),(∀c∈ps,ZbI c)→Lib.validGoD f ps.flatten=true
 | 0,ps,_=>rfl
 | f+1,[],_=>by simp [Lib.validGoD]
 | f+1,c::ps,h=>by
  obtain ⟨h1,h2,h3,h4⟩:=h c (List.mem_cons_self ..)
  have hd:Lib.decodeL (c++ps.flatten)=Lib.decodeL c:=ZcY h1 h2
  unfold Lib.validGoD
  rw [T7,Te (by simp [h1]),hd,Te (fun g=>h2 (Prod.ext g.1 g.2)),h3,List.drop_left]
  exact ZdL f ps fun x hx=>h x (Tp _ hx)
theorem ZgY:∀(ps:List Bs) (f:Nat) (out:Bs),(∀c∈ps,ZbI c)→ps.flatten.length<f→(W2 f ps.flatten out).isSome=true
 | [],0,out,_,hf=>by simp at hf
 | [],f+1,out,_,hf=>by simp [W2]
 | c::ps,0,out,_,hf=>by omega
 | c::ps,f+1,out,h,hf=>by
  obtain ⟨h1,h2,h3,h4⟩:=h c (List.mem_cons_self ..)
  have hpos:=TT.2 h1
  have hd:Lib.decodeL (c++ps.flatten)=Lib.decodeL c:=ZcY h1 h2
  simp only [T7,Ta] at hf
  have ih:=fun o=>ZgY ps f o (fun x hx=>h x (Tp _ hx)) (by omega)
  unfold W2
  rw [T7,Te (by simp [h1]),hd,h3,List.drop_left]
  cases hu:ZcZ (Lib.decodeL c).1 with
  | some b=>exact ih _
  | none =>
   simp only
   rw [Te (h4.resolve_left fun g=>g hu)]
   exact ih _
theorem QTx.quote {s:Bs} (h:QTx s):(Vj s).isSome=true:=by
 obtain ⟨ps,rfl,h⟩:=h
 unfold Vj Lib.validD
 rw [Th (ZdL _ _ h),Option.isSome_map]
 exact ZgY _ _ _ h (Sc _)
theorem Zcv {b:UInt8} (hb:b.toNat<128) (h:ZcZ b.toNat≠none∨¬b.toNat<32):ZbI [b]:=by
 have hd:=ZhK b [] hb
 refine ⟨by simp,?_,?_,?_⟩
 ·rw [hd];intro g;have:=congrArg Prod.fst g;simp only at this;omega
 ·rw [hd];rfl
 ·rw [hd];exact h
theorem ZrF {n:Nat} {x:UInt8} (h:Zoz n=some x):ZbI [x]:=by
 unfold Zoz at h
 split at h;· cases h;exact Zcv (by decide) (.inl (by decide))
 split at h;· cases h;exact Zcv (by decide) (.inl (by decide))
 split at h;· cases h;exact Zcv (by decide) (.inl (by decide))
 split at h;· cases h;exact Zcv (by decide) (.inl (by decide))
 cases h
theorem Zic:∀(f:Nat) (r:Bs) (esc:Bool) (acc:Bs) (p:Nat) (t:Bs) (l:Nat),QTx acc→Zu f r esc acc p=.ok t l→QTx t∧t.length+p≤acc.length+l
 | 0,r,esc,acc,p,t,l,_,h=>by cases h
 | f+1,r,esc,acc,p,t,l,ha,h=>by
  have hrg:=Jh r
  rw [Zu] at h
  split at h
  ·cases h
  rename_i hr
  split at h
  ·split at h
   ·cases h
   ·rename_i b hb
    obtain ⟨h1,h2⟩:=Zic f _ _ _ _ _ _ (ha.snoc (ZrF hb)) h
    simp only [Ta,TD] at h2
    exact ⟨h1,by omega⟩
  split at h
  ·cases h;exact ⟨ha,by omega⟩
  split at h
  ·obtain ⟨h1,h2⟩:=Zic f _ _ _ _ _ _ ha h
   exact ⟨h1,by omega⟩
  split at h
  ·cases h
  ·rename_i h34 h92 h32
   have hpk:(pk r).1≠-1:=by omega
   obtain ⟨_,he,henc⟩:=ZBz hpk
   have hd:=Lib.decodeL_le r hr
   have hv:Lib.decodeL r≠(65533,1):=fun g=>by
    unfold pk at hpk
    rw [Th (.inr g)] at hpk
    exact hpk rfl
   have hpc:ZbI (Lib.encodeRune (Lib.decodeL r).1):=by
    rw [henc]
    have htl:(r.take (Lib.decodeL r).2).length=(Lib.decodeL r).2:=by rw [Se];omega
    have hdt:Lib.decodeL (r.take (Lib.decodeL r).2)=Lib.decodeL r:=Zay (by omega) (Tr _)
    refine ⟨fun g=>by rw [g] at htl;simp at htl;omega,by rw [hdt];exact hv,by rw [hdt,htl],.inr ?_⟩
    rw [hdt]
    rw [he] at h32
    simp only at h32
    omega
   obtain ⟨h1,h2⟩:=Zic f _ _ _ _ _ _ (ha.snoc hpc) h
   rw [henc] at h2
   simp only [Ta,Se] at h2
   exact ⟨h1,by omega⟩
theorem Ztz (n:Int):ZsP (IntKind.i64.wrap n)=true:=by
 unfold ZsP
 simp only [IntKind.wrap,show IntKind.i64.bits=64 from rfl,show IntKind.i64.signed=true from rfl,TC,Tj,TJ]
 split <;> omega
theorem ZgZ {k j:Nat} {p:Prop} (h:k≠j) (g:k=j):p:=absurd g h
theorem Zd9:AllT []:=fun _ h=>by cases h
theorem Zyp {a:Nat} {r:Bs} {t:Tok} (h0:0<r.length) (h:WU a r true=.tok t):TokK t.t0∧t.text.length+a≤t.fin∧t.fin≤a+r.length:=by
 have ha:=Zqd h0 h
 obtain ⟨_,hlt,hfe⟩:=ZeH h0 h
 rw [ZK] at h
 split at h
 ·cases h
 rw [Te (by simp)] at h
 split at h
 ·cases h
  refine ⟨⟨Zm0,fun g=>ZgZ (k:=4) (j:=3) (by decide) g,fun g=>ZgZ (k:=4) (j:=1) (by decide) g⟩,?_,hfe⟩
  simp only [Se];omega
 split at h
 ·unfold ZaG at h
  split at h
  ·cases h
  ·rename_i tx l htx
   cases h
   unfold Wc at htx
   obtain ⟨h1,h2⟩:=Zic _ _ _ _ _ _ _ ⟨[],rfl,fun _ g=>by cases g⟩ htx
   have h2:tx.length+1≤0+l:=h2
   exact ⟨⟨Zm0,fun _=>h1.quote,fun g=>ZgZ (k:=3) (j:=1) (by decide) g⟩,by dsimp only;omega,hfe⟩
 split at h
 ·unfold XE at h
  split at h
  ·cases h
  ·cases h
   exact ⟨⟨Ztz _,fun g=>ZgZ (k:=2) (j:=3) (by decide) g,fun g=>ZgZ (k:=2) (j:=1) (by decide) g⟩,by simp only [Td];omega,hfe⟩
 ·rename_i hbad hs h34 hdg
  cases h
  refine ⟨⟨Zm0,fun g=>ZgZ (k:=1) (j:=3) (by decide) g,fun _=>?_⟩,by simp only [Se];omega,hfe⟩
  simp only [Ss] at ha
  rw [ZK] at ha
  split at ha
  ·cases ha
  rename_i hb2
  rw [Te (by simp)] at ha
  split at ha
  ·cases ha
  rename_i hs2
  split at ha
  ·unfold ZaG at ha
   split at ha <;> cases ha
  rename_i h342
  split at ha
  ·unfold XE at ha
   split at ha <;> cases ha
  rename_i hd2
  have hl:Zg (pk (r.take (Xg r))).1=true:=by
   cases hl:Zg (pk (r.take (Xg r))).1 with
   | true=>rfl
   | false=>exact absurd ⟨by omega,h342,hl,by simpa using hd2⟩ hb2
  injection ha with ha
  have hfin:=congrArg Tok.fin ha
  have htx:=congrArg Tok.text ha
  simp only [Sm] at hfin htx
  show W3 (r.take (Xg r))=true
  unfold W3
  rw [hl,TC,TJ]
  have h5:a+Xg r≤a+r.length:=hfe
  have h6:Xg (r.take (Xg r))=a+Xg r - a:=by omega
  rw [h6,Se]
  omega
theorem Zuk:∀(f:Nat) (most:Int) (a:Nat) (r:Bs),AllT ((XS f most a r).1.map Tok.t0)∧pt ((XS f most a r).1.map Tok.t0)≤r.length+4 * (XS f most a r).1.length
 | 0,most,a,r=>⟨Zd9,by simp [XS,pt]⟩
 | f+1,most,a,r=>by
  rw [XS]
  split
  ·exact ⟨Zd9,by simp [pt]⟩
  dsimp only
  split
  ·exact ⟨Zd9,by simp [pt]⟩
  rename_i hne
  split
  ·exact ⟨Zd9,by simp [pt]⟩
  ·rename_i t ht
   have hroom:=ZxC ht
   rw [hroom] at ht
   obtain ⟨h1,h2,h3⟩:=Zyp (TT.2 hne) ht
   obtain ⟨i1,i2⟩:=Zuk f (most - 1) t.fin ((r.drop (ZP r).2).drop (t.fin - (a+(ZP r).2)))
   refine ⟨fun x hx=>?_,?_⟩
   ·rw [Tw] at hx
    rcases Tv.1 hx with rfl | hx
    ·exact h1
    ·exact i1 x hx
   ·simp only [Tw,pt,Tc]
    simp only [Tu] at i2 h3
    show t.text.length+4+_≤_
    omega
theorem Zyq {s:Bs} {v:Un} {L:List Tok} (h:Y5 65536 16384 VJ s=.ok v L):ZBZ v∧wUn v≤200000:=by
 unfold Y5 at h
 split at h
 ·cases h
 rename_i hs
 split at h
 ·cases h
 split at h
 ·rename_i h1
  cases h
  obtain ⟨g1,g2⟩:=Zuk (s.length+1) ((16384:Nat):Int) 0 s
  obtain ⟨k1,k2,k3⟩:=Zow _ _ _ g1 h1
  have k4:=ZhG s ((16384:Nat):Int)
  have k5:(XS (s.length+1) ((16384:Nat):Int) 0 s).1.length≤16384:=k4
  exact ⟨k1,by omega⟩
 ·cases h
 ·cases h
end Go.PM.Lex
end

section
namespace Go.PM.Lex
open Go.Proofs
variable {w0:World} {nG:Nat}
noncomputable def ZfG:Zz:=fun args σ K=>match args,σ with
 | [.d (.str s)],⟨[],[],0⟩=>s.length<4294967281∧K (.ret (.d (.bool true))) ⟨[],[],0⟩
 | _,_=>False
noncomputable def Zox:Tbl:=[(26,Zor 200000),(28,Ze3),(19,U3 XK XL Zjn 200000),(12,Zcm)]
theorem Zoy (ht:TblOK (GG w0 nG) Zox):PCalls (GG w0 nG) 10 ZfG:=by
 refine pc ht Tryz.func10 ?_
 intro args σ K h
 unfold ZfG at h
 split at h
 ·rename_i s
  obtain ⟨hs,h⟩:=h
  refine ⟨Za [],0,false,by simp,Tb rfl,?_⟩
  conv=>whnf
  refine ⟨hs,fun x hx=>?_⟩
  cases x with
  | err p e =>
   have he:e≠0:=Zbx ZdD hx
   unfold Zsy
   dsimp only
   conv=>whnf
   refine ZEf (fun hc=>?_) (fun hc=>?_)
   ·exact m31
   ·exact absurd hc (by omega)
  | ok u L =>
   obtain ⟨⟨hm,hr⟩,hw⟩:=Zyq hx
   have hz:=Zou hx
   obtain ⟨P,hP⟩:∃P,Ze L s.length=P:=⟨_,rfl⟩
   obtain ⟨a1,a2,a3,a4,a5,a6⟩:=u
   have hl:=Zlx _ hr
   unfold Zsy
   dsimp only
   rw [hP]
   conv=>whnf
   refine ZEb (fun hc=>?_) (fun hc=>?_)
   ·exact m31
   conv=>whnf
   refine ⟨P,.mk a1 a2 a3 a4 a5 a6,rfl,⟨fun _=>hr,hw,by decide⟩,fun hm2=>absurd (hm.symm.trans hm2) (by decide),fun _ x hx=>?_⟩
   have hb:=Zrc hm hr
   rw [hx] at hb
   rcases hb with ⟨v,L,he,rfl⟩ | ⟨p,e,hc,rfl⟩
   ·have hT:=ZBw he
    have hmv:=(Zop he).trans hm
    have hrv:=(Zoq he).trans hr
    have hwv:=Zrn he
    have hsame:XL (.mk a1 a2 a3 a4 a5 a6) v=true:=ZrC he.symm
    obtain ⟨b1,b2,b3,b4,b5,b6⟩:=v
    obtain ⟨T,hTT⟩:∃T,unT (.mk a1 a2 a3 a4 a5 a6)=T:=⟨_,rfl⟩
    rw [hTT] at hx hT hl ⊢
    rw [Ve]
    dsimp only
    conv=>whnf
    refine ⟨by omega,fun y hy=>?_⟩
    rw [hx] at hy
    subst hy
    unfold Zsy
    dsimp only
    conv=>whnf
    refine ⟨Ze L T.length,.mk b1 b2 b3 b4 b5 b6,rfl,⟨fun _=>hrv,by omega,by decide⟩,fun hm2=>absurd (hmv.symm.trans hm2) (by decide),fun _ y hy=>?_⟩
    rw [hT,hx] at hy
    subst hy
    rw [hT,Ve]
    dsimp only
    conv=>whnf
    refine ⟨P,.mk a1 a2 a3 a4 a5 a6,Ze L T.length,.mk b1 b2 b3 b4 b5 b6,rfl,rfl,⟨by omega,by decide⟩,fun b hb=>?_⟩
    obtain rfl:b=true:=hb.symm.trans hsame
    conv=>whnf
    (repeat (refine ⟨rfl,?_⟩;conv=>whnf))
    refine ZEb (fun _=>?_) (fun g=>absurd rfl g)
    exact m31
   ·rw [Ve,Th hc]
    exact m31
 ·exact h.elim
end Go.PM.Lex
end

section
namespace Go.PM.Lex
open Go.Proofs
variable {w0:World} {nG:Nat}
structure Pr where
 types:List Ty
 rels:List Re
 rules:List Ru
end Go.PM.Lex
end

section
namespace Go.PM.Lex
open Go.Proofs
variable {w0:World} {nG:Nat}
end Go.PM.Lex
end

section
namespace Go
variable {H:Type} {enc:TypeId×Value→H}
end Go
namespace Go.PM.Lex
open Go.Proofs Go.Proofs.YtflgockgjnddnaaGreatDoor Go.ChangeShapes Go.WideShapes Go.ChangeAt Go.RowKit
theorem ZC2:ownKnob Tryz.prog.godebug=none:=by kernel_rfl
theorem Zul : "*" ++ "errors.errorString" = "*errors.errorString" := by decide
theorem ZtA (u : TypeId) (h : Tryz.prog.typeName? 3 u = some "*errors.errorString") : u = 352 :=
 typeName_ptr_named (nm := "errors.errorString") (by rw [Zul]; kernel_rfl) (by kernel_rfl) (by decide) u (by rw [Zul]; exact h)
theorem ZrG {W:World} {n:String} {text:List UInt8} {g:Nat} (hg:Tryz.prog.globalNamed n=some g) (ht:(Tryz.prog.globals[g]?).map (·.type)=some 206)
  (h : laidMet Tryz.prog [(n, .iface "*errors.errorString" (.ptr (.agg [.lit (.string text)])))] W) : ∃ ev, W.cell? ⟨g, 0, none⟩ = some ev ∧ (ev = .nilIface ∨ ∃ te pe, ev = .iface te pe) := by
 obtain ⟨a1,s1,hv1,_⟩:=laid_sentinel h hg ht Tryz.underlying206 ZtA Tryz.underlying352 Tryz.underlying354 rfl rfl Tryz.underlying9 (by kernel_rfl) (by kernel_rfl)
 refine ⟨.iface 352 (.pointer (some a1)),?_,.inr ⟨_,_,rfl⟩⟩
 simpa using World.var?_cell hg hv1 0
theorem ZBD {W:World} (h:laidMetH Tryz.prog Rows.printUnlikeRow.laid W) (hsh:W.ShapedOpen Tryz.prog):GlobOK W 8:=by
 rw [MakeChecks.laidMetH_plain _ _ _ (by kernel_rfl)] at h
 have h1 := laidMet.filter (fun x => x.1 == "strconv.ErrSyntax") h
 have h2 := laidMet.filter (fun x => x.1 == "strconv.ErrRange") h
 exact ⟨by omega,Tryz.laysM143.s1_3 W hsh,ZrG (by kernel_rfl) (by kernel_rfl) h1,ZrG (by kernel_rfl) (by kernel_rfl) h2⟩
theorem ZBE {e e':Env} {W W':World} {σ':St} {may:MemPlace→Prop} (h:Later e ⟨[],[],0⟩ W e' σ' W'):W.keptBut W' may:=by
 refine ⟨h.os,h.output,fun i hi=>?_⟩
 have:=h.blocks i hi (fun j hj=>by simp at hj) (fun t ht=>by cases ht)
 rw [this]
 cases hh:W.heap[i]? with
 | none=>rfl
 | some o=>cases o <;> simp
def ZBF:Env:=⟨fun _=>0,fun _=>none,fun _ _=>False⟩
theorem Zyr {W:World} (h:8≤W.heap.size):SRel (GG W 8) ZBF ⟨[],[],0⟩ W where
 inj:=fun i j hi=>by simp at hi
 box:=fun i x hx=>by simp at hx
 low:=fun i hi=>by simp at hi
 tkn:=fun t ht=>by cases ht
 own:=fun t ht=>by cases ht
 dis:=fun t t' ht=>by cases ht
 xlt:=fun b off hx=>hx.elim
 xown:=fun t ht=>by cases ht
 glob:=fun b hb=>rfl
 big:=h
end Go.PM.Lex
end

section
namespace Go.PM.Lex
open Go.Proofs Go.Proofs.YtflgockgjnddnaaGreatDoor
theorem Zys:Rows.laid_unicode_utf8_first=Lib.firstData:=by kernel_rfl
theorem ZtB:(Rows.laid_unicode_utf8_acceptRanges:DataW Unit)=Lib.acceptData:=by kernel_rfl
theorem ZBG {W:World} (h:laidMetH Tryz.prog Rows.printUnlikeRow.laid W):Lib.Utf8Tabs 0 1 W:=by
 rw [MakeChecks.laidMetH_plain _ _ _ (by kernel_rfl)] at h
 have h1:=Lib.laidMet.reads (d:=Rows.laid_unicode_utf8_first) h (.tail _ (.tail _ (.tail _ (.tail _ (.tail _ (.tail _ (.head _)))))))
 have h2:=Lib.laidMet.reads (d:=Rows.laid_unicode_utf8_acceptRanges) h (.tail _ (.tail _ (.tail _ (.head _))))
 rw [Zys] at h1
 rw [ZtB] at h2
 exact utf8Tabs_of_readsT (U8Types.of196 Tryz.laysValid) ⟨by kernel_rfl,by kernel_rfl,by kernel_rfl,by kernel_rfl,by kernel_rfl,by kernel_rfl,by kernel_rfl⟩ h1 h2
variable {w0:World} {nG:Nat}
theorem ZC3 (hb:1<nG) (hT:Lib.Utf8Tabs 0 1 w0):LexC w0 nG where
 name:=ZCz ⟨⟨Zpy,VD⟩,⟨ZbZ,Vo⟩,⟨ZyZ,ZeC⟩,trivial⟩
 quote:=ZsD ⟨⟨Zsz hb hT,Zjo⟩,⟨Zdr,Jz⟩,⟨Zgx,JB⟩,⟨Zds,JA⟩,⟨ZiR,ZbY⟩,trivial⟩
end Go.PM.Lex
end

section
namespace Go.PM.Lex
open Go.Proofs Go.Proofs.YtflgockgjnddnaaGreatDoor
def ZtC:DataW Unit→List Int
 | .agg xs=>xs.map fun | .lit (.int _ z)=>z | _=>0
 | _=>[]
theorem Zyt:(Rows.laid_internal_strconv_uint64pow10:DataW Unit)=Lib.tabData .u64 Lib.pow10Tab:=by kernel_rfl
theorem ZC4:(Rows.laid_math_bits_deBruijn64tab:DataW Unit)=Lib.tabData .u8 (ZtC Rows.laid_math_bits_deBruijn64tab):=by kernel_rfl
theorem Zyu:(ZtC Rows.laid_math_bits_deBruijn64tab).getD 15 0=4:=by kernel_rfl
theorem ZBH:(ZtC Rows.laid_math_bits_deBruijn64tab).length=64:=by kernel_rfl
theorem ZC5 {W:World} (h:laidMetH Tryz.prog Rows.printUnlikeRow.laid W):NumOK W 8:=by
 rw [MakeChecks.laidMetH_plain _ _ _ (by kernel_rfl)] at h
 have h1 := laidMet.filter (fun x => x.1 == "internal/strconv.uint64pow10") h
 have h2 := laidMet.filter (fun x => x.1 == "math/bits.deBruijn64tab") h
 have k1 : laidMet Tryz.prog [("internal/strconv.uint64pow10", Lib.tabData .u64 Lib.pow10Tab)] W := by rw [← Zyt]; exact h1
 have k2 : laidMet Tryz.prog [("math/bits.deBruijn64tab", Lib.tabData .u8 (ZtC Rows.laid_math_bits_deBruijn64tab))] W := by rw [← ZC4]; exact h2
 refine ⟨by decide,Lib.tabIs_of_head (g:=3) (t:=304) (by kernel_rfl) (by kernel_rfl) Tryz.underlying304 (by kernel_rfl) (by kernel_rfl) (by kernel_rfl) k1,?_⟩
 have k3:=Lib.tabIs_of_head (g:=5) (t:=334) (by kernel_rfl) (by kernel_rfl) Tryz.underlying334 (by kernel_rfl) (by kernel_rfl) (by kernel_rfl) k2
 have k4:=k3.cell (g:=5) (by kernel_rfl) 15 (by rw [ZBH];decide)
 rw [Zyu] at k4
 exact k4
end Go.PM.Lex
end

section
namespace Go.PM.Lex
open Go.Proofs Go.Proofs.YtflgockgjnddnaaGreatDoor
theorem Yu {a b:Bool} (h1:a=true) (h2:b=true):(a && b)=true:=by rw [h1,h2];rfl
theorem ZrH {P:Program} {f:FuncId} {fn:Func} {s:ChangeSpec} {c:OpenClaim}
  (p1:laidOutB P=true) (p2:mapsRowed P=true) (p3:(P.stops == [])=true) (p4:(P.stopKnobs == [])=true) (p5:(c.plainKeys == P.plainKeys)=true) (p6:P.stopsHeard=true) (p7:P.mayEnter=true) (p8:(c.lifted == P.liftsFinal)=true) (p9:(P.make == some c.make)=true)
  (k1:c.wf (OpenSpec.ofChange s)=true) (k2:fn.params.all (P.readableRec ·)=true) (k3:namedTie P c.named s.vars=true) (k4:(c.stops == [])=true) (k5:(c.knobs == [])=true)
  (k6:(c.inPlace == P.inPlace f)=true) (k7:(c.unfollowed == P.unfollowed f)=true) (k8:(c.recurses == P.recurses f)=true) (k9:(c.named == P.varsNamed f)=true)
  (k10:(c.maps == (fn.params.toList++s.plain.varTypes P).any (P.mapsRec ·))=true) (k11:(c.ifaces == (fn.params.toList++s.plain.varTypes P).any (P.ifacesRec ·))=true) (k12:(c.mapsOut == P.mapsAmong fn.resultTypes.toList)=true)
  (k13:(c.loops == (fn.params.toList++s.plain.varTypes P).any (P.loopsFrom ·))=true) (k14:(c.wideKeys == (fn.params.toList++s.plain.varTypes P++fn.resultTypes.toList).any (P.wideKeysFrom ·))=true)
  (k15:s.vars.all (P.varReadable ·)=true) (k16:fn.resultTypes.all (fun t=>P.readableRec t && decide (t<P.types.size))=true) (k17:(c.ifacesOut == fn.resultTypes.toList.any (P.ifacesRec ·))=true) (k18:(c.loopsOut == fn.resultTypes.toList.any (P.loopsFrom ·))=true)
  (k19:c.shortTexts.isNone=true) (k20:(c.kinds == (if c.domain.isEmpty then [] else fn.params.toList.map fun t=>match P.underlying t with | some (.int k)=>some k | _=>none))=true) (k21:(c.pinned == c.pinnedBy)=true)
  (k22:(c.veiled == (fn.params.toList++s.plain.varTypes P++fn.resultTypes.toList).any (P.veiledRec ·))=true) (k23:c.veiledFits P fn.params.toList (fn.params.toList++s.plain.varTypes P++fn.resultTypes.toList)=true):joinedFacts P f fn s c=true:=by
 unfold joinedFacts
 exact (Yu (Yu (Yu (Yu (Yu (Yu (Yu (Yu (Yu (Yu (Yu (Yu (Yu (Yu (Yu (Yu (Yu (Yu (Yu (Yu (Yu (Yu (Yu (Yu (Yu (Yu (Yu (Yu (Yu (Yu (Yu k1 p1) p2) k2) k3) k4) p3) k5) p4) k6) k7) k8) k9) k10) k11) k12) k13) k14) k15) k16) k17) k18) p5) k19) p6) p7) p8) p9) k20) k21) k22) k23)
theorem jp1:laidOutB Tryz.checked.prog=true:=by kernel_rfl
theorem jp2:mapsRowed Tryz.checked.prog=true:=by kernel_rfl
theorem jp3:(Tryz.checked.prog.stops == [])=true:=by kernel_rfl
theorem jp4:(Tryz.checked.prog.stopKnobs == [])=true:=by kernel_rfl
theorem jp5:(Rows.printUnlikeRow.plainKeys == Tryz.checked.prog.plainKeys)=true:=by kernel_rfl
theorem jp6:Tryz.checked.prog.stopsHeard=true:=by kernel_rfl
theorem jp7:Tryz.checked.prog.mayEnter=true:=by kernel_rfl
theorem jp8:(Rows.printUnlikeRow.lifted == Tryz.checked.prog.liftsFinal)=true:=by kernel_rfl
theorem jp9:(Tryz.checked.prog.make == some Rows.printUnlikeRow.make)=true:=by kernel_rfl
theorem jp10:Tryz.checked.prog.mainIs=some (Rows.printUnlikeCard.stood.harness.1,Rows.printUnlikeCard.stood.harness.2.toList):=by kernel_rfl
theorem jp11:Rows.printUnlikeCard.stood.looks=Tryz.checked.prog.looks []:=by kernel_rfl
end Go.PM.Lex
end

section
namespace Go.PM
mutual
inductive PlainD (P:Program):TypeId→List D→Nat→Prop
 | int {t:TypeId} {k:IntKind} {n:Int} (h:P.underlying t=some (.int k)) (hw:(Lit.int k n).wf=true):PlainD P t [.int k n] 1
 | str {t:TypeId} {s:List UInt8} (h:P.underlying t=some .string):PlainD P t [.str s] (s.length+1)
 | bool {t:TypeId} {b:Bool} (h:P.underlying t=some .bool):PlainD P t [.bool b] 1
 | st {t:TypeId} {fs:Array Field} {ds:List D} {b:Nat} (h:P.underlying t=some (.struct fs)) (hf:PlainFs P (fs.toList.map (·.type)) ds b):PlainD P t ds (b+1)
 | sl {t e:TypeId} {rows:List (List D)} {b:Nat} (h:P.underlying t=some (.slice e)) (hr:PlainRs P e rows b):PlainD P t [.sl rows] (b+1)
inductive PlainFs (P:Program):List TypeId→List D→Nat→Prop
 | nil:PlainFs P [] [] 0
 | cons {f:TypeId} {l:List TypeId} {r ds:List D} {b c:Nat} (h1:PlainD P f r b) (h2:PlainFs P l ds c):PlainFs P (f::l) (r++ds) (b+c)
inductive PlainRs (P:Program):TypeId→List (List D)→Nat→Prop
 | nil {e:TypeId}:PlainRs P e [] 0
 | cons {e:TypeId} {r:List D} {rows:List (List D)} {b c:Nat} (h1:PlainD P e r b) (h2:PlainRs P e rows c):PlainRs P e (r::rows) (b+c)
end
structure CR (ok:Nat→Nat→Prop) (w:World) (ds:List D) (cs:List Value):Prop where
 len:ds.length=cs.length
 rel:∀(i:Nat) (x:D) (u:Value),ds[i]?=some x→cs[i]?=some u→DRel ok w x u
 one:∀u∈cs,u.oneCell'=true
theorem CR.nil {ok:Nat→Nat→Prop} {w:World}:CR ok w [] []:=⟨rfl,fun i x u h=>by simp at h,fun u h=>by cases h⟩
section
variable {H:Type} {enc:TypeId×Value→H} {P:Program} {w:World} {ok:Nat→Nat→Prop}
end
end Go.PM
end

section
namespace Go.PM
def stB (P:Program) (t:TypeId) (tys:List TypeId):Bool:=match P.underlying t with | some (.struct fs)=>decide (fs.toList.map (·.type)=tys) | _=>false
def slB (P:Program) (t e:TypeId):Bool:=match P.underlying t with | some (.slice u)=>decide (u=e) | _=>false
def ZBI (P:Program) (t:TypeId) (k:IntKind):Bool:=match P.underlying t with | some (.int u)=>decide (u=k) | _=>false
def ZB1 (P:Program) (t:TypeId):Bool:=match P.underlying t with | some .string=>true | _=>false
def Zyv (P:Program) (t:TypeId):Bool:=match P.underlying t with | some .bool=>true | _=>false
section
variable {P:Program} {t e:TypeId} {ds:List D} {b:Nat}
theorem PlainD.inv_st {tys:List TypeId} (h:PlainD P t ds b) (hu:stB P t tys=true):∃c,b=c+1∧PlainFs P tys ds c:=by
 unfold stB at hu
 cases h with
 | st h hf=>rw [h] at hu;simp only [TJ] at hu;exact ⟨_,rfl,hu ▸ hf⟩
 | int h _=>rw [h] at hu;cases hu
 | str h=>rw [h] at hu;cases hu
 | bool h=>rw [h] at hu;cases hu
 | sl h _=>rw [h] at hu;cases hu
theorem PlainD.inv_sl (h:PlainD P t ds b) (hu:slB P t e=true):∃rows c,ds=[.sl rows]∧b=c+1∧PlainRs P e rows c:=by
 unfold slB at hu
 cases h with
 | sl h hr=>rw [h] at hu;simp only [TJ] at hu;exact ⟨_,_,rfl,rfl,hu ▸ hr⟩
 | int h _=>rw [h] at hu;cases hu
 | str h=>rw [h] at hu;cases hu
 | bool h=>rw [h] at hu;cases hu
 | st h _=>rw [h] at hu;cases hu
theorem PlainD.inv_int {k:IntKind} (h:PlainD P t ds b) (hu:ZBI P t k=true):∃n,ds=[.int k n]∧b=1∧(Lit.int k n).wf=true:=by
 unfold ZBI at hu
 cases h with
 | int h hw=>rw [h] at hu;simp only [TJ] at hu;subst hu;exact ⟨_,rfl,rfl,hw⟩
 | sl h _=>rw [h] at hu;cases hu
 | str h=>rw [h] at hu;cases hu
 | bool h=>rw [h] at hu;cases hu
 | st h _=>rw [h] at hu;cases hu
theorem PlainD.inv_str (h:PlainD P t ds b) (hu:ZB1 P t=true):∃s,ds=[.str s]∧b=s.length+1:=by
 unfold ZB1 at hu
 cases h with
 | str h=>exact ⟨_,rfl,rfl⟩
 | sl h _=>rw [h] at hu;cases hu
 | int h _=>rw [h] at hu;cases hu
 | bool h=>rw [h] at hu;cases hu
 | st h _=>rw [h] at hu;cases hu
theorem PlainD.inv_bool (h:PlainD P t ds b) (hu:Zyv P t=true):∃q,ds=[.bool q]∧b=1:=by
 unfold Zyv at hu
 cases h with
 | bool h=>exact ⟨_,rfl,rfl⟩
 | sl h _=>rw [h] at hu;cases hu
 | int h _=>rw [h] at hu;cases hu
 | str h=>rw [h] at hu;cases hu
 | st h _=>rw [h] at hu;cases hu
theorem PlainFs.inv {f:TypeId} {l:List TypeId} (h:PlainFs P (f::l) ds b):∃r ds' b1 c,ds=r++ds'∧b=b1+c∧PlainD P f r b1∧PlainFs P l ds' c:=by
 cases h with
 | cons h1 h2=>exact ⟨_,_,_,_,rfl,rfl,h1,h2⟩
theorem PlainFs.inv0 (h:PlainFs P [] ds b):ds=[]∧b=0:=by cases h;exact ⟨rfl,rfl⟩
end
end Go.PM
namespace Go.PM.Lex
open Go.Proofs
def plZ:Pl:=fun n=>if n % 2=0 then (n / 2:Nat) else -((n / 2:Nat):Int) - 1
def zc (z:Int):Nat:=if 0≤z then 2 * z.toNat else 2 * (-z - 1).toNat+1
theorem Zam (z:Int):plZ (zc z)=z:=by
 unfold plZ zc
 by_cases h:0≤z
 ·rw [Th h,Th (by omega)];omega
 ·rw [Te h,Te (by omega)];omega
theorem Ju {α:Type} {P:Program} {e:TypeId} {enc:α→List D} {sz w:α→Nat} {p:α→Bool}:∀{rows:List (List D)} {b:Nat},PlainRs P e rows b→(∀r c,c≤b→PlainD P e r c→∃x,r=enc x∧sz x+1≤2 * c∧w x+1≤2 * c∧p x=true)→∃xs,rows=xs.map enc∧szS sz xs≤2 * b∧szS w xs≤2 * b∧xs.all p=true
 | [],b,h,hd=>⟨[],rfl,by simp [szS],by simp [szS],rfl⟩
 | r::rows,b,h,hd=>by
  cases h with
  | cons h1 h2 =>
   rename_i b1 c
   obtain ⟨x,rfl,g1,g2,g5⟩:=hd r b1 (by omega) h1
   obtain ⟨xs,rfl,g3,g4,g6⟩:=Ju h2 fun r c' hc=>hd r c' (by omega)
   exact ⟨x::xs,rfl,by simp only [szS];omega,by simp only [szS];omega,by rw [List.all_cons,g5,g6];rfl⟩
theorem Zyw {n:Int} (h:(Lit.int .u8 n).wf=true):∃k:Nat,n=k:=by
 have:0≤n∧n≤255:=by simpa [Lit.wf,IntKind.min,IntKind.max,IntKind.signed,IntKind.bits] using h
 exact ⟨n.toNat,by omega⟩
theorem ZBJ {n:Int} (h:(Lit.int .i64 n).wf=true):ZsP n=true:=by
 have:-9223372036854775808≤n∧n≤9223372036854775807:=by simpa [Lit.wf,IntKind.min,IntKind.max,IntKind.signed,IntKind.bits] using h
 simp only [ZsP,Tj,TJ]
 omega
theorem ZlG {P:Program} {t:TypeId} (hu:ZB1 P t=true) (b:Nat):∀r c,c≤b→PlainD P t r c→∃x,r=ZC x∧sz0 x+1≤2 * c∧wBs x+1≤2 * c∧(fun _=>true) x=true:=fun r c _ h=>by
 obtain ⟨s,rfl,rfl⟩:=h.inv_str hu
 exact ⟨s,rfl,by simp only [sz0];omega,by simp only [wBs];omega,rfl⟩
theorem stE:stB Tryz.prog 24 [5,9,2,22,3]=true:=by kernel_rfl
theorem stL:stB Tryz.prog 60 [5,9,22,48,3]=true:=by kernel_rfl
theorem ZDU:stB Tryz.prog 50 [9,22,48,3]=true:=by kernel_rfl
theorem ZDV:stB Tryz.prog 66 [9,9]=true:=by kernel_rfl
theorem ZDW:stB Tryz.prog 148 [9,61]=true:=by kernel_rfl
theorem ZDX:stB Tryz.prog 64 [5,9,9,61,62,3]=true:=by kernel_rfl
theorem ZDY:stB Tryz.prog 68 [9,61,4,4,4,3]=true:=by kernel_rfl
theorem ZDZ:stB Tryz.prog 73 [9,9,69,3]=true:=by kernel_rfl
theorem ZD0:stB Tryz.prog 75 [9,3]=true:=by kernel_rfl
theorem ZD1:stB Tryz.prog 44 [37,38,39,40,41,42]=true:=by kernel_rfl
theorem ZD2:stB Tryz.prog 71 [9,69,9,69,44,3]=true:=by kernel_rfl
theorem slE:slB Tryz.prog 22 24=true:=by kernel_rfl
theorem slL:slB Tryz.prog 48 60=true:=by kernel_rfl
theorem ZC6:slB Tryz.prog 61 66=true:=by kernel_rfl
theorem ZD3:slB Tryz.prog 62 148=true:=by kernel_rfl
theorem ZD4:slB Tryz.prog 37 64=true:=by kernel_rfl
theorem ZD5:slB Tryz.prog 38 68=true:=by kernel_rfl
theorem ZD6:slB Tryz.prog 39 50=true:=by kernel_rfl
theorem ZD7:slB Tryz.prog 40 71=true:=by kernel_rfl
theorem ZD8:slB Tryz.prog 41 73=true:=by kernel_rfl
theorem ZD9:slB Tryz.prog 42 75=true:=by kernel_rfl
theorem Zyx:slB Tryz.prog 69 9=true:=by kernel_rfl
theorem ZjV:ZB1 Tryz.prog 9=true:=by kernel_rfl
theorem Zum:ZBI Tryz.prog 3 .i64=true:=by kernel_rfl
theorem ZEa:ZBI Tryz.prog 2 .i64=true:=by kernel_rfl
theorem bU8:ZBI Tryz.prog 5 .u8=true:=by kernel_rfl
theorem Zyy:Zyv Tryz.prog 4=true:=by kernel_rfl
theorem ZDE:∀(n:Nat) (ds:List D) (b:Nat),b≤n→PlainD Tryz.prog 24 ds b→∃x,ds=YE plZ x∧szE x+1≤2 * b∧wE x+1≤2 * b∧Zcl x=true
 | n,ds,b,hb,h=>by
  obtain ⟨c,rfl,hf⟩:=h.inv_st stE
  cases n with
  | zero=>omega
  | succ n =>
   obtain ⟨_,_,b1,c1,rfl,rfl,h1,hf⟩:=hf.inv
   obtain ⟨_,_,b2,c2,rfl,rfl,h2,hf⟩:=hf.inv
   obtain ⟨_,_,b3,c3,rfl,rfl,h3,hf⟩:=hf.inv
   obtain ⟨_,_,b4,c4,rfl,rfl,h4,hf⟩:=hf.inv
   obtain ⟨_,_,b5,c5,rfl,rfl,h5,hf⟩:=hf.inv
   obtain ⟨rfl,rfl⟩:=hf.inv0
   obtain ⟨q1,rfl,rfl,w1⟩:=h1.inv_int bU8
   obtain ⟨q1,rfl⟩:=Zyw w1
   obtain ⟨q2,rfl,rfl⟩:=h2.inv_str ZjV
   obtain ⟨q3,rfl,rfl,w3⟩:=h3.inv_int ZEa
   have p3:=ZBJ w3
   obtain ⟨rows4,d4,rfl,rfl,hr4⟩:=h4.inv_sl slE
   obtain ⟨q4,rfl,g4,e4,p4⟩:=Ju (enc:=YE plZ) (sz:=szE) (w:=wE) (p:=Zcl) hr4 fun r c hc hd=>ZDE n r c (by omega) hd
   obtain ⟨q5,rfl,rfl,-⟩:=h5.inv_int Zum
   refine ⟨.mk q1 q2 q3 q4 (zc q5),?_,?_,?_,?_⟩
   ·simp only [YE,Zh,Zp,Yb,Zam];rfl
   ·simp only [szE,Wl,Wm,Xb];omega
   ·simp only [wE,VP,Vk,XY];omega
   ·simp only [Zcl,WM,Uf,VS,p3,p4];rfl
theorem ZBK {b:Nat} {ds:List D} (h:PlainD Tryz.prog 24 ds b):∃x,ds=YE plZ x∧szE x+1≤2 * b∧wE x+1≤2 * b∧Zcl x=true:=ZDE b ds b (Tr _) h
theorem ZDF:∀(n:Nat) (ds:List D) (b:Nat),b≤n→PlainD Tryz.prog 60 ds b→∃x,ds=Xp plZ x∧szL x+1≤2 * b∧wL x+1≤2 * b∧Zfd x=true
 | n,ds,b,hb,h=>by
  obtain ⟨c,rfl,hf⟩:=h.inv_st stL
  cases n with
  | zero=>omega
  | succ n =>
   obtain ⟨_,_,b1,c1,rfl,rfl,h1,hf⟩:=hf.inv
   obtain ⟨_,_,b2,c2,rfl,rfl,h2,hf⟩:=hf.inv
   obtain ⟨_,_,b3,c3,rfl,rfl,h3,hf⟩:=hf.inv
   obtain ⟨_,_,b4,c4,rfl,rfl,h4,hf⟩:=hf.inv
   obtain ⟨_,_,b5,c5,rfl,rfl,h5,hf⟩:=hf.inv
   obtain ⟨rfl,rfl⟩:=hf.inv0
   obtain ⟨q1,rfl,rfl,w1⟩:=h1.inv_int bU8
   obtain ⟨q1,rfl⟩:=Zyw w1
   obtain ⟨q2,rfl,rfl⟩:=h2.inv_str ZjV
   obtain ⟨rows3,d3,rfl,rfl,hr3⟩:=h3.inv_sl slE
   obtain ⟨q3,rfl,g3,e3,p3⟩:=Ju (enc:=YE plZ) (sz:=szE) (w:=wE) (p:=Zcl) hr3 fun r c hc hd=>ZBK hd
   obtain ⟨rows4,d4,rfl,rfl,hr4⟩:=h4.inv_sl slL
   obtain ⟨q4,rfl,g4,e4,p4⟩:=Ju (enc:=Xp plZ) (sz:=szL) (w:=wL) (p:=Zfd) hr4 fun r c hc hd=>ZDF n r c (by omega) hd
   obtain ⟨q5,rfl,rfl,-⟩:=h5.inv_int Zum
   refine ⟨.mk q1 q2 q3 q4 (zc q5),?_,?_,?_,?_⟩
   ·simp only [Xp,Zh,Zp,Yb,Zam];rfl
   ·simp only [szL,Wl,Wm,Xb];omega
   ·simp only [wL,VP,Vk,XY];omega
   ·simp only [Zfd,WM,Uf,VS,p3,p4];rfl
theorem ZC7 {b:Nat} {ds:List D} (h:PlainD Tryz.prog 60 ds b):∃x,ds=Xp plZ x∧szL x+1≤2 * b∧wL x+1≤2 * b∧Zfd x=true:=ZDF b ds b (Tr _) h
theorem ZC8:∀(n:Nat) (ds:List D) (b:Nat),b≤n→PlainD Tryz.prog 50 ds b→∃x,ds=Z7 plZ x∧ZjY x+1≤2 * b∧wRu x+1≤2 * b∧Zaf x=true
 | n,ds,b,hb,h=>by
  obtain ⟨c,rfl,hf⟩:=h.inv_st ZDU
  cases n with
  | zero=>omega
  | succ n =>
   obtain ⟨_,_,b1,c1,rfl,rfl,h1,hf⟩:=hf.inv
   obtain ⟨_,_,b2,c2,rfl,rfl,h2,hf⟩:=hf.inv
   obtain ⟨_,_,b3,c3,rfl,rfl,h3,hf⟩:=hf.inv
   obtain ⟨_,_,b4,c4,rfl,rfl,h4,hf⟩:=hf.inv
   obtain ⟨rfl,rfl⟩:=hf.inv0
   obtain ⟨q1,rfl,rfl⟩:=h1.inv_str ZjV
   obtain ⟨rows2,d2,rfl,rfl,hr2⟩:=h2.inv_sl slE
   obtain ⟨q2,rfl,g2,e2,p2⟩:=Ju (enc:=YE plZ) (sz:=szE) (w:=wE) (p:=Zcl) hr2 fun r c hc hd=>ZBK hd
   obtain ⟨rows3,d3,rfl,rfl,hr3⟩:=h3.inv_sl slL
   obtain ⟨q3,rfl,g3,e3,p3⟩:=Ju (enc:=Xp plZ) (sz:=szL) (w:=wL) (p:=Zfd) hr3 fun r c hc hd=>ZC7 hd
   obtain ⟨q4,rfl,rfl,-⟩:=h4.inv_int Zum
   refine ⟨.mk q1 q2 q3 (zc q4),?_,?_,?_,?_⟩
   ·simp only [Z7,Zh,Zp,Yb,Zam];rfl
   ·simp only [ZjY,Wl,Wm,Xb];omega
   ·simp only [wRu,VP,Vk,XY];omega
   ·simp only [Zaf,WM,Uf,VS,p2,p3];rfl
theorem ZBL {b:Nat} {ds:List D} (h:PlainD Tryz.prog 50 ds b):∃x,ds=Z7 plZ x∧ZjY x+1≤2 * b∧wRu x+1≤2 * b∧Zaf x=true:=ZC8 b ds b (Tr _) h
theorem ZC9:∀(n:Nat) (ds:List D) (b:Nat),b≤n→PlainD Tryz.prog 66 ds b→∃x,ds=ZA x∧sz0 x+1≤2 * b∧wFi x+1≤2 * b∧(fun _=>true) x=true
 | n,ds,b,hb,h=>by
  obtain ⟨c,rfl,hf⟩:=h.inv_st ZDV
  cases n with
  | zero=>omega
  | succ n =>
   obtain ⟨_,_,b1,c1,rfl,rfl,h1,hf⟩:=hf.inv
   obtain ⟨_,_,b2,c2,rfl,rfl,h2,hf⟩:=hf.inv
   obtain ⟨rfl,rfl⟩:=hf.inv0
   obtain ⟨q1,rfl,rfl⟩:=h1.inv_str ZjV
   obtain ⟨q2,rfl,rfl⟩:=h2.inv_str ZjV
   refine ⟨.mk q1 q2,?_,?_,?_,?_⟩
   ·simp only [ZA,Zh,Zp,Yb,Zam];rfl
   ·simp only [sz0,Wl,Wm,Xb];omega
   ·simp only [wFi,VP,Vk,XY];omega
   ·rfl
theorem ZrI {b:Nat} {ds:List D} (h:PlainD Tryz.prog 66 ds b):∃x,ds=ZA x∧sz0 x+1≤2 * b∧wFi x+1≤2 * b∧(fun _=>true) x=true:=ZC9 b ds b (Tr _) h
theorem ZDa:∀(n:Nat) (ds:List D) (b:Nat),b≤n→PlainD Tryz.prog 148 ds b→∃x,ds=ZI x∧ZjZ x+1≤2 * b∧wCa x+1≤2 * b∧(fun _=>true) x=true
 | n,ds,b,hb,h=>by
  obtain ⟨c,rfl,hf⟩:=h.inv_st ZDW
  cases n with
  | zero=>omega
  | succ n =>
   obtain ⟨_,_,b1,c1,rfl,rfl,h1,hf⟩:=hf.inv
   obtain ⟨_,_,b2,c2,rfl,rfl,h2,hf⟩:=hf.inv
   obtain ⟨rfl,rfl⟩:=hf.inv0
   obtain ⟨q1,rfl,rfl⟩:=h1.inv_str ZjV
   obtain ⟨rows2,d2,rfl,rfl,hr2⟩:=h2.inv_sl ZC6
   obtain ⟨q2,rfl,g2,e2,p2⟩:=Ju (enc:=ZA) (sz:=sz0) (w:=wFi) (p:=fun _=>true) hr2 fun r c hc hd=>ZrI hd
   refine ⟨.mk q1 q2,?_,?_,?_,?_⟩
   ·simp only [ZI,Zh,Zp,Yb,Zam];rfl
   ·simp only [ZjZ,Wl,Wm,Xb];omega
   ·simp only [wCa,VP,Vk,XY];omega
   ·rfl
theorem ZBM {b:Nat} {ds:List D} (h:PlainD Tryz.prog 148 ds b):∃x,ds=ZI x∧ZjZ x+1≤2 * b∧wCa x+1≤2 * b∧(fun _=>true) x=true:=ZDa b ds b (Tr _) h
theorem ZDb:∀(n:Nat) (ds:List D) (b:Nat),b≤n→PlainD Tryz.prog 64 ds b→∃x,ds=Ya plZ x∧Zjm x+1≤2 * b∧wTy x+1≤2 * b∧(fun _=>true) x=true
 | n,ds,b,hb,h=>by
  obtain ⟨c,rfl,hf⟩:=h.inv_st ZDX
  cases n with
  | zero=>omega
  | succ n =>
   obtain ⟨_,_,b1,c1,rfl,rfl,h1,hf⟩:=hf.inv
   obtain ⟨_,_,b2,c2,rfl,rfl,h2,hf⟩:=hf.inv
   obtain ⟨_,_,b3,c3,rfl,rfl,h3,hf⟩:=hf.inv
   obtain ⟨_,_,b4,c4,rfl,rfl,h4,hf⟩:=hf.inv
   obtain ⟨_,_,b5,c5,rfl,rfl,h5,hf⟩:=hf.inv
   obtain ⟨_,_,b6,c6,rfl,rfl,h6,hf⟩:=hf.inv
   obtain ⟨rfl,rfl⟩:=hf.inv0
   obtain ⟨q1,rfl,rfl,w1⟩:=h1.inv_int bU8
   obtain ⟨q1,rfl⟩:=Zyw w1
   obtain ⟨q2,rfl,rfl⟩:=h2.inv_str ZjV
   obtain ⟨q3,rfl,rfl⟩:=h3.inv_str ZjV
   obtain ⟨rows4,d4,rfl,rfl,hr4⟩:=h4.inv_sl ZC6
   obtain ⟨q4,rfl,g4,e4,p4⟩:=Ju (enc:=ZA) (sz:=sz0) (w:=wFi) (p:=fun _=>true) hr4 fun r c hc hd=>ZrI hd
   obtain ⟨rows5,d5,rfl,rfl,hr5⟩:=h5.inv_sl ZD3
   obtain ⟨q5,rfl,g5,e5,p5⟩:=Ju (enc:=ZI) (sz:=ZjZ) (w:=wCa) (p:=fun _=>true) hr5 fun r c hc hd=>ZBM hd
   obtain ⟨q6,rfl,rfl,-⟩:=h6.inv_int Zum
   refine ⟨.mk q1 q2 q3 q4 q5 (zc q6),?_,?_,?_,?_⟩
   ·simp only [Ya,Zh,Zp,Yb,Zam];rfl
   ·simp only [Zjm,Wl,Wm,Xb];omega
   ·simp only [wTy,VP,Vk,XY];omega
   ·rfl
theorem ZBN {b:Nat} {ds:List D} (h:PlainD Tryz.prog 64 ds b):∃x,ds=Ya plZ x∧Zjm x+1≤2 * b∧wTy x+1≤2 * b∧(fun _=>true) x=true:=ZDb b ds b (Tr _) h
theorem ZDc:∀(n:Nat) (ds:List D) (b:Nat),b≤n→PlainD Tryz.prog 68 ds b→∃x,ds=Z8 plZ x∧ZkV x+1≤2 * b∧wRe x+1≤2 * b∧(fun _=>true) x=true
 | n,ds,b,hb,h=>by
  obtain ⟨c,rfl,hf⟩:=h.inv_st ZDY
  cases n with
  | zero=>omega
  | succ n =>
   obtain ⟨_,_,b1,c1,rfl,rfl,h1,hf⟩:=hf.inv
   obtain ⟨_,_,b2,c2,rfl,rfl,h2,hf⟩:=hf.inv
   obtain ⟨_,_,b3,c3,rfl,rfl,h3,hf⟩:=hf.inv
   obtain ⟨_,_,b4,c4,rfl,rfl,h4,hf⟩:=hf.inv
   obtain ⟨_,_,b5,c5,rfl,rfl,h5,hf⟩:=hf.inv
   obtain ⟨_,_,b6,c6,rfl,rfl,h6,hf⟩:=hf.inv
   obtain ⟨rfl,rfl⟩:=hf.inv0
   obtain ⟨q1,rfl,rfl⟩:=h1.inv_str ZjV
   obtain ⟨rows2,d2,rfl,rfl,hr2⟩:=h2.inv_sl ZC6
   obtain ⟨q2,rfl,g2,e2,p2⟩:=Ju (enc:=ZA) (sz:=sz0) (w:=wFi) (p:=fun _=>true) hr2 fun r c hc hd=>ZrI hd
   obtain ⟨q3,rfl,rfl⟩:=h3.inv_bool Zyy
   obtain ⟨q4,rfl,rfl⟩:=h4.inv_bool Zyy
   obtain ⟨q5,rfl,rfl⟩:=h5.inv_bool Zyy
   obtain ⟨q6,rfl,rfl,-⟩:=h6.inv_int Zum
   refine ⟨.mk q1 q2 q3 q4 q5 (zc q6),?_,?_,?_,?_⟩
   ·simp only [Z8,Zh,Zp,Yb,Zam];rfl
   ·simp only [ZkV,Wl,Wm,Xb];omega
   ·simp only [wRe,VP,Vk,XY];omega
   ·rfl
theorem ZBO {b:Nat} {ds:List D} (h:PlainD Tryz.prog 68 ds b):∃x,ds=Z8 plZ x∧ZkV x+1≤2 * b∧wRe x+1≤2 * b∧(fun _=>true) x=true:=ZDc b ds b (Tr _) h
theorem ZDd:∀(n:Nat) (ds:List D) (b:Nat),b≤n→PlainD Tryz.prog 73 ds b→∃x,ds=Yd plZ x∧ZkW x+1≤2 * b∧wIn x+1≤2 * b∧(fun _=>true) x=true
 | n,ds,b,hb,h=>by
  obtain ⟨c,rfl,hf⟩:=h.inv_st ZDZ
  cases n with
  | zero=>omega
  | succ n =>
   obtain ⟨_,_,b1,c1,rfl,rfl,h1,hf⟩:=hf.inv
   obtain ⟨_,_,b2,c2,rfl,rfl,h2,hf⟩:=hf.inv
   obtain ⟨_,_,b3,c3,rfl,rfl,h3,hf⟩:=hf.inv
   obtain ⟨_,_,b4,c4,rfl,rfl,h4,hf⟩:=hf.inv
   obtain ⟨rfl,rfl⟩:=hf.inv0
   obtain ⟨q1,rfl,rfl⟩:=h1.inv_str ZjV
   obtain ⟨q2,rfl,rfl⟩:=h2.inv_str ZjV
   obtain ⟨rows3,d3,rfl,rfl,hr3⟩:=h3.inv_sl Zyx
   obtain ⟨q3,rfl,g3,e3,-⟩:=Ju (enc:=ZC) (sz:=sz0) (w:=wBs) (p:=fun _=>true) hr3 (ZlG ZjV _)
   obtain ⟨q4,rfl,rfl,-⟩:=h4.inv_int Zum
   refine ⟨.mk q1 q2 q3 (zc q4),?_,?_,?_,?_⟩
   ·simp only [Yd,Zh,Zp,Yb,Zam];rfl
   ·simp only [ZkW,Wl,Wm,Xb];omega
   ·simp only [wIn,VP,Vk,XY];omega
   ·rfl
theorem ZBP {b:Nat} {ds:List D} (h:PlainD Tryz.prog 73 ds b):∃x,ds=Yd plZ x∧ZkW x+1≤2 * b∧wIn x+1≤2 * b∧(fun _=>true) x=true:=ZDd b ds b (Tr _) h
theorem ZDe:∀(n:Nat) (ds:List D) (b:Nat),b≤n→PlainD Tryz.prog 75 ds b→∃x,ds=Ye plZ x∧sz0 x+1≤2 * b∧wOv x+1≤2 * b∧(fun _=>true) x=true
 | n,ds,b,hb,h=>by
  obtain ⟨c,rfl,hf⟩:=h.inv_st ZD0
  cases n with
  | zero=>omega
  | succ n =>
   obtain ⟨_,_,b1,c1,rfl,rfl,h1,hf⟩:=hf.inv
   obtain ⟨_,_,b2,c2,rfl,rfl,h2,hf⟩:=hf.inv
   obtain ⟨rfl,rfl⟩:=hf.inv0
   obtain ⟨q1,rfl,rfl⟩:=h1.inv_str ZjV
   obtain ⟨q2,rfl,rfl,-⟩:=h2.inv_int Zum
   refine ⟨.mk q1 (zc q2),?_,?_,?_,?_⟩
   ·simp only [Ye,Zh,Zp,Yb,Zam];rfl
   ·simp only [sz0,Wl,Wm,Xb];omega
   ·simp only [wOv,VP,Vk,XY];omega
   ·rfl
theorem ZBQ {b:Nat} {ds:List D} (h:PlainD Tryz.prog 75 ds b):∃x,ds=Ye plZ x∧sz0 x+1≤2 * b∧wOv x+1≤2 * b∧(fun _=>true) x=true:=ZDe b ds b (Tr _) h
mutual
theorem ZDf:∀(n:Nat) (ds:List D) (b:Nat),b≤n→PlainD Tryz.prog 44 ds b→∃x,ds=XK plZ x∧Zjn x+1≤2 * b∧wUn x+1≤2 * b∧ZgJ x=true
 | n,ds,b,hb,h=>by
  obtain ⟨c,rfl,hf⟩:=h.inv_st ZD1
  cases n with
  | zero=>omega
  | succ n =>
   obtain ⟨_,_,b1,c1,rfl,rfl,h1,hf⟩:=hf.inv
   obtain ⟨_,_,b2,c2,rfl,rfl,h2,hf⟩:=hf.inv
   obtain ⟨_,_,b3,c3,rfl,rfl,h3,hf⟩:=hf.inv
   obtain ⟨_,_,b4,c4,rfl,rfl,h4,hf⟩:=hf.inv
   obtain ⟨_,_,b5,c5,rfl,rfl,h5,hf⟩:=hf.inv
   obtain ⟨_,_,b6,c6,rfl,rfl,h6,hf⟩:=hf.inv
   obtain ⟨rfl,rfl⟩:=hf.inv0
   obtain ⟨rows1,d1,rfl,rfl,hr1⟩:=h1.inv_sl ZD4
   obtain ⟨q1,rfl,g1,e1,p1⟩:=Ju (enc:=Ya plZ) (sz:=Zjm) (w:=wTy) (p:=fun _=>true) hr1 fun r c hc hd=>ZBN hd
   obtain ⟨rows2,d2,rfl,rfl,hr2⟩:=h2.inv_sl ZD5
   obtain ⟨q2,rfl,g2,e2,p2⟩:=Ju (enc:=Z8 plZ) (sz:=ZkV) (w:=wRe) (p:=fun _=>true) hr2 fun r c hc hd=>ZBO hd
   obtain ⟨rows3,d3,rfl,rfl,hr3⟩:=h3.inv_sl ZD6
   obtain ⟨q3,rfl,g3,e3,p3⟩:=Ju (enc:=Z7 plZ) (sz:=ZjY) (w:=wRu) (p:=Zaf) hr3 fun r c hc hd=>ZBL hd
   obtain ⟨rows4,d4,rfl,rfl,hr4⟩:=h4.inv_sl ZD7
   obtain ⟨q4,rfl,g4,e4,p4⟩:=Ju (enc:=ZY plZ) (sz:=ZhI) (w:=wCo) (p:=ZaK) hr4 fun r c hc hd=>ZDg n r c (by omega) hd
   obtain ⟨rows5,d5,rfl,rfl,hr5⟩:=h5.inv_sl ZD8
   obtain ⟨q5,rfl,g5,e5,p5⟩:=Ju (enc:=Yd plZ) (sz:=ZkW) (w:=wIn) (p:=fun _=>true) hr5 fun r c hc hd=>ZBP hd
   obtain ⟨rows6,d6,rfl,rfl,hr6⟩:=h6.inv_sl ZD9
   obtain ⟨q6,rfl,g6,e6,p6⟩:=Ju (enc:=Ye plZ) (sz:=sz0) (w:=wOv) (p:=fun _=>true) hr6 fun r c hc hd=>ZBQ hd
   refine ⟨.mk q1 q2 q3 q4 q5 q6,?_,?_,?_,?_⟩
   ·simp only [XK,Zh,Zp,Yb,Zam];rfl
   ·simp only [Zjn,Wl,Wm,Xb];omega
   ·simp only [wUn,VP,Vk,XY];omega
   ·simp only [ZgJ,WM,Uf,VS,p3,p4];rfl
theorem ZDg:∀(n:Nat) (ds:List D) (b:Nat),b≤n→PlainD Tryz.prog 71 ds b→∃x,ds=ZY plZ x∧ZhI x+1≤2 * b∧wCo x+1≤2 * b∧ZaK x=true
 | n,ds,b,hb,h=>by
  obtain ⟨c,rfl,hf⟩:=h.inv_st ZD2
  cases n with
  | zero=>omega
  | succ n =>
   obtain ⟨_,_,b1,c1,rfl,rfl,h1,hf⟩:=hf.inv
   obtain ⟨_,_,b2,c2,rfl,rfl,h2,hf⟩:=hf.inv
   obtain ⟨_,_,b3,c3,rfl,rfl,h3,hf⟩:=hf.inv
   obtain ⟨_,_,b4,c4,rfl,rfl,h4,hf⟩:=hf.inv
   obtain ⟨_,_,b5,c5,rfl,rfl,h5,hf⟩:=hf.inv
   obtain ⟨_,_,b6,c6,rfl,rfl,h6,hf⟩:=hf.inv
   obtain ⟨rfl,rfl⟩:=hf.inv0
   obtain ⟨q1,rfl,rfl⟩:=h1.inv_str ZjV
   obtain ⟨rows2,d2,rfl,rfl,hr2⟩:=h2.inv_sl Zyx
   obtain ⟨q2,rfl,g2,e2,-⟩:=Ju (enc:=ZC) (sz:=sz0) (w:=wBs) (p:=fun _=>true) hr2 (ZlG ZjV _)
   obtain ⟨q3,rfl,rfl⟩:=h3.inv_str ZjV
   obtain ⟨rows4,d4,rfl,rfl,hr4⟩:=h4.inv_sl Zyx
   obtain ⟨q4,rfl,g4,e4,-⟩:=Ju (enc:=ZC) (sz:=sz0) (w:=wBs) (p:=fun _=>true) hr4 (ZlG ZjV _)
   obtain ⟨q5,rfl,g5,e5,p5⟩:=ZDf n _ _ (by omega) h5
   obtain ⟨q6,rfl,rfl,-⟩:=h6.inv_int Zum
   refine ⟨.mk q1 q2 q3 q4 q5 (zc q6),?_,?_,?_,?_⟩
   ·simp only [ZY,Zh,Zp,Yb,Zam];rfl
   ·simp only [ZhI,Wl,Wm,Xb];omega
   ·simp only [wCo,VP,Vk,XY];omega
   ·simp only [ZaK,p5]
end
end Go.PM.Lex
end

section
namespace Go.PM.Lex
open Go.Proofs Go.Proofs.YtflgockgjnddnaaGreatDoor
section
variable {H:Type} {enc:TypeId×Value→H} {W:World} {nG:Nat}
end
end Go.PM.Lex
end
