/- A part of the proof: plain logic, contracts and laws over the given program. -/
import Derived.Deep.Slices
import Derived.ChangeArms
import Derived.DataReads
import Derived.Test.YtcaoooleeciiaaaGreatDoorRows
import Derived.Test.YtcaoooleeciiaaaGreatDoorTie
import Derived.Test.YtcaoooleeciiaaaGreatDoorCards
import Derived.ProofKit
import Derived.OpenShut
import Derived.LaidMore
import Derived.Lay
import Derived.LaidSub
import Derived.SevenTiedAt
import Derived.Stop.Joined
import Derived.Stop.LaidErr
import Derived.Lib.LaidU8T
import Derived.Lib.LaidTab
import Derived.JoinedOf
import Derived.Test.YtcaoooleeciiaaaGreatDoorB12
set_option linter.unusedVariables false
set_option linter.unusedSimpArgs false
set_option linter.all false
set_option maxRecDepth 100000
set_option maxHeartbeats 16000000
noncomputable section
section
namespace Go.PM.Lex
open Go.Proofs
def ZJB (g:Nat):Bool:=Zgm g [46,232,268]
def ZIi (g:Nat) (a:List PV):Option (PEnd×St):=fnR Tryz.prog (ZdN Tryz.prog ZaM ZJB 100000 200) ZaM 100000 g a ⟨[],[],0⟩
def txA:List UInt8:=[116,121,112,101,32,78,32,60,58,32,110,117,109,98,101,114,32,100,101,99,108,32,112,40,120,58,32,78,41,32,100,101,99,108,32,113,40,120,58,32,110,117,109,98,101,114,41,32,113,40,120,41,32,58,45,32,112,40,120,41,46]
def txB:List UInt8:=[116,121,112,101,32,78,32,60,58,32,110,117,109,98,101,114,32,100,101,99,108,32,112,40,120,58,32,78,41,32,100,101,99,108,32,113,40,120,58,32,110,117,109,98,101,114,41,32,112,40,120,41,32,58,45,32,113,40,120,41,46]
def xAt (a:Int):List D:=[.int .u8 1,.str [120],.int .i64 0,.sl [],.int .i64 a]
def ZJC (h b:UInt8):List D:=[.str [h],.sl [xAt 50],.sl [[.int .u8 1,.str [b],.sl [xAt 58],.sl [],.int .i64 56]],.int .i64 48]
def ZIj (h b:UInt8):List (List (List D)):=[[[.int .u8 1,.str [78],.str [110,117,109,98,101,114],.sl [],.sl [],.int .i64 5]],
 [[.str [112],.sl [[.str [120],.str [78]]],.bool false,.bool false,.bool false,.int .i64 22],[.str [113],.sl [[.str [120],.str [110,117,109,98,101,114]]],.bool false,.bool false,.bool false,.int .i64 35]],[ZJC h b]]
def ZI8 (r:PV):Option (PEnd×St)->Bool
 | some (.ret v,⟨[],[],0⟩)=>ZG3 v r
 | _=>false
def Zu3 {r:PV} {o:Option (PEnd×St)} (h:ZI8 r o=true):o=some (.ret r,⟨[],[],0⟩):=by
 unfold ZI8 at h
 split at h
 ·rw [ZnK h]
 cases h
def ZG4 (h b:UInt8):PV:=.agg ((ZIj h b).map fun r=>.d (.sl r))
def ZJD:ZIi 10 [.d (.str txA)]=some (.ret (ZG4 113 112),⟨[],[],0⟩):=Zu3 kR
def ZJE:ZIi 10 [.d (.str txB)]=some (.ret (ZG4 112 113),⟨[],[],0⟩):=Zu3 kR
variable {w0:World} {nG:Nat}
def ZpE {s:Bs} {r:PV} (h:ZIi 10 [.d (.str s)]=some (.ret r,⟨[],[],0⟩)):PC w0 nG 10 fun a σ K=>a=[.d (.str s)]/\σ=⟨[],[],0⟩/\K (.ret r) ⟨[],[],0⟩ :=
 Zrf ZR mixed h
def idP:Pl:=fun n=>(n:Int)
def xK (a:Nat):Ex:=.mk 1 [120] 0 [] a
def pK (h b:UInt8):Pr:=⟨[⟨1,[78],Zyw,[],[],5⟩],[⟨[112],[⟨[120],[78]⟩],false,false,false,22⟩,⟨[113],[⟨[120],Zyw⟩],false,false,false,35⟩],[⟨[h],[xK 50],[.mk 1 [b] [xK 58] [] 56],48⟩]⟩
def ZJF:(Zds (prU (pK 113 112))).2=0:=kR
def ZJG:(Zds (prU (pK 112 113))).2=0:=kR
def ZIk:ZdH 1000 (prU (pK 113 112)):=⟨kR,Td kR,Td kR,rfl,rfl,rfl⟩
def ZIl:ZdH 1000 (prU (pK 112 113)):=⟨kR,Td kR,Td kR,rfl,rfl,rfl⟩
def ZJH:Zvj idP (pK 113 112)=(0,0):=by rw [Zf1,Tb (fun g=>g ZJF)];kernel_rfl
def ZJI:Zvj idP (pK 112 113)=(50,183):=by rw [Zf1,Tb (fun g=>g ZJG)];kernel_rfl
def szK:Zd4 (pK 113 112)<=2097152/\Zd4 (pK 112 113)<=2097152:=⟨Td kR,Td kR⟩
def PCalls.or {G:GE} {g:FuncId} {a b:Zq} (ha:PCalls G g a) (hb:PCalls G g b):PCalls G g fun args σ K=>a args σ K\/b args σ K:=⟨ha.enters,fun args σ K hs n e w vs hS hA=>hs.elim (fun h=>ha.calls args σ K h n e w vs hS hA) (fun h=>hb.calls args σ K h n e w vs hS hA)⟩
def ZIm (x y:List PV) (r s:PV):Zq:=fun a σ K=>(a=x/\σ=⟨[],[],0⟩/\K (.ret r) ⟨[],[],0⟩)\/(a=y/\σ=⟨[],[],0⟩/\K (.ret s) ⟨[],[],0⟩)
def Zrg:OKw w0 nG [(10,ZIm [.d (.str txA)] [.d (.str txB)] (ZG4 113 112) (ZG4 112 113)),(6,Zf0 1000)] 5 Zec:=by
 refine pwo Tryz.func5 fun args σ K h=>?_
 unfold Zec at h
 split at h
 ·refine pwv [] 0 false ?_;refine Or.inl ⟨rfl,rfl,wN ?_⟩;refine ⟨idP,pK 113 112,rfl,⟨ZIk,dM,szK.1⟩,fun a e hx=>?_⟩;rw [ZJH] at hx
  cases hx
  conv=>whnf
  refine Or.inr ⟨rfl,rfl,wN ?_⟩;refine ⟨idP,pK 112 113,rfl,⟨ZIl,dM,szK.2⟩,fun a e hx=>?_⟩;rw [ZJI] at hx
  cases hx
  exact mq52
 exact h.elim
def ZxY (hP:PC w0 nG 15 (Zt3 WI ZdH Zds 1000)):PC w0 nG 5 Zec :=
 Zrg ⟨PCalls.or (ZpE ZJD) (ZpE ZJE),ZyI hP,trivial⟩
end Go.PM.Lex
end

section
namespace Go.PM
mutual
inductive PlainD (P:Program):TypeId->List D->Nat->Prop
 | int {t:TypeId} {k:IntKind} {n:Int} (h:P.underlying t=some (.int k)) (hw:(Lit.int k n).wf=true):PlainD P t [.int k n] 1
 | str {t:TypeId} {s:List UInt8} (h:P.underlying t=some .string):PlainD P t [.str s] (s.length+1)
 | bool {t:TypeId} {b:Bool} (h:P.underlying t=some .bool):PlainD P t [.bool b] 1
 | st {t:TypeId} {fs:Array Field} {ds:List D} {b:Nat} (h:P.underlying t=some (.struct fs)) (hf:PlainFs P (fs.toList.map (·.type)) ds b):PlainD P t ds (b+1)
 | sl {t e:TypeId} {rows:List (List D)} {b:Nat} (h:P.underlying t=some (.slice e)) (hr:PlainRs P e rows b):PlainD P t [.sl rows] (b+1)
inductive PlainFs (P:Program):List TypeId->List D->Nat->Prop
 | nil:PlainFs P [] [] 0
 | cons {f:TypeId} {l:List TypeId} {r ds:List D} {b c:Nat} (h1:PlainD P f r b) (h2:PlainFs P l ds c):PlainFs P (f::l) (r++ds) (b+c)
inductive PlainRs (P:Program):TypeId->List (List D)->Nat->Prop
 | nil {e:TypeId}:PlainRs P e [] 0
 | cons {e:TypeId} {r:List D} {rows:List (List D)} {b c:Nat} (h1:PlainD P e r b) (h2:PlainRs P e rows c):PlainRs P e (r::rows) (b+c)
end
structure CR (ok:Nat->Nat->Prop) (w:World) (ds:List D) (cs:List Value):Prop where
 len:ds.length=cs.length
 rel:∀(i:Nat) (x:D) (u:Value),ds[i]?=some x->cs[i]?=some u->DRel ok w x u
 one:∀u∈cs,u.oneCell'=true
def CR.nil {ok:Nat->Nat->Prop} {w:World}:CR ok w [] []:=⟨rfl,fun i x u h=>by simp at h,fun u h=>by cases h⟩
def CR.one1 {ok:Nat->Nat->Prop} {w:World} {x:D} {u:Value} (h:DRel ok w x u) (h1:u.oneCell'=true):CR ok w [x] [u]:=⟨rfl,fun i y v hy hv=>by
 match i,hy,hv with
 | 0,hy,hv=>cases hy;cases hv;exact h
 | i+1,hy,hv=>simp at hy,fun v hv=>by rw [List.mem_singleton.1 hv];exact h1⟩
def CR.app {ok:Nat->Nat->Prop} {w:World} {d1 d2:List D} {c1 c2:List Value} (h1:CR ok w d1 c1) (h2:CR ok w d2 c2):CR ok w (d1++d2) (c1++c2):=by
 refine ⟨by rw [Ta,Ta,h1.len,h2.len],fun i x u hx hu=>?_,fun u hu=>?_⟩
 ·by_cases hi:i<d1.length
  ·rw [TP hi] at hx;rw [TP (by rw [<- h1.len];exact hi)] at hu;exact h1.rel i x u hx hu
  rw [TZ oM] at hx;rw [TZ (by rw [<- h1.len];omega),<- h1.len] at hu;exact h2.rel _ x u hx hu
 rcases T1.1 hu with h | h
 ·exact h1.one u h
 exact h2.one u h
def ZxZ (P:Program):List Field->Nat->Option Nat
 | [],a=>some a
 | f::l,a=>if f.offset=a then ZxZ P l (a+P.cellsOf f.type) else none
def ZpF (P:Program) (S:List TypeId) (t:TypeId):Bool:=match P.underlying t with
 | some (.int _) | some .string | some .bool=>true
 | some (.struct fs)=>fs.toList.all (fun f=>S.contains f.type) && decide (ZxZ P fs.toList 0=some (P.cellsOf t))
 | some (.slice e)=>S.contains e && decide (0<P.cellsOf e)
 | _=>false
section
variable {H:Type} {enc:TypeId×Value->H} {P:Program} {w:World} {ok:Nat->Nat->Prop}
def ZcX {S:List TypeId} (hS:S.all (ZpF P S)=true) (ba:∀b off,ok b off) (bulk:DataW H->Nat) (bulks:List (DataW H)->Nat)
  (k1:∀k n,1<=bulk (.lit (.int k n))) (k2:∀s,s.length+1<=bulk (.lit (.string s))) (k3:∀b,1<=bulk (.lit (.bool b))) (k4:∀l,bulks l+1<=bulk (.agg l)) (k5:∀l m,bulks l+1<=bulk (.slice l m)) (k6:1<=bulk .nil) (k7:∀d l,bulk d+bulks l<=bulks (d::l)) :
  ∀(fuel:Nat) (t:TypeId) (cs:List Value) (x:DataW H×List MemPlace),t∈S->DataW.trod enc P w 0 (fun _=>true) true fuel t cs=some x->∃ds b,PlainD P t ds b/\CR ok w ds cs/\b<=bulk x.1
 | 0,t,cs,x,ht,h=>by simp [DataW.trod] at h
 | fuel+1,t,cs,x,ht,h=>by
  have hp:=To.1 hS t ht;unfold ZpF at hp
  split at hp
  ·rename_i k hu
   obtain ⟨n,rfl,rfl,hw⟩:=DataW.trod_int hu h;exact ⟨_,1,.int hu hw,.one1 (.int _ _) rfl,k1 _ _⟩
  ·rename_i hu
   obtain ⟨s,rfl,rfl,hw⟩:=DataW.trod_string hu h;exact ⟨[.str s.data.toList],_,.str hu,.one1 (.str _) rfl,k2 _⟩
  ·rename_i hu
   obtain ⟨b,rfl,rfl⟩:=DataW.trod_bool hu h;exact ⟨_,1,.bool hu,.one1 (.bool _) rfl,k3 _⟩
  ·rename_i fs hu
   rw [Tm,TV,To] at hp;obtain ⟨pg,wj⟩:=hp;obtain ⟨xs,n,hn,rfl,aa,hxl,hf⟩:=DataW.trod_struct hu h;obtain rfl:fuel=n:=oM;have key:∀(l:List Field) (k a:Nat),fs.toList.drop k=l->ZxZ P l a=some (P.cellsOf t)->∃ds b,PlainFs P (l.map (·.type)) ds b/\CR ok w ds (cs.drop a)/\b<=bulks ((xs.drop k).map (·.1)):=by
    intro l
    induction l with
    | nil =>
     intro k a hk ha
     cases ha
     exact ⟨[],0,.nil,by rw [TA oM];exact .nil,Sl _⟩
    | cons f l ih =>
    intro k a hk ha
    rw [ZxZ] at ha;split at ha
    ·rename_i ii
     have z7:k<fs.size:=by
      have:=congrArg List.length hk;simp at this;omega
     have hfk:fs[k]?=some f:=by
      have:(fs.toList.drop k)[0]?=some f:=by rw [hk];rfl
      simpa using this
     have hd:fs.toList.drop (k+1)=l:=by rw [<- TU,hk];rfl
     obtain ⟨ds,b,g1,g2,g3⟩:=ih (k+1) _ hd ha;have hx:=hf k f hfk;rw [Tc oM] at hx;have hfS:f.type∈S:=by
      have:=pg f (by have:=T4 (l:=fs.toList) (i:=k) (a:=f) (by simpa using hfk);exact this);simpa using this
     obtain ⟨dr,br,q1,q2,q3⟩:=ZcX hS ba bulk bulks k1 k2 k3 k4 k5 k6 k7 fuel _ _ _ hfS hx;rw [ii] at q2;refine ⟨dr++ds,br+b,.cons q1 g1,?_,?_⟩
     ·have e:cs.drop a=(cs.drop a).take (P.cellsOf f.type)++cs.drop (a+P.cellsOf f.type):=by rw [<- TU,SF]
      rw [e];exact q2.app g2
     have e:xs.drop k=xs[k]::xs.drop (k+1):=Tq oM;rw [e,Tz];exact Sc (Nat.add_le_add q3 g3) (k7 _ _)
    cases ha
   obtain ⟨ds,b,g1,g2,g3⟩:=key fs.toList 0 0 rfl wj;rw [Si] at g2 g3;exact ⟨ds,b+1,.st hu g1,g2,Sc (Nat.add_le_add_right g3 1) (k4 _)⟩
  ·rename_i e hu
   rw [Tm,TV] at hp;obtain ⟨hp,ao⟩:=hp;have heS:e∈S:=by simpa using hp
   rcases DataW.trod_slice hu h with ⟨rfl,rfl⟩ | ⟨a,len,cap,elems,rest,n,hn,rfl,rfl,hb,hl,hm,aa,hel,xy,hns⟩
   ·exact ⟨[.sl []],1,.sl hu .nil,.one1 .slnil rfl,k6⟩
   obtain rfl:fuel=n:=oM;obtain ⟨lw,em⟩:=xy rfl
   by_cases jg:cap=0
   ·subst jg;obtain rfl:len=0:=oM;exact ⟨[.sl []],1,.sl hu .nil,.one1 (.slz a) rfl,Sc oM (k5 _ _)⟩
   have zn:a.spot=none:=by
    have h0:∃cs',w.cells? 0 (a.add (0 * P.cellsOf e)) (P.cellsOf e)=some cs':=by
     by_cases oa:0<len
     ·have:=hel 0 oa;rw [Tc oM] at this;obtain ⟨cs',h1,_⟩:=Option.bind_eq_some_iff.1 this;exact ⟨cs',h1⟩
     have:=em 0 oM;rw [Tc oM] at this;obtain ⟨cs',h1,_⟩:=Option.bind_eq_some_iff.1 this;exact ⟨cs',by rw [show len+0=0 by omega] at h1;exact h1⟩
    obtain ⟨cs',h1⟩:=h0;obtain ⟨_,h2,h3⟩:=World.cells?_some h1;have h4:=h3 0 ao;rw [Tc oM] at h4;have ea:(a.add (0 * P.cellsOf e)).add 0=a:=by simp [Addr.add]
    rw [ea] at h4
    cases xy:a.spot with
    | none=>rfl
    | some q =>
    unfold World.cell? at h4
    split at h4
    ·rw [xy] at h4;simp at h4
    cases h4
   obtain ⟨blk,off,sp⟩:=a;obtain rfl:sp=none:=zn;have key:∀(m k:Nat),k+m=len->∃rows b,PlainRs P e rows b/\rows.length=m/\b<=bulks ((elems.drop k).map (·.1))/\∀(i:Nat) (r:List D),rows[i]?=some r->∃cs,cs.length=P.cellsOf e/\CR ok w r cs/\∀j,j<P.cellsOf e->w.cell? ⟨blk,off+(k+i) * P.cellsOf e+j,none⟩=cs[j]?:=by
    intro m
    induction m with
    | zero=>intro k hk;exact ⟨[],0,.nil,rfl,Sl _,fun i r h=>by simp at h⟩
    | succ m ih =>
    intro k hk
    obtain ⟨rows,b,g1,g2,g3,g4⟩:=ih (k+1) oM;have hx:=hel k oM;rw [Tc oM] at hx;obtain ⟨cs',h1,h2⟩:=Option.bind_eq_some_iff.1 hx;obtain ⟨_,h3,h4⟩:=World.cells?_some h1;obtain ⟨dr,br,q1,q2,q3⟩:=ZcX hS ba bulk bulks k1 k2 k3 k4 k5 k6 k7 fuel _ _ _ heS h2;refine ⟨dr::rows,br+b,.cons q1 g1,by rw [Te,g2],?_,fun i r hr=>?_⟩
    ·rw [Tq (show k<elems.length by omega),Tz];exact Sc (Nat.add_le_add q3 g3) (k7 _ _)
    cases i with
    | zero =>
     cases hr
     refine ⟨cs',h3,q2,fun j hj=>?_⟩;have:=h4 j hj;rw [Yd,Yd] at this;rw [SQ];exact this
    | succ i =>
    rw [TY] at hr;obtain ⟨cs,e1,e2,e3⟩:=g4 i r hr;exact ⟨cs,e1,e2,fun j hj=>by rw [show k+(i+1)=k+1+i by omega];exact e3 j hj⟩
   obtain ⟨rows,b,g1,g2,g3,g4⟩:=key len 0 oM;rw [Si] at g3;refine ⟨[.sl rows],b+1,.sl hu g1,.one1 ?_ rfl,Sc (Nat.add_le_add_right g3 1) (k5 _ _)⟩;subst g2;refine .sl rows blk off cap (P.cellsOf e) (fun i j=>(w.cell? ⟨blk,off+i * P.cellsOf e+j,none⟩).getD default) hl (fun r hr=>?_) (fun i j hi hj=>?_) (fun i j _ _=>ba _ _) (fun i j x hx=>?_)
   ·obtain ⟨i,hi,rfl⟩:=Sn hr;obtain ⟨cs,e1,e2,_⟩:=g4 i _ (Tc hi);rw [e2.len,e1]
   ·obtain ⟨cs,e1,e2,e3⟩:=g4 i _ (Tc hi);have:=e3 j hj;rw [Se,Tc oM] at this;simp only [this,SE]
   obtain ⟨r,hr,hx⟩:=Option.bind_eq_some_iff.1 hx;obtain ⟨cs,e1,e2,e3⟩:=g4 i r hr;have hjr:=(Ti.1 hx).1;have hj:j<P.cellsOf e:=by rw [<- e1,<- e2.len];exact hjr
   have:=e3 j hj;rw [Se,Tc oM] at this;simp only [this,SE];exact e2.rel j x _ hx (Tc oM)
  cases hp
end
end Go.PM
end

section
namespace Go.PM
def stB (P:Program) (t:TypeId) (tys:List TypeId):Bool:=match P.underlying t with | some (.struct fs)=>decide (fs.toList.map (·.type)=tys) | _=>false
def slB (P:Program) (t e:TypeId):Bool:=match P.underlying t with | some (.slice u)=>decide (u=e) | _=>false
def ZGC (P:Program) (t:TypeId) (k:IntKind):Bool:=match P.underlying t with | some (.int u)=>decide (u=k) | _=>false
def ZIn (P:Program) (t:TypeId):Bool:=match P.underlying t with | some .string=>true | _=>false
def ZDc (P:Program) (t:TypeId):Bool:=match P.underlying t with | some .bool=>true | _=>false
section
variable {P:Program} {t e:TypeId} {ds:List D} {b:Nat}
def PlainD.inv_st {tys:List TypeId} (h:PlainD P t ds b) (hu:stB P t tys=true):∃c,b=c+1/\PlainFs P tys ds c:=by
 unfold stB at hu
 cases h with
 | st h hf=>rw [h] at hu;simp only [TV] at hu;exact ⟨_,rfl,hu ▸ hf⟩
 | int h _=>rw [h] at hu;cases hu
 | str h=>rw [h] at hu;cases hu
 | bool h=>rw [h] at hu;cases hu
 | sl h _=>rw [h] at hu;cases hu
def PlainD.inv_sl (h:PlainD P t ds b) (hu:slB P t e=true):∃rows c,ds=[.sl rows]/\b=c+1/\PlainRs P e rows c:=by
 unfold slB at hu
 cases h with
 | sl h hr=>rw [h] at hu;simp only [TV] at hu;exact ⟨_,_,rfl,rfl,hu ▸ hr⟩
 | int h _=>rw [h] at hu;cases hu
 | str h=>rw [h] at hu;cases hu
 | bool h=>rw [h] at hu;cases hu
 | st h _=>rw [h] at hu;cases hu
def PlainD.inv_int {k:IntKind} (h:PlainD P t ds b) (hu:ZGC P t k=true):∃n,ds=[.int k n]/\b=1/\(Lit.int k n).wf=true:=by
 unfold ZGC at hu
 cases h with
 | int h hw=>rw [h] at hu;simp only [TV] at hu;subst hu;exact ⟨_,rfl,rfl,hw⟩
 | sl h _=>rw [h] at hu;cases hu
 | str h=>rw [h] at hu;cases hu
 | bool h=>rw [h] at hu;cases hu
 | st h _=>rw [h] at hu;cases hu
def PlainD.inv_str (h:PlainD P t ds b) (hu:ZIn P t=true):∃s,ds=[.str s]/\b=s.length+1:=by
 unfold ZIn at hu
 cases h with
 | str h=>exact ⟨_,rfl,rfl⟩
 | sl h _=>rw [h] at hu;cases hu
 | int h _=>rw [h] at hu;cases hu
 | bool h=>rw [h] at hu;cases hu
 | st h _=>rw [h] at hu;cases hu
def PlainD.inv_bool (h:PlainD P t ds b) (hu:ZDc P t=true):∃q,ds=[.bool q]/\b=1:=by
 unfold ZDc at hu
 cases h with
 | bool h=>exact ⟨_,rfl,rfl⟩
 | sl h _=>rw [h] at hu;cases hu
 | int h _=>rw [h] at hu;cases hu
 | str h=>rw [h] at hu;cases hu
 | st h _=>rw [h] at hu;cases hu
def PlainFs.inv {f:TypeId} {l:List TypeId} (h:PlainFs P (f::l) ds b):∃r ds' b1 c,ds=r++ds'/\b=b1+c/\PlainD P f r b1/\PlainFs P l ds' c:=by
 cases h with
 | cons h1 h2=>exact ⟨_,_,_,_,rfl,rfl,h1,h2⟩
def PlainFs.inv0 (h:PlainFs P [] ds b):ds=[]/\b=0:=by cases h;exact ⟨rfl,rfl⟩
end
end Go.PM
namespace Go.PM.Lex
open Go.Proofs
def plZ:Pl:=fun n=>if n % 2=0 then (n / 2:Nat) else -((n / 2:Nat):Int) - 1
def zc (z:Int):Nat:=if 0<=z then 2 * z.toNat else 2 * (-z - 1).toNat+1
def Zgk (z:Int):plZ (zc z)=z:=by
 unfold plZ zc
 by_cases h:0<=z
 ·rw [Tg h,Tg oM];omega
 rw [Tb h,Tb oM];omega
def ZcY {α:Type} {P:Program} {e:TypeId} {enc:α->List D} {sz w:α->Nat} {p:α->Bool}:∀{rows:List (List D)} {b:Nat},PlainRs P e rows b->(∀r c,c<=b->PlainD P e r c->∃x,r=enc x/\sz x+1<=2 * c/\w x+1<=2 * c/\p x=true)->∃xs,rows=xs.map enc/\szS sz xs<=2 * b/\szS w xs<=2 * b/\xs.all p=true
 | [],b,h,hd=>⟨[],rfl,by simp [szS],by simp [szS],rfl⟩
 | r::rows,b,h,hd=>by
  cases h with
  | cons h1 h2 =>
  rename_i b1 c
  obtain ⟨x,rfl,g1,g2,g5⟩:=hd r b1 oM h1;obtain ⟨xs,rfl,g3,g4,g6⟩:=ZcY h2 fun r c' hc=>hd r c' oM
  exact ⟨x::xs,rfl,by simp only [szS];omega,by simp only [szS];omega,by rw [List.all_cons,g5,g6];rfl⟩
def ZDd {n:Int} (h:(Lit.int .u8 n).wf=true):∃k:Nat,n=k:=by
 have:0<=n/\n<=255:=by simpa [Lit.wf,IntKind.min,IntKind.max,IntKind.signed,IntKind.bits] using h
 exact ⟨n.toNat,oM⟩
def ZGD {n:Int} (h:(Lit.int .i64 n).wf=true):ZGR n=true:=by
 have:-9223372036854775808<=n/\n<=9223372036854775807:=by simpa [Lit.wf,IntKind.min,IntKind.max,IntKind.signed,IntKind.bits] using h
 simp only [ZGR,Tm,TV];omega
def stE:stB Tryz.prog 59 [5,9,2,34,3]=true:=kR
def stL:stB Tryz.prog 75 [5,9,34,35,3]=true:=kR
def ZJJ:stB Tryz.prog 37 [9,34,35,3]=true:=kR
def ZJK:stB Tryz.prog 56 [9,9]=true:=kR
def ZJL:stB Tryz.prog 45 [9,39]=true:=kR
def ZJM:stB Tryz.prog 42 [5,9,9,39,40,3]=true:=kR
def ZJN:stB Tryz.prog 47 [9,39,4,4,4,3]=true:=kR
def slE:slB Tryz.prog 34 59=true:=kR
def slL:slB Tryz.prog 35 75=true:=kR
def ZIo:slB Tryz.prog 39 56=true:=kR
def ZJO:slB Tryz.prog 40 45=true:=kR
def ZJP:slB Tryz.prog 22 42=true:=kR
def ZJQ:slB Tryz.prog 23 47=true:=kR
def ZJR:slB Tryz.prog 24 37=true:=kR
def Zx0:ZIn Tryz.prog 9=true:=kR
def ZGE:ZGC Tryz.prog 3 .i64=true:=kR
def ZJS:ZGC Tryz.prog 2 .i64=true:=kR
def bU8:ZGC Tryz.prog 5 .u8=true:=kR
def ZDe:ZDc Tryz.prog 4=true:=kR
def ZI9:∀(n:Nat) (ds:List D) (b:Nat),b<=n->PlainD Tryz.prog 59 ds b->∃x,ds=Z7 plZ x/\szE x+1<=2 * b/\wE x+1<=2 * b/\ZiN x=true
 | n,ds,b,hb,h=>by
  obtain ⟨c,rfl,hf⟩:=h.inv_st stE
  cases n with
  | zero=>omega
  | succ n =>
  obtain ⟨_,_,b1,c1,rfl,rfl,h1,hf⟩:=hf.inv;obtain ⟨_,_,b2,c2,rfl,rfl,h2,hf⟩:=hf.inv;obtain ⟨_,_,b3,c3,rfl,rfl,h3,hf⟩:=hf.inv;obtain ⟨_,_,b4,c4,rfl,rfl,h4,hf⟩:=hf.inv;obtain ⟨_,_,b5,c5,rfl,rfl,h5,hf⟩:=hf.inv;obtain ⟨rfl,rfl⟩:=hf.inv0;obtain ⟨q1,rfl,rfl,w1⟩:=h1.inv_int bU8;obtain ⟨q1,rfl⟩:=ZDd w1;obtain ⟨q2,rfl,rfl⟩:=h2.inv_str Zx0;obtain ⟨q3,rfl,rfl,w3⟩:=h3.inv_int ZJS;have p3:=ZGD w3;obtain ⟨rows4,d4,rfl,rfl,zo⟩:=h4.inv_sl slE;obtain ⟨q4,rfl,g4,e4,p4⟩:=ZcY (enc:=Z7 plZ) (sz:=szE) (w:=wE) (p:=ZiN) zo fun r c hc hd=>ZI9 n r c oM hd
  obtain ⟨q5,rfl,rfl,-⟩:=h5.inv_int ZGE;refine ⟨.mk q1 q2 q3 q4 (zc q5),?_,?_,?_,?_⟩
  ·simp only [Z7,Zd,Zp,Xo,Zgk];rfl
  ·simp only [szE,Xw,X2,Vx];omega
  ·simp only [wE,Zav,JF,UR];omega
  simp only [ZiN,UT,J4,ZbS,p3,p4];rfl
def ZGF {b:Nat} {ds:List D} (h:PlainD Tryz.prog 59 ds b):∃x,ds=Z7 plZ x/\szE x+1<=2 * b/\wE x+1<=2 * b/\ZiN x=true:=ZI9 b ds b (Tw _) h
def ZJa:∀(n:Nat) (ds:List D) (b:Nat),b<=n->PlainD Tryz.prog 75 ds b->∃x,ds=XD plZ x/\szL x+1<=2 * b/\wL x+1<=2 * b/\ZmW x=true
 | n,ds,b,hb,h=>by
  obtain ⟨c,rfl,hf⟩:=h.inv_st stL
  cases n with
  | zero=>omega
  | succ n =>
  obtain ⟨_,_,b1,c1,rfl,rfl,h1,hf⟩:=hf.inv;obtain ⟨_,_,b2,c2,rfl,rfl,h2,hf⟩:=hf.inv;obtain ⟨_,_,b3,c3,rfl,rfl,h3,hf⟩:=hf.inv;obtain ⟨_,_,b4,c4,rfl,rfl,h4,hf⟩:=hf.inv;obtain ⟨_,_,b5,c5,rfl,rfl,h5,hf⟩:=hf.inv;obtain ⟨rfl,rfl⟩:=hf.inv0;obtain ⟨q1,rfl,rfl,w1⟩:=h1.inv_int bU8;obtain ⟨q1,rfl⟩:=ZDd w1;obtain ⟨q2,rfl,rfl⟩:=h2.inv_str Zx0;obtain ⟨rows3,d3,rfl,rfl,ur⟩:=h3.inv_sl slE;obtain ⟨q3,rfl,g3,e3,p3⟩:=ZcY (enc:=Z7 plZ) (sz:=szE) (w:=wE) (p:=ZiN) ur fun r c hc hd=>ZGF hd
  obtain ⟨rows4,d4,rfl,rfl,zo⟩:=h4.inv_sl slL;obtain ⟨q4,rfl,g4,e4,p4⟩:=ZcY (enc:=XD plZ) (sz:=szL) (w:=wL) (p:=ZmW) zo fun r c hc hd=>ZJa n r c oM hd
  obtain ⟨q5,rfl,rfl,-⟩:=h5.inv_int ZGE;refine ⟨.mk q1 q2 q3 q4 (zc q5),?_,?_,?_,?_⟩
  ·simp only [XD,Zd,Zp,Xo,Zgk];rfl
  ·simp only [szL,Xw,X2,Vx];omega
  ·simp only [wL,Zav,JF,UR];omega
  simp only [ZmW,UT,J4,ZbS,p3,p4];rfl
def ZIp {b:Nat} {ds:List D} (h:PlainD Tryz.prog 75 ds b):∃x,ds=XD plZ x/\szL x+1<=2 * b/\wL x+1<=2 * b/\ZmW x=true:=ZJa b ds b (Tw _) h
def ZIq:∀(n:Nat) (ds:List D) (b:Nat),b<=n->PlainD Tryz.prog 37 ds b->∃x,ds=ZH plZ x/\Zdk x+1<=2 * b/\wRu x+1<=2 * b/\Zfp x=true
 | n,ds,b,hb,h=>by
  obtain ⟨c,rfl,hf⟩:=h.inv_st ZJJ
  cases n with
  | zero=>omega
  | succ n =>
  obtain ⟨_,_,b1,c1,rfl,rfl,h1,hf⟩:=hf.inv;obtain ⟨_,_,b2,c2,rfl,rfl,h2,hf⟩:=hf.inv;obtain ⟨_,_,b3,c3,rfl,rfl,h3,hf⟩:=hf.inv;obtain ⟨_,_,b4,c4,rfl,rfl,h4,hf⟩:=hf.inv;obtain ⟨rfl,rfl⟩:=hf.inv0;obtain ⟨q1,rfl,rfl⟩:=h1.inv_str Zx0;obtain ⟨rows2,d2,rfl,rfl,cu⟩:=h2.inv_sl slE;obtain ⟨q2,rfl,g2,e2,p2⟩:=ZcY (enc:=Z7 plZ) (sz:=szE) (w:=wE) (p:=ZiN) cu fun r c hc hd=>ZGF hd
  obtain ⟨rows3,d3,rfl,rfl,ur⟩:=h3.inv_sl slL;obtain ⟨q3,rfl,g3,e3,p3⟩:=ZcY (enc:=XD plZ) (sz:=szL) (w:=wL) (p:=ZmW) ur fun r c hc hd=>ZIp hd
  obtain ⟨q4,rfl,rfl,-⟩:=h4.inv_int ZGE;refine ⟨.mk q1 q2 q3 (zc q4),?_,?_,?_,?_⟩
  ·simp only [ZH,Zd,Zp,Xo,Zgk];rfl
  ·simp only [Zdk,Xw,X2,Vx];omega
  ·simp only [wRu,Zav,JF,UR];omega
  simp only [Zfp,UT,J4,ZbS,p2,p3];rfl
def ZGG {b:Nat} {ds:List D} (h:PlainD Tryz.prog 37 ds b):∃x,ds=ZH plZ x/\Zdk x+1<=2 * b/\wRu x+1<=2 * b/\Zfp x=true:=ZIq b ds b (Tw _) h
def ZIr:∀(n:Nat) (ds:List D) (b:Nat),b<=n->PlainD Tryz.prog 56 ds b->∃x,ds=Zn x/\sz0 x+1<=2 * b/\wFi x+1<=2 * b/\(fun _=>true) x=true
 | n,ds,b,hb,h=>by
  obtain ⟨c,rfl,hf⟩:=h.inv_st ZJK
  cases n with
  | zero=>omega
  | succ n =>
  obtain ⟨_,_,b1,c1,rfl,rfl,h1,hf⟩:=hf.inv;obtain ⟨_,_,b2,c2,rfl,rfl,h2,hf⟩:=hf.inv;obtain ⟨rfl,rfl⟩:=hf.inv0;obtain ⟨q1,rfl,rfl⟩:=h1.inv_str Zx0;obtain ⟨q2,rfl,rfl⟩:=h2.inv_str Zx0;refine ⟨.mk q1 q2,?_,?_,?_,?_⟩
  ·simp only [Zn,Zd,Zp,Xo,Zgk];rfl
  ·simp only [sz0,Xw,X2,Vx];omega
  ·simp only [wFi,Zav,JF,UR];omega
  rfl
def Zu4 {b:Nat} {ds:List D} (h:PlainD Tryz.prog 56 ds b):∃x,ds=Zn x/\sz0 x+1<=2 * b/\wFi x+1<=2 * b/\(fun _=>true) x=true:=ZIr b ds b (Tw _) h
def ZIs:∀(n:Nat) (ds:List D) (b:Nat),b<=n->PlainD Tryz.prog 45 ds b->∃x,ds=Zy x/\ZlN x+1<=2 * b/\wCa x+1<=2 * b/\(fun _=>true) x=true
 | n,ds,b,hb,h=>by
  obtain ⟨c,rfl,hf⟩:=h.inv_st ZJL
  cases n with
  | zero=>omega
  | succ n =>
  obtain ⟨_,_,b1,c1,rfl,rfl,h1,hf⟩:=hf.inv;obtain ⟨_,_,b2,c2,rfl,rfl,h2,hf⟩:=hf.inv;obtain ⟨rfl,rfl⟩:=hf.inv0;obtain ⟨q1,rfl,rfl⟩:=h1.inv_str Zx0;obtain ⟨rows2,d2,rfl,rfl,cu⟩:=h2.inv_sl ZIo;obtain ⟨q2,rfl,g2,e2,p2⟩:=ZcY (enc:=Zn) (sz:=sz0) (w:=wFi) (p:=fun _=>true) cu fun r c hc hd=>Zu4 hd
  refine ⟨.mk q1 q2,?_,?_,?_,?_⟩
  ·simp only [Zy,Zd,Zp,Xo,Zgk];rfl
  ·simp only [ZlN,Xw,X2,Vx];omega
  ·simp only [wCa,Zav,JF,UR];omega
  rfl
def ZGH {b:Nat} {ds:List D} (h:PlainD Tryz.prog 45 ds b):∃x,ds=Zy x/\ZlN x+1<=2 * b/\wCa x+1<=2 * b/\(fun _=>true) x=true:=ZIs b ds b (Tw _) h
def ZIt:∀(n:Nat) (ds:List D) (b:Nat),b<=n->PlainD Tryz.prog 42 ds b->∃x,ds=Zv plZ x/\ZqA x+1<=2 * b/\wTy x+1<=2 * b/\(fun _=>true) x=true
 | n,ds,b,hb,h=>by
  obtain ⟨c,rfl,hf⟩:=h.inv_st ZJM
  cases n with
  | zero=>omega
  | succ n =>
  obtain ⟨_,_,b1,c1,rfl,rfl,h1,hf⟩:=hf.inv;obtain ⟨_,_,b2,c2,rfl,rfl,h2,hf⟩:=hf.inv;obtain ⟨_,_,b3,c3,rfl,rfl,h3,hf⟩:=hf.inv;obtain ⟨_,_,b4,c4,rfl,rfl,h4,hf⟩:=hf.inv;obtain ⟨_,_,b5,c5,rfl,rfl,h5,hf⟩:=hf.inv;obtain ⟨_,_,b6,c6,rfl,rfl,h6,hf⟩:=hf.inv;obtain ⟨rfl,rfl⟩:=hf.inv0;obtain ⟨q1,rfl,rfl,w1⟩:=h1.inv_int bU8;obtain ⟨q1,rfl⟩:=ZDd w1;obtain ⟨q2,rfl,rfl⟩:=h2.inv_str Zx0;obtain ⟨q3,rfl,rfl⟩:=h3.inv_str Zx0;obtain ⟨rows4,d4,rfl,rfl,zo⟩:=h4.inv_sl ZIo;obtain ⟨q4,rfl,g4,e4,p4⟩:=ZcY (enc:=Zn) (sz:=sz0) (w:=wFi) (p:=fun _=>true) zo fun r c hc hd=>Zu4 hd
  obtain ⟨rows5,d5,rfl,rfl,hr5⟩:=h5.inv_sl ZJO;obtain ⟨q5,rfl,g5,e5,p5⟩:=ZcY (enc:=Zy) (sz:=ZlN) (w:=wCa) (p:=fun _=>true) hr5 fun r c hc hd=>ZGH hd
  obtain ⟨q6,rfl,rfl,-⟩:=h6.inv_int ZGE;refine ⟨.mk q1 q2 q3 q4 q5 (zc q6),?_,?_,?_,?_⟩
  ·simp only [Zv,Zd,Zp,Xo,Zgk];rfl
  ·simp only [ZqA,Xw,X2,Vx];omega
  ·simp only [wTy,Zav,JF,UR];omega
  rfl
def ZGI {b:Nat} {ds:List D} (h:PlainD Tryz.prog 42 ds b):∃x,ds=Zv plZ x/\ZqA x+1<=2 * b/\wTy x+1<=2 * b/\(fun _=>true) x=true:=ZIt b ds b (Tw _) h
def ZIu:∀(n:Nat) (ds:List D) (b:Nat),b<=n->PlainD Tryz.prog 47 ds b->∃x,ds=ZO plZ x/\ZmN x+1<=2 * b/\wRe x+1<=2 * b/\(fun _=>true) x=true
 | n,ds,b,hb,h=>by
  obtain ⟨c,rfl,hf⟩:=h.inv_st ZJN
  cases n with
  | zero=>omega
  | succ n =>
  obtain ⟨_,_,b1,c1,rfl,rfl,h1,hf⟩:=hf.inv;obtain ⟨_,_,b2,c2,rfl,rfl,h2,hf⟩:=hf.inv;obtain ⟨_,_,b3,c3,rfl,rfl,h3,hf⟩:=hf.inv;obtain ⟨_,_,b4,c4,rfl,rfl,h4,hf⟩:=hf.inv;obtain ⟨_,_,b5,c5,rfl,rfl,h5,hf⟩:=hf.inv;obtain ⟨_,_,b6,c6,rfl,rfl,h6,hf⟩:=hf.inv;obtain ⟨rfl,rfl⟩:=hf.inv0;obtain ⟨q1,rfl,rfl⟩:=h1.inv_str Zx0;obtain ⟨rows2,d2,rfl,rfl,cu⟩:=h2.inv_sl ZIo;obtain ⟨q2,rfl,g2,e2,p2⟩:=ZcY (enc:=Zn) (sz:=sz0) (w:=wFi) (p:=fun _=>true) cu fun r c hc hd=>Zu4 hd
  obtain ⟨q3,rfl,rfl⟩:=h3.inv_bool ZDe;obtain ⟨q4,rfl,rfl⟩:=h4.inv_bool ZDe;obtain ⟨q5,rfl,rfl⟩:=h5.inv_bool ZDe;obtain ⟨q6,rfl,rfl,-⟩:=h6.inv_int ZGE;refine ⟨.mk q1 q2 q3 q4 q5 (zc q6),?_,?_,?_,?_⟩
  ·simp only [ZO,Zd,Zp,Xo,Zgk];rfl
  ·simp only [ZmN,Xw,X2,Vx];omega
  ·simp only [wRe,Zav,JF,UR];omega
  rfl
def ZGJ {b:Nat} {ds:List D} (h:PlainD Tryz.prog 47 ds b):∃x,ds=ZO plZ x/\ZmN x+1<=2 * b/\wRe x+1<=2 * b/\(fun _=>true) x=true:=ZIu b ds b (Tw _) h
end Go.PM.Lex
end

section
namespace Go
variable {H:Type} {enc:TypeId×Value->H}
end Go
namespace Go.PM.Lex
open Go.Proofs Go.Proofs.YtcaoooleeciiaaaGreatDoor Go.ChangeShapes Go.WideShapes Go.ChangeAt Go.RowKit
def ZIv:ownKnob Tryz.prog.godebug=none:=kR
def ZyT : "*" ++ "errors.errorString" = "*errors.errorString" := by decide
def Zx1 (u : TypeId) (h : Tryz.prog.typeName? 3 u = some "*errors.errorString") : u = 344 :=
 typeName_ptr_named (nm := "errors.errorString") (by rw [ZyT]; kernel_rfl) kR dM u (by rw [ZyT]; exact h)
def Zu5 {W:World} {n:String} {text:List UInt8} {g:Nat} (hg:Tryz.prog.globalNamed n=some g) (ht:(Tryz.prog.globals[g]?).map (·.type)=some 184)
  (h : laidMet Tryz.prog [(n, .iface "*errors.errorString" (.ptr (.agg [.lit (.string text)])))] W) : ∃ ev, W.cell? ⟨g, 0, none⟩ = some ev /\ (ev = .nilIface \/ ∃ te pe, ev = .iface te pe) := by
 obtain ⟨a1,s1,my,_⟩:=laid_sentinel h hg ht Tryz.underlying184 Zx1 Tryz.underlying344 Tryz.underlying346 rfl rfl Tryz.underlying9 kR kR;refine ⟨.iface 344 (.pointer (some a1)),?_,.inr ⟨_,_,rfl⟩⟩;simpa using World.var?_cell hg my 0
def ZGK {W:World} (h:laidMetH Tryz.prog Rows.typesLessRow.laid W) (kl:W.ShapedOpen Tryz.prog):GlobOK W 8:=by
 rw [MakeChecks.laidMetH_plain _ _ _ kR] at h;have h1 := laidMet.filter (fun x => x.1 == "strconv.ErrSyntax") h;have h2 := laidMet.filter (fun x => x.1 == "strconv.ErrRange") h;exact ⟨oM,Tryz.laysM143.s1_3 W kl,Zu5 kR kR h1,Zu5 kR kR h2⟩
def ZnM:Env:=⟨fun _=>0,fun _=>none,fun _ _=>False,fun _=>none⟩
def ZGL {e':Env} {W W':World} {σ':St} {may:MemPlace->Prop} (h:Later ZnM ⟨[],[],0⟩ W e' σ' W'):W.keptBut W' may:=by
 refine ⟨h.os,h.output,fun i hi=>?_⟩;have:=h.blocks i hi (fun j hj=>by simp at hj) (fun t ht=>by cases ht) rfl;rw [this]
 cases hh:W.heap[i]? with
 | none=>rfl
 | some o=>cases o <;> simp
def ZDf {W:World} (h:8<=W.heap.size):SRel (GG W 8) ZnM ⟨[],[],0⟩ W where
 inj:=fun i j hi=>by simp at hi
 box:=fun i x hx=>by simp at hx
 low:=fun i hi=>by simp at hi
 tkn:=fun t ht=>by cases ht
 own:=fun t ht=>by cases ht
 dis:=fun t t' ht=>by cases ht
 xlt:=fun b off hx=>hx.elim
 xown:=fun t ht=>by cases ht
 hid:=fun b q hq=>by cases hq
 glob:=fun b hb=>rfl
 big:=h
end Go.PM.Lex
end

section
namespace Go.PM.Lex
open Go.Proofs Go.Proofs.YtcaoooleeciiaaaGreatDoor
def Zx2:∀b off,okc ZnM ⟨[],[],0⟩ b off:=fun b off=>⟨fun h=>h,fun i hi=>by simp at hi,(fun t ht=>by cases ht),fun q hq=>by cases hq⟩
section
variable {H:Type} {enc:TypeId×Value->H} {W:World} {nG:Nat}
def Zrh {S:List TypeId} (hS:S.all (ZpF Tryz.prog S)=true) {t:TypeId} {cs:Array Value} {d:DataW H} {ps:List MemPlace} (ht:t∈S) (h:DataW.Trod enc Tryz.prog W 0 (fun _=>true) true t (.agg cs) d ps) :
  ∃ds b,PlainD Tryz.prog t ds b/\VRel (GG W nG) ZnM ⟨[],[],0⟩ W (.agg (ds.map .d)) (.agg cs)/\b<=Rows.uptoBulk d:=by
 obtain ⟨fuel,hf⟩:=h;obtain ⟨ds,b,h1,h2,h3⟩:=ZcX hS Zx2 Rows.uptoBulk Rows.uptoBulkAll (fun _ _=>Tw _) (fun _=>Tw _) (fun _=>Tw _) (fun _=>Tw _) (fun l m=>by simp only [Rows.uptoBulk];omega) (Tw _) (fun _ _=>Tw _) fuel t _ _ ht hf;have hc:(Value.agg cs).cells.toList=cs.toList:=rfl;rw [hc] at h2;refine ⟨ds,b,h1,.agg _ _ (by rw [Tf,h2.len,Sy]) (fun i x u hx hu=>?_) (fun u hu=>h2.one u (by simpa using hu)),h3⟩;rw [Tk] at hx;obtain ⟨y,hy,rfl⟩:=TF.1 hx;exact .d _ _ (h2.rel i y u hy (by simpa using hu))
end
end Go.PM.Lex
end

section
namespace Go.PM.Lex
open Go.Proofs Go.Proofs.YtcaoooleeciiaaaGreatDoor
def plainP:List TypeId:=[26,22,23,24,42,47,37,56,39,45,40,59,34,75,35,9,3,5,2,4]
def Zu6:plainP.all (ZpF Tryz.prog plainP)=true:=kR
def ZJT:stB Tryz.prog 26 [22,23,24]=true:=kR
def ZIw {b:Nat} {ds:List D} (h:PlainD Tryz.prog 26 ds b):∃x:Pr,ds=Za2 plZ x/\Zd4 x+1<=2 * b/\wUn (prU x)+1<=2 * b/\ZiO (prU x)=true:=by
 obtain ⟨c,rfl,hf⟩:=h.inv_st ZJT;obtain ⟨_,_,b1,c1,rfl,rfl,h1,hf⟩:=hf.inv;obtain ⟨_,_,b2,c2,rfl,rfl,h2,hf⟩:=hf.inv;obtain ⟨_,_,b3,c3,rfl,rfl,h3,hf⟩:=hf.inv;obtain ⟨rfl,rfl⟩:=hf.inv0;obtain ⟨rows1,d1,rfl,rfl,bj⟩:=h1.inv_sl ZJP;obtain ⟨q1,rfl,g1,e1,p1⟩:=ZcY (enc:=Zv plZ) (sz:=ZqA) (w:=wTy) (p:=fun _=>true) bj fun r c hc hd=>ZGI hd
 obtain ⟨rows2,d2,rfl,rfl,cu⟩:=h2.inv_sl ZJQ;obtain ⟨q2,rfl,g2,e2,p2⟩:=ZcY (enc:=ZO plZ) (sz:=ZmN) (w:=wRe) (p:=fun _=>true) cu fun r c hc hd=>ZGJ hd
 obtain ⟨rows3,d3,rfl,rfl,ur⟩:=h3.inv_sl ZJR;obtain ⟨q3,rfl,g3,e3,p3⟩:=ZcY (enc:=ZH plZ) (sz:=Zdk) (w:=wRu) (p:=Zfp) ur fun r c hc hd=>ZGG hd
 refine ⟨⟨q1,q2,q3⟩,rfl,?_,?_,?_⟩
 ·show 1+szS ZqA q1+szS ZmN q2+szS Zdk q3+1<=_;omega
 ·simp only [prU,wUn,Zyk,szS];omega
 simp [prU,ZiO,Zfq,p3]
section
variable {H:Type} {enc:TypeId×Value->H} {W:World} {nG:Nat}
def Zx3 {cs:Array Value} {d:DataW H} {ps:List MemPlace} (h:DataW.Trod enc Tryz.prog W 0 (fun _=>true) true 26 (.agg cs) d ps) :
  ∃x,VRel (GG W nG) ZnM ⟨[],[],0⟩ W (.agg ((Za2 plZ x).map .d)) (.agg cs)/\Zd4 x+1<=2 * Rows.uptoBulk d/\wUn (prU x)+1<=2 * Rows.uptoBulk d/\ZiO (prU x)=true:=by
 obtain ⟨ds,b,h1,h2,h3⟩:=Zrh (nG:=nG) Zu6 dM h;obtain ⟨x,rfl,g1,g2,g3⟩:=ZIw h1;exact ⟨x,h2,oM,oM,g3⟩
end
end Go.PM.Lex
namespace Go.Proofs.YtcaoooleeciiaaaGreatDoor
open Go.ChangeShapes
variable {P:Program} {H:Type} {enc:TypeId×Value->H} {w:World} {base:Nat} {spare:Nat->Bool} {agt:Bool}
end Go.Proofs.YtcaoooleeciiaaaGreatDoor
end

section
namespace Go.PM.Lex
open Go.Proofs
variable {w0:World} {nG:Nat}
end Go.PM.Lex
end

section
namespace Go.PM.Lex
open Go.Proofs Go.Proofs.YtcaoooleeciiaaaGreatDoor
def ZDg:Rows.laid_unicode_utf8_first=Lib.firstData:=kR
def Zx4:(Rows.laid_unicode_utf8_acceptRanges:DataW Unit)=Lib.acceptData:=kR
def ZGM {W:World} (h:laidMetH Tryz.prog Rows.typesLessRow.laid W):Lib.Utf8Tabs 0 1 W:=by
 rw [MakeChecks.laidMetH_plain _ _ _ kR] at h;have h1:=Lib.laidMet.reads (d:=Rows.laid_unicode_utf8_first) h (.tail _ (.tail _ (.tail _ (.tail _ (.tail _ (.tail _ (.head _)))))));have h2:=Lib.laidMet.reads (d:=Rows.laid_unicode_utf8_acceptRanges) h (.tail _ (.tail _ (.tail _ (.head _))));rw [ZDg] at h1;rw [Zx4] at h2;exact utf8Tabs_of_readsT (U8Types.of196 Tryz.laysValid) ⟨kR,kR,kR,kR,kR,kR,kR⟩ h1 h2
variable {w0:World} {nG:Nat}
def ZIx (hb:1<nG) (hT:Lib.Utf8Tabs 0 1 w0):LexC w0 nG where
 name:=ZHB ⟨Zsx,Zbx,ZDP,trivial⟩
 quote:=Zwo ⟨Zwk hb hT,Zde,Zg4,Zdf,Zkg,trivial⟩
end Go.PM.Lex
end

section
namespace Go.PM.Lex
open Go.Proofs Go.Proofs.YtcaoooleeciiaaaGreatDoor
def Zx5:DataW Unit->List Int
 | .agg xs=>xs.map fun | .lit (.int _ z)=>z | _=>0
 | _=>[]
def ZDh:(Rows.laid_internal_strconv_uint64pow10:DataW Unit)=Lib.tabData .u64 Lib.pow10Tab:=kR
def ZIy:(Rows.laid_math_bits_deBruijn64tab:DataW Unit)=Lib.tabData .u8 (Zx5 Rows.laid_math_bits_deBruijn64tab):=kR
def ZDi:(Zx5 Rows.laid_math_bits_deBruijn64tab).getD 15 0=4:=kR
def ZGN:(Zx5 Rows.laid_math_bits_deBruijn64tab).length=64:=kR
def ZIz {W:World} (h:laidMetH Tryz.prog Rows.typesLessRow.laid W):NumOK W 8:=by
 rw [MakeChecks.laidMetH_plain _ _ _ kR] at h;have h1 := laidMet.filter (fun x => x.1 == "internal/strconv.uint64pow10") h;have h2 := laidMet.filter (fun x => x.1 == "math/bits.deBruijn64tab") h;have k1 : laidMet Tryz.prog [("internal/strconv.uint64pow10", Lib.tabData .u64 Lib.pow10Tab)] W := by rw [<- ZDh]; exact h1
 have k2 : laidMet Tryz.prog [("math/bits.deBruijn64tab", Lib.tabData .u8 (Zx5 Rows.laid_math_bits_deBruijn64tab))] W := by rw [<- ZIy]; exact h2
 refine ⟨dM,Lib.tabIs_of_head (g:=3) (t:=321) kR kR Tryz.underlying321 kR kR kR k1,?_⟩;have k3:=Lib.tabIs_of_head (g:=5) (t:=339) kR kR Tryz.underlying339 kR kR kR k2;have k4:=k3.cell (g:=5) kR 15 (by rw [ZGN];decide);rw [ZDi] at k4;exact k4
end Go.PM.Lex
end

section
namespace Go.PM.Lex
open Go.Proofs Go.Proofs.YtcaoooleeciiaaaGreatDoor
def Yk {a b:Bool} (h1:a=true) (h2:b=true):(a && b)=true:=by rw [h1,h2];rfl
def Zu7 {P:Program} {f:FuncId} {fn:Func} {s:ChangeSpec} {c:OpenClaim}
  (p1:laidOutB P=true) (p2:mapsRowed P=true) (p3:(P.stops == [])=true) (p4:(P.stopKnobs == [])=true) (p5:(c.plainKeys == P.plainKeys)=true) (p6:P.stopsHeard=true) (p7:P.mayEnter=true) (p8:(c.lifted == P.liftsFinal)=true) (p9:(P.make == some c.make)=true)
  (k1:c.wf (OpenSpec.ofChange s)=true) (k2:fn.params.all (P.readableRec ·)=true) (k3:namedTie P c.named s.vars=true) (k4:(c.stops == [])=true) (k5:(c.knobs == [])=true)
  (k6:(c.inPlace == P.inPlace f)=true) (k7:(c.unfollowed == P.unfollowed f)=true) (k8:(c.recurses == P.recurses f)=true) (k9:(c.named == P.varsNamed f)=true)
  (k10:(c.maps == (fn.params.toList++s.plain.varTypes P).any (P.mapsRec ·))=true) (k11:(c.ifaces == (fn.params.toList++s.plain.varTypes P).any (P.ifacesRec ·))=true) (k12:(c.mapsOut == P.mapsAmong fn.resultTypes.toList)=true)
  (k13:(c.loops == (fn.params.toList++s.plain.varTypes P).any (P.loopsFrom ·))=true) (k14:(c.wideKeys == (fn.params.toList++s.plain.varTypes P++fn.resultTypes.toList).any (P.wideKeysFrom ·))=true)
  (k15:s.vars.all (P.varReadable ·)=true) (k16:fn.resultTypes.all (fun t=>P.readableRec t && decide (t<P.types.size))=true) (k17:(c.ifacesOut == fn.resultTypes.toList.any (P.ifacesRec ·))=true) (k18:(c.loopsOut == fn.resultTypes.toList.any (P.loopsFrom ·))=true)
  (k19:c.shortTexts.isNone=true) (k20:(c.kinds == (if c.domain.isEmpty then [] else fn.params.toList.map fun t=>match P.underlying t with | some (.int k)=>some k | _=>none))=true) (k21:(c.pinned == c.pinnedBy)=true)
  (k22:(c.veiled == (fn.params.toList++s.plain.varTypes P++fn.resultTypes.toList).any (P.veiledRec ·))=true) (k23:c.veiledFits P fn.params.toList (fn.params.toList++s.plain.varTypes P++fn.resultTypes.toList)=true):joinedFacts P f fn s c=true:=by
 unfold joinedFacts
 exact (Yk (Yk (Yk (Yk (Yk (Yk (Yk (Yk (Yk (Yk (Yk (Yk (Yk (Yk (Yk (Yk (Yk (Yk (Yk (Yk (Yk (Yk (Yk (Yk (Yk (Yk (Yk (Yk (Yk (Yk (Yk k1 p1) p2) k2) k3) k4) p3) k5) p4) k6) k7) k8) k9) k10) k11) k12) k13) k14) k15) k16) k17) k18) p5) k19) p6) p7) p8) p9) k20) k21) k22) k23)
def jp1:laidOutB Tryz.checked.prog=true:=kR
def jp2:mapsRowed Tryz.checked.prog=true:=kR
def jp3:(Tryz.checked.prog.stops == [])=true:=kR
def jp4:(Tryz.checked.prog.stopKnobs == [])=true:=kR
def jp5:(Rows.typesLessRow.plainKeys == Tryz.checked.prog.plainKeys)=true:=kR
def jp6:Tryz.checked.prog.stopsHeard=true:=kR
def jp7:Tryz.checked.prog.mayEnter=true:=kR
def jp8:(Rows.typesLessRow.lifted == Tryz.checked.prog.liftsFinal)=true:=kR
def jp9:(Tryz.checked.prog.make == some Rows.typesLessRow.make)=true:=kR
def jp10:Tryz.checked.prog.mainIs=some (Rows.typesLessCard.stood.harness.1,Rows.typesLessCard.stood.harness.2.toList):=kR
def jp11:Rows.typesLessCard.stood.looks=Tryz.checked.prog.looks []:=kR
end Go.PM.Lex
end
