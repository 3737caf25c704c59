/- A part of the proof: plain logic, contracts and laws over the given program. -/
import Derived.Deep.Slices
import Derived.ChangeArms
import Derived.DataReads
import Derived.Test.YtbdleclcgopcdaaGreatDoorRows
import Derived.Test.YtbdleclcgopcdaaGreatDoorTie
import Derived.Test.YtbdleclcgopcdaaGreatDoorCards
import Derived.ProofKit
import Derived.OpenShut
import Derived.LaidMore
import Derived.Lay
import Derived.LaidSub
import Derived.SevenTiedAt
import Derived.Stop.Joined
import Derived.Stop.LaidErr
import Derived.Lib.LaidU8T
import Derived.Lib.LaidTab
import Derived.JoinedOf
import Derived.Test.YtbdleclcgopcdaaGreatDoorB13
set_option linter.unusedVariables false
set_option linter.unusedSimpArgs false
set_option linter.all false
set_option maxRecDepth 100000
set_option maxHeartbeats 16000000
noncomputable section
section
namespace Go.PM.Lex
open Go.Proofs
def ZEr (g:Nat):Bool:=Zej g [58,259,306]
def ZzE (g:Nat) (a:List PV):Option (PEnd×St):=fnR Tryz.prog (Zcc Tryz.prog Vq ZEr 100000 200) Vq 100000 g a ⟨[],[],0⟩
def ZFo:List UInt8:=[112,40,120,41,32,58,45,32,113,40,120,44,32,95,41,46]
def ZFp:List UInt8:=[112,40,120,41,32,58,45,32,113,40,121,44,32,121,41,46]
def vK9 (b:UInt8) (a:Int):List D:=[.int .u8 1,.str [b],.int .i64 0,.sl [],.int .i64 a]
def ZCD (a:Int):List D:=[.int .u8 2,.str [],.int .i64 0,.sl [],.int .i64 a]
def ZCE:List (List D):=[[.str [112],.sl [[.str [120],.str [110,117,109,98,101,114]]],.bool false,.bool false,.bool false,.int .i64 5],[.str [113],.sl [[.str [120],.str [110,117,109,98,101,114]],[.str [121],.str [110,117,109,98,101,114]]],.bool false,.bool false,.bool false,.int .i64 23]]
def ZuL (x y:List D):PV:=.agg [.d (.sl []),.d (.sl ZCE),.d (.sl [[.str [112],.sl [vK9 120 49],.sl [[.int .u8 1,.str [113],.sl [x,y],.sl [],.int .i64 55]],.int .i64 47]])]
def ZCF (r:PV):Option (PEnd×St)->Bool
 | some (.ret v,⟨[],[],0⟩)=>ZC9 v r
 | _=>false
def ZmQ {r:PV} {o:Option (PEnd×St)} (h:ZCF r o=true):o=some (.ret r,⟨[],[],0⟩):=by
 unfold ZCF at h
 split at h
 ·rw [Zla h]
 cases h
def ZEs:ZzE 12 [.d (.str ZFo)]=some (.ret (ZuL (vK9 120 57) (ZCD 60)),⟨[],[],0⟩):=ZmQ kR
def ZEt:ZzE 12 [.d (.str ZFp)]=some (.ret (ZuL (vK9 121 57) (vK9 121 60)),⟨[],[],0⟩):=ZmQ kR
variable {w0:World} {nG:Nat}
def Zjp {s:Bs} {r:PV} (h:ZzE 12 [.d (.str s)]=some (.ret r,⟨[],[],0⟩)):PC w0 nG 12 fun a σ K=>a=[.d (.str s)]/\σ=⟨[],[],0⟩/\K (.ret r) ⟨[],[],0⟩ :=
 Zou Zx mixed h
def ZzZ:Pl:=fun n=>(n:Int)
def vX9 (b:UInt8) (a:Nat):Ex:=.mk 1 [b] 0 [] a
def pK9 (x y:Ex):Pr:=⟨[],[⟨[112],[⟨[120],ZtI⟩],false,false,false,5⟩,⟨[113],[⟨[120],ZtI⟩,⟨[121],ZtI⟩],false,false,false,23⟩],[⟨[112],[vX9 120 49],[.mk 1 [113] [x,y] [] 55],47⟩]⟩
abbrev pA9:Pr:=pK9 (vX9 120 57) (.mk 2 [] 0 [] 60)
abbrev pB9:Pr:=pK9 (vX9 121 57) (vX9 121 60)
def ZEu:(Zfx (prU pA9)).2=0:=kR
def ZEv:(Zfx (prU pB9)).2=0:=kR
def ZCG:Zez 1000 (prU pA9):=⟨kR,Tc kR,Tc kR,rfl,rfl,rfl⟩
def ZCH:Zez 1000 (prU pB9):=⟨kR,Tc kR,Tc kR,rfl,rfl,rfl⟩
def ZEw:Zt3 ZzZ pA9=(0,0):=by rw [ZkQ,Tf (fun g=>g ZEu)];kernel_rfl
def ZEx:Zt3 ZzZ pB9=(0,0):=by rw [ZkQ,Tf (fun g=>g ZEv)];kernel_rfl
def ZEy:Zog ZzZ pA9=(0,0):=by unfold Zog;rw [Tf (by rw [ZEw];exact fun g=>g rfl)];kernel_rfl
def ZEz:Zog ZzZ pB9=(49,190):=by unfold Zog;rw [Tf (by rw [ZEx];exact fun g=>g rfl)];kernel_rfl
def szK9:Zn4 pA9<=2097152/\Zn4 pB9<=2097152:=⟨Tc kR,Tc kR⟩
def ZFq (x y:Ex):∀r∈(pK9 x y).rules,XT r.body:=fun r hr=>by
 simp [pK9] at hr;subst hr;intro z hz
 simp at hz;subst hz;exact (by decide:1<=8)
def ZGi {G:GE} {g:FuncId} {a b:Zn} (ha:PCalls G g a) (hb:PCalls G g b):PCalls G g fun args σ K=>a args σ K\/b args σ K:=⟨ha.enters,fun args σ K hs n e w vs hS hA=>hs.elim (fun h=>ha.calls args σ K h n e w vs hS hA) (fun h=>hb.calls args σ K h n e w vs hS hA)⟩
def ZCI (x y:List PV) (r s:PV):Zn:=fun a σ K=>(a=x/\σ=⟨[],[],0⟩/\K (.ret r) ⟨[],[],0⟩)\/(a=y/\σ=⟨[],[],0⟩/\K (.ret s) ⟨[],[],0⟩)
def Zov:OKw w0 nG [(12,ZCI [.d (.str ZFo)] [.d (.str ZFp)] (ZuL (vK9 120 57) (ZCD 60)) (ZuL (vK9 121 57) (vK9 121 60))),(11,Zcz 1000)] 6 Zcy:=by
 refine pwo Tryz.func6 fun args σ K h=>?_
 unfold Zcy at h
 split at h
 ·refine pwv [] 0 false ?_;refine Or.inl ⟨rfl,rfl,wN ?_⟩;refine ⟨ZzZ,pA9,rfl,⟨ZCG,dM,szK9.1⟩,ZFq _ _,fun a e hx=>?_⟩;rw [ZEy] at hx
  cases hx
  conv=>whnf
  refine Or.inr ⟨rfl,rfl,wN ?_⟩;refine ⟨ZzZ,pB9,rfl,⟨ZCH,dM,szK9.2⟩,ZFq _ _,fun a e hx=>?_⟩;rw [ZEz] at hx
  cases hx
  exact mq48
 exact h.elim
def ZuM (hP:PC w0 nG 48 (Zn2 XQ Zez Zfx 1000)):PC w0 nG 6 Zcy :=
 Zov ⟨ZGi (Zjp ZEs) (Zjp ZEt),Zzn hP,trivial⟩
end Go.PM.Lex
end

section
namespace Go.PM
mutual
inductive PlainD (P:Program):TypeId->List D->Nat->Prop
 | int {t:TypeId} {k:IntKind} {n:Int} (h:P.underlying t=some (.int k)) (hw:(Lit.int k n).wf=true):PlainD P t [.int k n] 1
 | str {t:TypeId} {s:List UInt8} (h:P.underlying t=some .string):PlainD P t [.str s] (s.length+1)
 | bool {t:TypeId} {b:Bool} (h:P.underlying t=some .bool):PlainD P t [.bool b] 1
 | st {t:TypeId} {fs:Array Field} {ds:List D} {b:Nat} (h:P.underlying t=some (.struct fs)) (hf:PlainFs P (fs.toList.map (·.type)) ds b):PlainD P t ds (b+1)
 | sl {t e:TypeId} {rows:List (List D)} {b:Nat} (h:P.underlying t=some (.slice e)) (hr:PlainRs P e rows b):PlainD P t [.sl rows] (b+1)
inductive PlainFs (P:Program):List TypeId->List D->Nat->Prop
 | nil:PlainFs P [] [] 0
 | cons {f:TypeId} {l:List TypeId} {r ds:List D} {b c:Nat} (h1:PlainD P f r b) (h2:PlainFs P l ds c):PlainFs P (f::l) (r++ds) (b+c)
inductive PlainRs (P:Program):TypeId->List (List D)->Nat->Prop
 | nil {e:TypeId}:PlainRs P e [] 0
 | cons {e:TypeId} {r:List D} {rows:List (List D)} {b c:Nat} (h1:PlainD P e r b) (h2:PlainRs P e rows c):PlainRs P e (r::rows) (b+c)
end
structure CR (ok:Nat->Nat->Prop) (w:World) (ds:List D) (cs:List Value):Prop where
 len:ds.length=cs.length
 rel:∀(i:Nat) (x:D) (u:Value),ds[i]?=some x->cs[i]?=some u->DRel ok w x u
 one:∀u∈cs,u.oneCell'=true
def CR.nil {ok:Nat->Nat->Prop} {w:World}:CR ok w [] []:=⟨rfl,fun i x u h=>by simp at h,fun u h=>by cases h⟩
def CR.one1 {ok:Nat->Nat->Prop} {w:World} {x:D} {u:Value} (h:DRel ok w x u) (h1:u.oneCell'=true):CR ok w [x] [u]:=⟨rfl,fun i y v hy hv=>by
 match i,hy,hv with
 | 0,hy,hv=>cases hy;cases hv;exact h
 | i+1,hy,hv=>simp at hy,fun v hv=>by rw [List.mem_singleton.1 hv];exact h1⟩
def CR.app {ok:Nat->Nat->Prop} {w:World} {d1 d2:List D} {c1 c2:List Value} (h1:CR ok w d1 c1) (h2:CR ok w d2 c2):CR ok w (d1++d2) (c1++c2):=by
 refine ⟨by rw [Tb,Tb,h1.len,h2.len],fun i x u hx hu=>?_,fun u hu=>?_⟩
 ·by_cases hi:i<d1.length
  ·rw [TJ hi] at hx;rw [TJ (by rw [<- h1.len];exact hi)] at hu;exact h1.rel i x u hx hu
  rw [TU oM] at hx;rw [TU (by rw [<- h1.len];omega),<- h1.len] at hu;exact h2.rel _ x u hx hu
 rcases TD.1 hu with h | h
 ·exact h1.one u h
 exact h2.one u h
def ZuN (P:Program):List Field->Nat->Option Nat
 | [],a=>some a
 | f::l,a=>if f.offset=a then ZuN P l (a+P.cellsOf f.type) else none
def Zsc (P:Program) (S:List TypeId) (t:TypeId):Bool:=match P.underlying t with
 | some (.int _) | some .string | some .bool=>true
 | some (.struct fs)=>fs.toList.all (fun f=>S.contains f.type) && decide (ZuN P fs.toList 0=some (P.cellsOf t))
 | some (.slice e)=>S.contains e && decide (0<P.cellsOf e)
 | _=>false
section
variable {H:Type} {enc:TypeId×Value->H} {P:Program} {w:World} {ok:Nat->Nat->Prop}
def Zbv {S:List TypeId} (hS:S.all (Zsc P S)=true) (ao:∀b off,ok b off) (bulk:DataW H->Nat) (bulks:List (DataW H)->Nat)
  (k1:∀k n,1<=bulk (.lit (.int k n))) (k2:∀s,s.length+1<=bulk (.lit (.string s))) (k3:∀b,1<=bulk (.lit (.bool b))) (k4:∀l,bulks l+1<=bulk (.agg l)) (k5:∀l m,bulks l+1<=bulk (.slice l m)) (k6:1<=bulk .nil) (k7:∀d l,bulk d+bulks l<=bulks (d::l)) :
  ∀(fuel:Nat) (t:TypeId) (cs:List Value) (x:DataW H×List MemPlace),t∈S->DataW.trod enc P w 0 (fun _=>true) true fuel t cs=some x->∃ds b,PlainD P t ds b/\CR ok w ds cs/\b<=bulk x.1
 | 0,t,cs,x,ht,h=>by simp [DataW.trod] at h
 | fuel+1,t,cs,x,ht,h=>by
  have hp:=Tr.1 hS t ht;unfold Zsc at hp
  split at hp
  ·rename_i k hu
   obtain ⟨n,rfl,rfl,hw⟩:=DataW.trod_int hu h;exact ⟨_,1,.int hu hw,.one1 (.int _ _) rfl,k1 _ _⟩
  ·rename_i hu
   obtain ⟨s,rfl,rfl,hw⟩:=DataW.trod_string hu h;exact ⟨[.str s.data.toList],_,.str hu,.one1 (.str _) rfl,k2 _⟩
  ·rename_i hu
   obtain ⟨b,rfl,rfl⟩:=DataW.trod_bool hu h;exact ⟨_,1,.bool hu,.one1 (.bool _) rfl,k3 _⟩
  ·rename_i fs hu
   rw [Tn,TP,Tr] at hp;obtain ⟨l5,j9⟩:=hp;obtain ⟨xs,n,hn,rfl,hlen,hxl,hf⟩:=DataW.trod_struct hu h;obtain rfl:fuel=n:=oM;have key:∀(l:List Field) (k a:Nat),fs.toList.drop k=l->ZuN P l a=some (P.cellsOf t)->∃ds b,PlainFs P (l.map (·.type)) ds b/\CR ok w ds (cs.drop a)/\b<=bulks ((xs.drop k).map (·.1)):=by
    intro l
    induction l with
    | nil =>
     intro k a hk ha
     cases ha
     exact ⟨[],0,.nil,by rw [Tq oM];exact .nil,Sa _⟩
    | cons f l ih =>
    intro k a hk ha
    rw [ZuN] at ha;split at ha
    ·rename_i ic
     have hkl:k<fs.size:=by
      have:=congrArg List.length hk;simp at this;omega
     have hfk:fs[k]?=some f:=by
      have:(fs.toList.drop k)[0]?=some f:=by rw [hk];rfl
      simpa using this
     have hd:fs.toList.drop (k+1)=l:=by rw [<- TM,hk];rfl
     obtain ⟨ds,b,g1,g2,g3⟩:=ih (k+1) _ hd ha;have hx:=hf k f hfk;rw [Ta oM] at hx;have hfS:f.type∈S:=by
      have:=l5 f (by have:=TX (l:=fs.toList) (i:=k) (a:=f) (by simpa using hfk);exact this);simpa using this
     obtain ⟨dr,br,q1,q2,q3⟩:=Zbv hS ao bulk bulks k1 k2 k3 k4 k5 k6 k7 fuel _ _ _ hfS hx;rw [ic] at q2;refine ⟨dr++ds,br+b,.cons q1 g1,?_,?_⟩
     ·have e:cs.drop a=(cs.drop a).take (P.cellsOf f.type)++cs.drop (a+P.cellsOf f.type):=by rw [<- TM,List.take_append_drop]
      rw [e];exact q2.app g2
     have e:xs.drop k=xs[k]::xs.drop (k+1):=Tm oM;rw [e,TF];exact TT (Nat.add_le_add q3 g3) (k7 _ _)
    cases ha
   obtain ⟨ds,b,g1,g2,g3⟩:=key fs.toList 0 0 rfl j9;rw [Sn] at g2 g3;exact ⟨ds,b+1,.st hu g1,g2,TT (Nat.add_le_add_right g3 1) (k4 _)⟩
  ·rename_i e hu
   rw [Tn,TP] at hp;obtain ⟨hp,ba⟩:=hp;have heS:e∈S:=by simpa using hp
   rcases DataW.trod_slice hu h with ⟨rfl,rfl⟩ | ⟨a,len,cap,elems,rest,n,hn,rfl,rfl,hb,hl,hm,hlen,hel,xe,hns⟩
   ·exact ⟨[.sl []],1,.sl hu .nil,.one1 .slnil rfl,k6⟩
   obtain rfl:fuel=n:=oM;obtain ⟨m9,fb⟩:=xe rfl
   by_cases jb:cap=0
   ·subst jb;obtain rfl:len=0:=oM;exact ⟨[.sl []],1,.sl hu .nil,.one1 (.slz a) rfl,TT oM (k5 _ _)⟩
   have y5:a.spot=none:=by
    have h0:∃cs',w.cells? 0 (a.add (0 * P.cellsOf e)) (P.cellsOf e)=some cs':=by
     by_cases ny:0<len
     ·have:=hel 0 ny;rw [Ta oM] at this;obtain ⟨cs',h1,_⟩:=Option.bind_eq_some_iff.1 this;exact ⟨cs',h1⟩
     have:=fb 0 oM;rw [Ta oM] at this;obtain ⟨cs',h1,_⟩:=Option.bind_eq_some_iff.1 this;exact ⟨cs',by rw [show len+0=0 by omega] at h1;exact h1⟩
    obtain ⟨cs',h1⟩:=h0;obtain ⟨_,h2,h3⟩:=World.cells?_some h1;have h4:=h3 0 ba;rw [Ta oM] at h4;have ea:(a.add (0 * P.cellsOf e)).add 0=a:=by simp [Addr.add]
    rw [ea] at h4
    cases xe:a.spot with
    | none=>rfl
    | some q =>
    unfold World.cell? at h4
    split at h4
    ·rw [xe] at h4;simp at h4
    cases h4
   obtain ⟨blk,off,sp⟩:=a;obtain rfl:sp=none:=y5;have key:∀(m k:Nat),k+m=len->∃rows b,PlainRs P e rows b/\rows.length=m/\b<=bulks ((elems.drop k).map (·.1))/\∀(i:Nat) (r:List D),rows[i]?=some r->∃cs,cs.length=P.cellsOf e/\CR ok w r cs/\∀j,j<P.cellsOf e->w.cell? ⟨blk,off+(k+i) * P.cellsOf e+j,none⟩=cs[j]?:=by
    intro m
    induction m with
    | zero=>intro k hk;exact ⟨[],0,.nil,rfl,Sa _,fun i r h=>by simp at h⟩
    | succ m ih =>
    intro k hk
    obtain ⟨rows,b,g1,g2,g3,g4⟩:=ih (k+1) oM;have hx:=hel k oM;rw [Ta oM] at hx;obtain ⟨cs',h1,h2⟩:=Option.bind_eq_some_iff.1 hx;obtain ⟨_,h3,h4⟩:=World.cells?_some h1;obtain ⟨dr,br,q1,q2,q3⟩:=Zbv hS ao bulk bulks k1 k2 k3 k4 k5 k6 k7 fuel _ _ _ heS h2;refine ⟨dr::rows,br+b,.cons q1 g1,by rw [Te,g2],?_,fun i r hr=>?_⟩
    ·rw [Tm (show k<elems.length by omega),TF];exact TT (Nat.add_le_add q3 g3) (k7 _ _)
    cases i with
    | zero =>
     cases hr
     refine ⟨cs',h3,q2,fun j hj=>?_⟩;have:=h4 j hj;rw [ZZ,ZZ] at this;rw [SO];exact this
    | succ i =>
    rw [TN] at hr;obtain ⟨cs,e1,e2,e3⟩:=g4 i r hr;exact ⟨cs,e1,e2,fun j hj=>by rw [show k+(i+1)=k+1+i by omega];exact e3 j hj⟩
   obtain ⟨rows,b,g1,g2,g3,g4⟩:=key len 0 oM;rw [Sn] at g3;refine ⟨[.sl rows],b+1,.sl hu g1,.one1 ?_ rfl,TT (Nat.add_le_add_right g3 1) (k5 _ _)⟩;subst g2;refine .sl rows blk off cap (P.cellsOf e) (fun i j=>(w.cell? ⟨blk,off+i * P.cellsOf e+j,none⟩).getD default) hl (fun r hr=>?_) (fun i j hi hj=>?_) (fun i j _ _=>ao _ _) (fun i j x hx=>?_)
   ·obtain ⟨i,hi,rfl⟩:=Sg hr;obtain ⟨cs,e1,e2,_⟩:=g4 i _ (Ta hi);rw [e2.len,e1]
   ·obtain ⟨cs,e1,e2,e3⟩:=g4 i _ (Ta hi);have:=e3 j hj;rw [T9,Ta oM] at this;simp only [this,Sp]
   obtain ⟨r,hr,hx⟩:=Option.bind_eq_some_iff.1 hx;obtain ⟨cs,e1,e2,e3⟩:=g4 i r hr;have hjr:=(Ti.1 hx).1;have hj:j<P.cellsOf e:=by rw [<- e1,<- e2.len];exact hjr
   have:=e3 j hj;rw [T9,Ta oM] at this;simp only [this,Sp];exact e2.rel j x _ hx (Ta oM)
  cases hp
end
end Go.PM
end

section
namespace Go.PM
def stB (P:Program) (t:TypeId) (tys:List TypeId):Bool:=match P.underlying t with | some (.struct fs)=>decide (fs.toList.map (·.type)=tys) | _=>false
def slB (P:Program) (t e:TypeId):Bool:=match P.underlying t with | some (.slice u)=>decide (u=e) | _=>false
def ZCJ (P:Program) (t:TypeId) (k:IntKind):Bool:=match P.underlying t with | some (.int u)=>decide (u=k) | _=>false
def ZDa (P:Program) (t:TypeId):Bool:=match P.underlying t with | some .string=>true | _=>false
section
variable {P:Program} {t e:TypeId} {ds:List D} {b:Nat}
def PlainD.inv_st {tys:List TypeId} (h:PlainD P t ds b) (hu:stB P t tys=true):∃c,b=c+1/\PlainFs P tys ds c:=by
 unfold stB at hu
 cases h with
 | st h hf=>rw [h] at hu;simp only [TP] at hu;exact ⟨_,rfl,hu ▸ hf⟩
 | int h _=>rw [h] at hu;cases hu
 | str h=>rw [h] at hu;cases hu
 | bool h=>rw [h] at hu;cases hu
 | sl h _=>rw [h] at hu;cases hu
def PlainD.inv_sl (h:PlainD P t ds b) (hu:slB P t e=true):∃rows c,ds=[.sl rows]/\b=c+1/\PlainRs P e rows c:=by
 unfold slB at hu
 cases h with
 | sl h hr=>rw [h] at hu;simp only [TP] at hu;exact ⟨_,_,rfl,rfl,hu ▸ hr⟩
 | int h _=>rw [h] at hu;cases hu
 | str h=>rw [h] at hu;cases hu
 | bool h=>rw [h] at hu;cases hu
 | st h _=>rw [h] at hu;cases hu
def PlainD.inv_int {k:IntKind} (h:PlainD P t ds b) (hu:ZCJ P t k=true):∃n,ds=[.int k n]/\b=1/\(Lit.int k n).wf=true:=by
 unfold ZCJ at hu
 cases h with
 | int h hw=>rw [h] at hu;simp only [TP] at hu;subst hu;exact ⟨_,rfl,rfl,hw⟩
 | sl h _=>rw [h] at hu;cases hu
 | str h=>rw [h] at hu;cases hu
 | bool h=>rw [h] at hu;cases hu
 | st h _=>rw [h] at hu;cases hu
def PlainD.inv_str (h:PlainD P t ds b) (hu:ZDa P t=true):∃s,ds=[.str s]/\b=s.length+1:=by
 unfold ZDa at hu
 cases h with
 | str h=>exact ⟨_,rfl,rfl⟩
 | sl h _=>rw [h] at hu;cases hu
 | int h _=>rw [h] at hu;cases hu
 | bool h=>rw [h] at hu;cases hu
 | st h _=>rw [h] at hu;cases hu
def PlainFs.inv {f:TypeId} {l:List TypeId} (h:PlainFs P (f::l) ds b):∃r ds' b1 c,ds=r++ds'/\b=b1+c/\PlainD P f r b1/\PlainFs P l ds' c:=by
 cases h with
 | cons h1 h2=>exact ⟨_,_,_,_,rfl,rfl,h1,h2⟩
def PlainFs.inv0 (h:PlainFs P [] ds b):ds=[]/\b=0:=by cases h;exact ⟨rfl,rfl⟩
end
end Go.PM
namespace Go.PM.Lex
open Go.Proofs
def plZ:Pl:=fun n=>if n % 2=0 then (n / 2:Nat) else -((n / 2:Nat):Int) - 1
def zc (z:Int):Nat:=if 0<=z then 2 * z.toNat else 2 * (-z - 1).toNat+1
def ZvF (z:Int):plZ (zc z)=z:=by
 unfold plZ zc
 by_cases h:0<=z
 ·rw [Tk h,Tk oM];omega
 rw [Tf h,Tf oM];omega
def Zow {α:Type} {P:Program} {e:TypeId} {enc:α->List D} {sz w:α->Nat} {p:α->Bool}:∀{rows:List (List D)} {b:Nat},PlainRs P e rows b->(∀r c,c<=b->PlainD P e r c->∃x,r=enc x/\sz x+1<=2 * c/\w x+1<=2 * c/\p x=true)->∃xs,rows=xs.map enc/\szS sz xs<=2 * b/\szS w xs<=2 * b/\xs.all p=true
 | [],b,h,hd=>⟨[],rfl,by simp [szS],by simp [szS],rfl⟩
 | r::rows,b,h,hd=>by
  cases h with
  | cons h1 h2 =>
  rename_i b1 c
  obtain ⟨x,rfl,g1,g2,g5⟩:=hd r b1 oM h1;obtain ⟨xs,rfl,g3,g4,g6⟩:=Zow h2 fun r c' hc=>hd r c' oM
  exact ⟨x::xs,rfl,by simp only [szS];omega,by simp only [szS];omega,by rw [List.all_cons,g5,g6];rfl⟩
def ZCK {n:Int} (h:(Lit.int .u8 n).wf=true):∃k:Nat,n=k:=by
 have:0<=n/\n<=255:=by simpa [Lit.wf,IntKind.min,IntKind.max,IntKind.signed,IntKind.bits] using h
 exact ⟨n.toNat,oM⟩
def ZCL {n:Int} (h:(Lit.int .i64 n).wf=true):ZCS n=true:=by
 have:-9223372036854775808<=n/\n<=9223372036854775807:=by simpa [Lit.wf,IntKind.min,IntKind.max,IntKind.signed,IntKind.bits] using h
 simp only [ZCS,Tn,TP];omega
def ZzF {P:Program} {t:TypeId} (hu:ZDa P t=true) (b:Nat):∀r c,c<=b->PlainD P t r c->∃x,r=Ye x/\sz0 x+1<=2 * c/\wBs x+1<=2 * c/\(fun _=>true) x=true:=fun r c _ h=>by
 obtain ⟨s,rfl,rfl⟩:=h.inv_str hu;exact ⟨s,rfl,by simp only [sz0];omega,by simp only [wBs];omega,rfl⟩
def stE:stB Tryz.prog 36 [5,9,2,31,3]=true:=kR
def stL:stB Tryz.prog 33 [5,9,31,22,3]=true:=kR
def slE:slB Tryz.prog 31 36=true:=kR
def slL:slB Tryz.prog 22 33=true:=kR
def ZEA:slB Tryz.prog 23 9=true:=kR
def ZFr:ZDa Tryz.prog 9=true:=kR
def ZFs:ZCJ Tryz.prog 3 .i64=true:=kR
def ZFT:ZCJ Tryz.prog 2 .i64=true:=kR
def bU8:ZCJ Tryz.prog 5 .u8=true:=kR
def ZFt:∀(n:Nat) (ds:List D) (b:Nat),b<=n->PlainD Tryz.prog 36 ds b->∃x,ds=ZF plZ x/\szE x+1<=2 * b/\wE x+1<=2 * b/\Zjv x=true
 | n,ds,b,hb,h=>by
  obtain ⟨c,rfl,hf⟩:=h.inv_st stE
  cases n with
  | zero=>omega
  | succ n =>
  obtain ⟨_,_,b1,c1,rfl,rfl,h1,hf⟩:=hf.inv;obtain ⟨_,_,b2,c2,rfl,rfl,h2,hf⟩:=hf.inv;obtain ⟨_,_,b3,c3,rfl,rfl,h3,hf⟩:=hf.inv;obtain ⟨_,_,b4,c4,rfl,rfl,h4,hf⟩:=hf.inv;obtain ⟨_,_,b5,c5,rfl,rfl,h5,hf⟩:=hf.inv;obtain ⟨rfl,rfl⟩:=hf.inv0;obtain ⟨q1,rfl,rfl,w1⟩:=h1.inv_int bU8;obtain ⟨q1,rfl⟩:=ZCK w1;obtain ⟨q2,rfl,rfl⟩:=h2.inv_str ZFr;obtain ⟨q3,rfl,rfl,w3⟩:=h3.inv_int ZFT;have p3:=ZCL w3;obtain ⟨rows4,d4,rfl,rfl,hr4⟩:=h4.inv_sl slE;obtain ⟨q4,rfl,g4,e4,p4⟩:=Zow (enc:=ZF plZ) (sz:=szE) (w:=wE) (p:=Zjv) hr4 fun r c hc hd=>ZFt n r c oM hd
  obtain ⟨q5,rfl,rfl,-⟩:=h5.inv_int ZFs;refine ⟨.mk q1 q2 q3 q4 (zc q5),?_,?_,?_,?_⟩
  ·simp only [ZF,Zb,Zi,Us,ZvF];rfl
  ·simp only [szE,Xu,Wu,ZgN];omega
  ·simp only [wE,Zft,ZdE,ZgP];omega
  simp only [Zjv,UR,Zan,ZdH,p3,p4];rfl
def ZEB {b:Nat} {ds:List D} (h:PlainD Tryz.prog 36 ds b):∃x,ds=ZF plZ x/\szE x+1<=2 * b/\wE x+1<=2 * b/\Zjv x=true:=ZFt b ds b (Tu _) h
def ZFu:∀(n:Nat) (ds:List D) (b:Nat),b<=n->PlainD Tryz.prog 33 ds b->∃x,ds=YN plZ x/\szL x+1<=2 * b/\wL x+1<=2 * b/\ZnX x=true
 | n,ds,b,hb,h=>by
  obtain ⟨c,rfl,hf⟩:=h.inv_st stL
  cases n with
  | zero=>omega
  | succ n =>
  obtain ⟨_,_,b1,c1,rfl,rfl,h1,hf⟩:=hf.inv;obtain ⟨_,_,b2,c2,rfl,rfl,h2,hf⟩:=hf.inv;obtain ⟨_,_,b3,c3,rfl,rfl,h3,hf⟩:=hf.inv;obtain ⟨_,_,b4,c4,rfl,rfl,h4,hf⟩:=hf.inv;obtain ⟨_,_,b5,c5,rfl,rfl,h5,hf⟩:=hf.inv;obtain ⟨rfl,rfl⟩:=hf.inv0;obtain ⟨q1,rfl,rfl,w1⟩:=h1.inv_int bU8;obtain ⟨q1,rfl⟩:=ZCK w1;obtain ⟨q2,rfl,rfl⟩:=h2.inv_str ZFr;obtain ⟨rows3,d3,rfl,rfl,pj⟩:=h3.inv_sl slE;obtain ⟨q3,rfl,g3,e3,p3⟩:=Zow (enc:=ZF plZ) (sz:=szE) (w:=wE) (p:=Zjv) pj fun r c hc hd=>ZEB hd
  obtain ⟨rows4,d4,rfl,rfl,hr4⟩:=h4.inv_sl slL;obtain ⟨q4,rfl,g4,e4,p4⟩:=Zow (enc:=YN plZ) (sz:=szL) (w:=wL) (p:=ZnX) hr4 fun r c hc hd=>ZFu n r c oM hd
  obtain ⟨q5,rfl,rfl,-⟩:=h5.inv_int ZFs;refine ⟨.mk q1 q2 q3 q4 (zc q5),?_,?_,?_,?_⟩
  ·simp only [YN,Zb,Zi,Us,ZvF];rfl
  ·simp only [szL,Xu,Wu,ZgN];omega
  ·simp only [wL,Zft,ZdE,ZgP];omega
  simp only [ZnX,UR,Zan,ZdH,p3,p4];rfl
def ZEC {b:Nat} {ds:List D} (h:PlainD Tryz.prog 33 ds b):∃x,ds=YN plZ x/\szL x+1<=2 * b/\wL x+1<=2 * b/\ZnX x=true:=ZFu b ds b (Tu _) h
end Go.PM.Lex
end

section
namespace Go
variable {H:Type} {enc:TypeId×Value->H}
end Go
namespace Go.PM.Lex
open Go.Proofs Go.Proofs.YtbdleclcgopcdaaGreatDoor Go.ChangeShapes Go.WideShapes Go.ChangeAt Go.RowKit
def ZED:ownKnob Tryz.prog.godebug=none:=kR
def ZvG : "*" ++ "errors.errorString" = "*errors.errorString" := by decide
def ZuO (u : TypeId) (h : Tryz.prog.typeName? 3 u = some "*errors.errorString") : u = 385 :=
 typeName_ptr_named (nm := "errors.errorString") (by rw [ZvG]; kernel_rfl) kR dM u (by rw [ZvG]; exact h)
def Zsd {W:World} {n:String} {text:List UInt8} {g:Nat} (hg:Tryz.prog.globalNamed n=some g) (ht:(Tryz.prog.globals[g]?).map (·.type)=some 244)
  (h : laidMet Tryz.prog [(n, .iface "*errors.errorString" (.ptr (.agg [.lit (.string text)])))] W) : ∃ ev, W.cell? ⟨g, 0, none⟩ = some ev /\ (ev = .nilIface \/ ∃ te pe, ev = .iface te pe) := by
 obtain ⟨a1,s1,mh,_⟩:=laid_sentinel h hg ht Tryz.underlying244 ZuO Tryz.underlying385 Tryz.underlying387 rfl rfl Tryz.underlying9 kR kR;refine ⟨.iface 385 (.pointer (some a1)),?_,.inr ⟨_,_,rfl⟩⟩;simpa using World.var?_cell hg mh 0
def ZCM {W:World} (h:laidMetH Tryz.prog Rows.groundMoreRow.laid W) (ka:W.ShapedOpen Tryz.prog):GlobOK W 8:=by
 rw [MakeChecks.laidMetH_plain _ _ _ kR] at h;have h1 := laidMet.filter (fun x => x.1 == "strconv.ErrSyntax") h;have h2 := laidMet.filter (fun x => x.1 == "strconv.ErrRange") h;exact ⟨oM,Tryz.laysM143.s1_3 W ka,Zsd kR kR h1,Zsd kR kR h2⟩
def ZeE:Env:=⟨fun _=>0,fun _=>none,fun _ _=>False,fun _=>none⟩
def ZCN {e':Env} {W W':World} {σ':St} {may:MemPlace->Prop} (h:Later ZeE ⟨[],[],0⟩ W e' σ' W'):W.keptBut W' may:=by
 refine ⟨h.os,h.output,fun i hi=>?_⟩;have:=h.blocks i hi (fun j hj=>by simp at hj) (fun t ht=>by cases ht) rfl;rw [this]
 cases hh:W.heap[i]? with
 | none=>rfl
 | some o=>cases o <;> simp
def ZzG {W:World} (h:8<=W.heap.size):SRel (GG W 8) ZeE ⟨[],[],0⟩ W where
 inj:=fun i j hi=>by simp at hi
 box:=fun i x hx=>by simp at hx
 low:=fun i hi=>by simp at hi
 tkn:=fun t ht=>by cases ht
 own:=fun t ht=>by cases ht
 dis:=fun t t' ht=>by cases ht
 xlt:=fun b off hx=>hx.elim
 xown:=fun t ht=>by cases ht
 hid:=fun b q hq=>by cases hq
 glob:=fun b hb=>rfl
 big:=h
end Go.PM.Lex
end

section
namespace Go.PM.Lex
open Go.Proofs Go.Proofs.YtbdleclcgopcdaaGreatDoor
def ZuP:∀b off,okc ZeE ⟨[],[],0⟩ b off:=fun b off=>⟨fun h=>h,fun i hi=>by simp at hi,(fun t ht=>by cases ht),fun q hq=>by cases hq⟩
section
variable {H:Type} {enc:TypeId×Value->H} {W:World} {nG:Nat}
end
end Go.PM.Lex
end

section
namespace Go.PM.Lex
open Go.Proofs Go.Proofs.YtbdleclcgopcdaaGreatDoor
def plainG:List TypeId:=[22,33,36,31,23,9,3,5,2]
def Zse:plainG.all (Zsc Tryz.prog plainG)=true:=kR
section
variable {H:Type} {enc:TypeId×Value->H} {W:World} {nG:Nat}
def Zjq {t e:TypeId} {v:Value} {d:DataW H} {ps:List MemPlace} (ht:t∈plainG) (hs:slB Tryz.prog t e=true) (hv:v.cells.toList=[v]) (h:DataW.Trod enc Tryz.prog W 0 (fun _=>true) true t v d ps) :
  ∃rows b,PlainRs Tryz.prog e rows b/\VRel (GG W nG) ZeE ⟨[],[],0⟩ W (.d (.sl rows)) v/\b+1<=Rows.uptoBulk d:=by
 obtain ⟨fuel,hf⟩:=h;obtain ⟨ds,b,h1,h2,h3⟩:=Zbv Zse ZuP Rows.uptoBulk Rows.uptoBulkAll (fun _ _=>Tu _) (fun _=>Tu _) (fun _=>Tu _) (fun _=>Tu _) (fun l m=>by simp only [Rows.uptoBulk];omega) (Tu _) (fun _ _=>Tu _) fuel t _ _ ht hf;rw [hv] at h2;obtain ⟨rows,c,rfl,rfl,hr⟩:=h1.inv_sl hs;exact ⟨rows,c,hr,.d _ _ (h2.rel 0 _ v rfl rfl),h3⟩
def ZmR {v:Value} {d:DataW H} {ps:List MemPlace} (hv:v.cells.toList=[v]) (h:DataW.Trod enc Tryz.prog W 0 (fun _=>true) true 22 v d ps) :
  ∃l,VRel (GG W nG) ZeE ⟨[],[],0⟩ W (.d (.sl (Zv plZ l))) v/\Zai l+1<=2 * Rows.uptoBulk d/\wLs l+1<=2 * Rows.uptoBulk d:=by
 obtain ⟨rows,b,h1,h2,h3⟩:=Zjq (nG:=nG) dM slL hv h;obtain ⟨l,rfl,g1,g2,g3⟩:=Zow (enc:=YN plZ) (sz:=szL) (w:=wL) (p:=ZnX) h1 fun r c hc hd=>ZEC hd
 exact ⟨l,by rw [Zi];exact h2,by rw [Wu];omega,by rw [ZdE];omega⟩
def Zsf {v:Value} {d:DataW H} {ps:List MemPlace} (hv:v.cells.toList=[v]) (h:DataW.Trod enc Tryz.prog W 0 (fun _=>true) true 23 v d ps) :
  ∃l:List Bs,VRel (GG W nG) ZeE ⟨[],[],0⟩ W (.d (.sl (l.map Ye))) v/\szS wBs l+1<=2 * Rows.uptoBulk d:=by
 obtain ⟨rows,b,h1,h2,h3⟩:=Zjq (nG:=nG) dM ZEA hv h;obtain ⟨l,rfl,g1,g2,g3⟩:=Zow (enc:=Ye) (sz:=sz0) (w:=wBs) (p:=fun _=>true) h1 (ZzF kR _);exact ⟨l,h2,oM⟩
end
end Go.PM.Lex
end

section
namespace Go.PM.Lex
open Go.Proofs
variable {w0:World} {nG:Nat}
end Go.PM.Lex
end

section
namespace Go.PM.Lex
open Go.Proofs Go.Proofs.YtbdleclcgopcdaaGreatDoor
def ZzH:Rows.laid_unicode_utf8_first=Lib.firstData:=kR
def ZuQ:(Rows.laid_unicode_utf8_acceptRanges:DataW Unit)=Lib.acceptData:=kR
def ZCO {W:World} (h:laidMetH Tryz.prog Rows.groundMoreRow.laid W):Lib.Utf8Tabs 0 1 W:=by
 rw [MakeChecks.laidMetH_plain _ _ _ kR] at h;have h1:=Lib.laidMet.reads (d:=Rows.laid_unicode_utf8_first) h (.tail _ (.tail _ (.tail _ (.tail _ (.tail _ (.tail _ (.head _)))))));have h2:=Lib.laidMet.reads (d:=Rows.laid_unicode_utf8_acceptRanges) h (.tail _ (.tail _ (.tail _ (.head _))));rw [ZzH] at h1;rw [ZuQ] at h2;exact utf8Tabs_of_readsT (U8Types.of196 Tryz.laysValid) ⟨kR,kR,kR,kR,kR,kR,kR⟩ h1 h2
variable {w0:World} {nG:Nat}
def ZEE (hb:1<nG) (hT:Lib.Utf8Tabs 0 1 w0):LexC w0 nG where
 name:=ZDH ⟨ZpM,J7,ZAk,trivial⟩
 quote:=Ztj ⟨Ztf hb hT,ZbL,Zfj,ZbM,Zie,trivial⟩
end Go.PM.Lex
end

section
namespace Go.PM.Lex
open Go.Proofs Go.Proofs.YtbdleclcgopcdaaGreatDoor
def ZuR:DataW Unit->List Int
 | .agg xs=>xs.map fun | .lit (.int _ z)=>z | _=>0
 | _=>[]
def ZzI:(Rows.laid_internal_strconv_uint64pow10:DataW Unit)=Lib.tabData .u64 Lib.pow10Tab:=kR
def ZEF:(Rows.laid_math_bits_deBruijn64tab:DataW Unit)=Lib.tabData .u8 (ZuR Rows.laid_math_bits_deBruijn64tab):=kR
def ZzJ:(ZuR Rows.laid_math_bits_deBruijn64tab).getD 15 0=4:=kR
def ZCP:(ZuR Rows.laid_math_bits_deBruijn64tab).length=64:=kR
def ZEG {W:World} (h:laidMetH Tryz.prog Rows.groundMoreRow.laid W):NumOK W 8:=by
 rw [MakeChecks.laidMetH_plain _ _ _ kR] at h;have h1 := laidMet.filter (fun x => x.1 == "internal/strconv.uint64pow10") h;have h2 := laidMet.filter (fun x => x.1 == "math/bits.deBruijn64tab") h;have k1 : laidMet Tryz.prog [("internal/strconv.uint64pow10", Lib.tabData .u64 Lib.pow10Tab)] W := by rw [<- ZzI]; exact h1
 have k2 : laidMet Tryz.prog [("math/bits.deBruijn64tab", Lib.tabData .u8 (ZuR Rows.laid_math_bits_deBruijn64tab))] W := by rw [<- ZEF]; exact h2
 refine ⟨dM,Lib.tabIs_of_head (g:=3) (t:=364) kR kR Tryz.underlying364 kR kR kR k1,?_⟩;have k3:=Lib.tabIs_of_head (g:=5) (t:=380) kR kR Tryz.underlying380 kR kR kR k2;have k4:=k3.cell (g:=5) kR 15 (by rw [ZCP];decide);rw [ZzJ] at k4;exact k4
end Go.PM.Lex
end

section
namespace Go.PM.Lex
open Go.Proofs Go.Proofs.YtbdleclcgopcdaaGreatDoor
def Z8 {a b:Bool} (h1:a=true) (h2:b=true):(a && b)=true:=by rw [h1,h2];rfl
def Zsg {P:Program} {f:FuncId} {fn:Func} {s:ChangeSpec} {c:OpenClaim}
  (p1:laidOutB P=true) (p2:mapsRowed P=true) (p3:(P.stops == [])=true) (p4:(P.stopKnobs == [])=true) (p5:(c.plainKeys == P.plainKeys)=true) (p6:P.stopsHeard=true) (p7:P.mayEnter=true) (p8:(c.lifted == P.liftsFinal)=true) (p9:(P.make == some c.make)=true)
  (k1:c.wf (OpenSpec.ofChange s)=true) (k2:fn.params.all (P.readableRec ·)=true) (k3:namedTie P c.named s.vars=true) (k4:(c.stops == [])=true) (k5:(c.knobs == [])=true)
  (k6:(c.inPlace == P.inPlace f)=true) (k7:(c.unfollowed == P.unfollowed f)=true) (k8:(c.recurses == P.recurses f)=true) (k9:(c.named == P.varsNamed f)=true)
  (k10:(c.maps == (fn.params.toList++s.plain.varTypes P).any (P.mapsRec ·))=true) (k11:(c.ifaces == (fn.params.toList++s.plain.varTypes P).any (P.ifacesRec ·))=true) (k12:(c.mapsOut == P.mapsAmong fn.resultTypes.toList)=true)
  (k13:(c.loops == (fn.params.toList++s.plain.varTypes P).any (P.loopsFrom ·))=true) (k14:(c.wideKeys == (fn.params.toList++s.plain.varTypes P++fn.resultTypes.toList).any (P.wideKeysFrom ·))=true)
  (k15:s.vars.all (P.varReadable ·)=true) (k16:fn.resultTypes.all (fun t=>P.readableRec t && decide (t<P.types.size))=true) (k17:(c.ifacesOut == fn.resultTypes.toList.any (P.ifacesRec ·))=true) (k18:(c.loopsOut == fn.resultTypes.toList.any (P.loopsFrom ·))=true)
  (k19:c.shortTexts.isNone=true) (k20:(c.kinds == (if c.domain.isEmpty then [] else fn.params.toList.map fun t=>match P.underlying t with | some (.int k)=>some k | _=>none))=true) (k21:(c.pinned == c.pinnedBy)=true)
  (k22:(c.veiled == (fn.params.toList++s.plain.varTypes P++fn.resultTypes.toList).any (P.veiledRec ·))=true) (k23:c.veiledFits P fn.params.toList (fn.params.toList++s.plain.varTypes P++fn.resultTypes.toList)=true):joinedFacts P f fn s c=true:=by
 unfold joinedFacts
 exact (Z8 (Z8 (Z8 (Z8 (Z8 (Z8 (Z8 (Z8 (Z8 (Z8 (Z8 (Z8 (Z8 (Z8 (Z8 (Z8 (Z8 (Z8 (Z8 (Z8 (Z8 (Z8 (Z8 (Z8 (Z8 (Z8 (Z8 (Z8 (Z8 (Z8 (Z8 k1 p1) p2) k2) k3) k4) p3) k5) p4) k6) k7) k8) k9) k10) k11) k12) k13) k14) k15) k16) k17) k18) p5) k19) p6) p7) p8) p9) k20) k21) k22) k23)
def jp1:laidOutB Tryz.checked.prog=true:=kR
def jp2:mapsRowed Tryz.checked.prog=true:=kR
def jp3:(Tryz.checked.prog.stops == [])=true:=kR
def jp4:(Tryz.checked.prog.stopKnobs == [])=true:=kR
def jp5:(Rows.groundMoreRow.plainKeys == Tryz.checked.prog.plainKeys)=true:=kR
def jp6:Tryz.checked.prog.stopsHeard=true:=kR
def jp7:Tryz.checked.prog.mayEnter=true:=kR
def jp8:(Rows.groundMoreRow.lifted == Tryz.checked.prog.liftsFinal)=true:=kR
def jp9:(Tryz.checked.prog.make == some Rows.groundMoreRow.make)=true:=kR
def jp10:Tryz.checked.prog.mainIs=some (Rows.groundMoreCard.stood.harness.1,Rows.groundMoreCard.stood.harness.2.toList):=kR
def jp11:Rows.groundMoreCard.stood.looks=Tryz.checked.prog.looks []:=kR
end Go.PM.Lex
end
