/- A part of the proof: plain logic, contracts and laws over the given program. -/
import Derived.Deep.Slices
import Derived.ChangeArms
import Derived.DataReads
import Derived.Test.YtafpcgfiedfldaaGreatDoorRows
import Derived.Test.YtafpcgfiedfldaaGreatDoorTie
import Derived.Test.YtafpcgfiedfldaaGreatDoorCards
import Derived.ProofKit
import Derived.OpenShut
import Derived.LaidMore
import Derived.Lay
import Derived.LaidSub
import Derived.SevenTiedAt
import Derived.Stop.Joined
import Derived.Stop.LaidErr
import Derived.Lib.LaidU8T
import Derived.Lib.LaidTab
import Derived.JoinedOf
import Derived.Test.YtafpcgfiedfldaaGreatDoorB12
set_option linter.unusedVariables false
set_option linter.unusedSimpArgs false
set_option linter.all false
set_option maxRecDepth 100000
set_option maxHeartbeats 16000000
noncomputable section
section
namespace Go.PM.Lex
open Go.Proofs
def ZDK (g:Nat):Bool:=ZeB g [66,258,294]
def ZyV (g:Nat) (a:List PV):Option (PEnd×St):=fnR Tryz.prog (Zcg Tryz.prog Vr ZDK 100000 200) Vr 100000 g a ⟨[],[],0⟩
def ZEN:List UInt8:=[112,40,120,41,32,58,45,32,113,40,120,44,32,95,41,46]
def ZEO:List UInt8:=[112,40,120,41,32,58,45,32,113,40,121,44,32,121,41,46]
def vK9 (b:UInt8) (a:Int):List D:=[.int .u8 1,.str [b],.int .i64 0,.sl [],.int .i64 a]
def ZBU (a:Int):List D:=[.int .u8 2,.str [],.int .i64 0,.sl [],.int .i64 a]
def ZBV:List (List D):=[[.str [112],.sl [[.str [120],.str [110,117,109,98,101,114]]],.bool false,.bool false,.bool false,.int .i64 5],[.str [113],.sl [[.str [120],.str [110,117,109,98,101,114]],[.str [121],.str [110,117,109,98,101,114]]],.bool false,.bool false,.bool false,.int .i64 23]]
def Zt6 (x y:List D):PV:=.agg [.d (.sl []),.d (.sl ZBV),.d (.sl [[.str [112],.sl [vK9 120 49],.sl [[.int .u8 1,.str [113],.sl [x,y],.sl [],.int .i64 55]],.int .i64 47]])]
def ZBW (r:PV):Option (PEnd×St)->Bool
 | some (.ret v,⟨[],[],0⟩)=>ZCu v r
 | _=>false
def Zmv {r:PV} {o:Option (PEnd×St)} (h:ZBW r o=true):o=some (.ret r,⟨[],[],0⟩):=by
 unfold ZBW at h
 split at h
 ·rw [ZkW h]
 cases h
def ZDL:ZyV 11 [.d (.str ZEN)]=some (.ret (Zt6 (vK9 120 57) (ZBU 60)),⟨[],[],0⟩):=Zmv kR
def ZDM:ZyV 11 [.d (.str ZEO)]=some (.ret (Zt6 (vK9 121 57) (vK9 121 60)),⟨[],[],0⟩):=Zmv kR
variable {w0:World} {nG:Nat}
def Zjf {s:Bs} {r:PV} (h:ZyV 11 [.d (.str s)]=some (.ret r,⟨[],[],0⟩)):PC w0 nG 11 fun a σ K=>a=[.d (.str s)]/\σ=⟨[],[],0⟩/\K (.ret r) ⟨[],[],0⟩ :=
 Zn2 Zy mixed h
def Zzi:Pl:=fun n=>(n:Int)
def vX9 (b:UInt8) (a:Nat):Ex:=.mk 1 [b] 0 [] a
def pK9 (x y:Ex):Pr:=⟨[],[⟨[112],[⟨[120],Zs8⟩],false,false,false,5⟩,⟨[113],[⟨[120],Zs8⟩,⟨[121],Zs8⟩],false,false,false,23⟩],[⟨[112],[vX9 120 49],[.mk 1 [113] [x,y] [] 55],47⟩]⟩
abbrev pA9:Pr:=pK9 (vX9 120 57) (.mk 2 [] 0 [] 60)
abbrev pB9:Pr:=pK9 (vX9 121 57) (vX9 121 60)
def ZDN:(ZfG (prU pA9)).2=0:=kR
def ZDO:(ZfG (prU pB9)).2=0:=kR
def ZBX:Zaq 1000 (prU pA9):=⟨kR,Tc kR,Tc kR,rfl,rfl,rfl⟩
def ZBY:Zaq 1000 (prU pB9):=⟨kR,Tc kR,Tc kR,rfl,rfl,rfl⟩
def ZDP:ZrL Zzi pA9=(0,0):=by rw [ZkG,Tf (fun g=>g ZDN)];kernel_rfl
def ZDQ:ZrL Zzi pB9=(0,0):=by rw [ZkG,Tf (fun g=>g ZDO)];kernel_rfl
def ZDR:ZkJ Zzi pA9=(0,0):=by unfold ZkJ;rw [Tf (by rw [ZDP];exact fun g=>g rfl)];kernel_rfl
def ZDS:ZkJ Zzi pB9=(49,190):=by unfold ZkJ;rw [Tf (by rw [ZDQ];exact fun g=>g rfl)];kernel_rfl
def szK9:ZaE pA9<=2097152/\ZaE pB9<=2097152:=⟨Tc kR,Tc kR⟩
def ZEP (x y:Ex):∀r∈(pK9 x y).rules,JQ r.body:=fun r hr=>by
 simp [pK9] at hr;subst hr;intro z hz
 simp at hz;subst hz;exact (by decide:1<=8)
def ZFO {G:GE} {g:FuncId} {a b:Zo} (ha:PCalls G g a) (hb:PCalls G g b):PCalls G g fun args σ K=>a args σ K\/b args σ K:=⟨ha.enters,fun args σ K hs n e w vs hS hA=>hs.elim (fun h=>ha.calls args σ K h n e w vs hS hA) (fun h=>hb.calls args σ K h n e w vs hS hA)⟩
def ZBZ (x y:List PV) (r s:PV):Zo:=fun a σ K=>(a=x/\σ=⟨[],[],0⟩/\K (.ret r) ⟨[],[],0⟩)\/(a=y/\σ=⟨[],[],0⟩/\K (.ret s) ⟨[],[],0⟩)
def Zn3:OKw w0 nG [(11,ZBZ [.d (.str ZEN)] [.d (.str ZEO)] (Zt6 (vK9 120 57) (ZBU 60)) (Zt6 (vK9 121 57) (vK9 121 60))),(8,ZaB 1000)] 5 ZcD:=by
 refine pwo Tryz.func5 fun args σ K h=>?_
 unfold ZcD at h
 split at h
 ·refine pwv [] 0 false ?_;refine Or.inl ⟨rfl,rfl,wN ?_⟩;refine ⟨Zzi,pA9,rfl,⟨ZBX,dM,szK9.1⟩,ZEP _ _,fun a e hx=>?_⟩;rw [ZDR] at hx
  cases hx
  conv=>whnf
  refine Or.inr ⟨rfl,rfl,wN ?_⟩;refine ⟨Zzi,pB9,rfl,⟨ZBY,dM,szK9.2⟩,ZEP _ _,fun a e hx=>?_⟩;rw [ZDS] at hx
  cases hx
  exact mq51
 exact h.elim
def Zt7 (hP:PC w0 nG 17 (ZnI XT Zaq ZfG 1000)):PC w0 nG 5 ZcD :=
 Zn3 ⟨ZFO (Zjf ZDL) (Zjf ZDM),Zrh hP,trivial⟩
end Go.PM.Lex
end

section
namespace Go.PM
mutual
inductive PlainD (P:Program):TypeId->List D->Nat->Prop
 | int {t:TypeId} {k:IntKind} {n:Int} (h:P.underlying t=some (.int k)) (hw:(Lit.int k n).wf=true):PlainD P t [.int k n] 1
 | str {t:TypeId} {s:List UInt8} (h:P.underlying t=some .string):PlainD P t [.str s] (s.length+1)
 | bool {t:TypeId} {b:Bool} (h:P.underlying t=some .bool):PlainD P t [.bool b] 1
 | st {t:TypeId} {fs:Array Field} {ds:List D} {b:Nat} (h:P.underlying t=some (.struct fs)) (hf:PlainFs P (fs.toList.map (·.type)) ds b):PlainD P t ds (b+1)
 | sl {t e:TypeId} {rows:List (List D)} {b:Nat} (h:P.underlying t=some (.slice e)) (hr:PlainRs P e rows b):PlainD P t [.sl rows] (b+1)
inductive PlainFs (P:Program):List TypeId->List D->Nat->Prop
 | nil:PlainFs P [] [] 0
 | cons {f:TypeId} {l:List TypeId} {r ds:List D} {b c:Nat} (h1:PlainD P f r b) (h2:PlainFs P l ds c):PlainFs P (f::l) (r++ds) (b+c)
inductive PlainRs (P:Program):TypeId->List (List D)->Nat->Prop
 | nil {e:TypeId}:PlainRs P e [] 0
 | cons {e:TypeId} {r:List D} {rows:List (List D)} {b c:Nat} (h1:PlainD P e r b) (h2:PlainRs P e rows c):PlainRs P e (r::rows) (b+c)
end
structure CR (ok:Nat->Nat->Prop) (w:World) (ds:List D) (cs:List Value):Prop where
 len:ds.length=cs.length
 rel:∀(i:Nat) (x:D) (u:Value),ds[i]?=some x->cs[i]?=some u->DRel ok w x u
 one:∀u∈cs,u.oneCell'=true
def CR.nil {ok:Nat->Nat->Prop} {w:World}:CR ok w [] []:=⟨rfl,fun i x u h=>by simp at h,fun u h=>by cases h⟩
def CR.one1 {ok:Nat->Nat->Prop} {w:World} {x:D} {u:Value} (h:DRel ok w x u) (h1:u.oneCell'=true):CR ok w [x] [u]:=⟨rfl,fun i y v hy hv=>by
 match i,hy,hv with
 | 0,hy,hv=>cases hy;cases hv;exact h
 | i+1,hy,hv=>simp at hy,fun v hv=>by rw [List.mem_singleton.1 hv];exact h1⟩
def CR.app {ok:Nat->Nat->Prop} {w:World} {d1 d2:List D} {c1 c2:List Value} (h1:CR ok w d1 c1) (h2:CR ok w d2 c2):CR ok w (d1++d2) (c1++c2):=by
 refine ⟨by rw [Tb,Tb,h1.len,h2.len],fun i x u hx hu=>?_,fun u hu=>?_⟩
 ·by_cases hi:i<d1.length
  ·rw [TH hi] at hx;rw [TH (by rw [<- h1.len];exact hi)] at hu;exact h1.rel i x u hx hu
  rw [TT oM] at hx;rw [TT (by rw [<- h1.len];omega),<- h1.len] at hu;exact h2.rel _ x u hx hu
 rcases TM.1 hu with h | h
 ·exact h1.one u h
 exact h2.one u h
def Zt8 (P:Program):List Field->Nat->Option Nat
 | [],a=>some a
 | f::l,a=>if f.offset=a then Zt8 P l (a+P.cellsOf f.type) else none
def Zmw (P:Program) (S:List TypeId) (t:TypeId):Bool:=match P.underlying t with
 | some (.int _) | some .string | some .bool=>true
 | some (.struct fs)=>fs.toList.all (fun f=>S.contains f.type) && decide (Zt8 P fs.toList 0=some (P.cellsOf t))
 | some (.slice e)=>S.contains e && decide (0<P.cellsOf e)
 | _=>false
section
variable {H:Type} {enc:TypeId×Value->H} {P:Program} {w:World} {ok:Nat->Nat->Prop}
def Zbx {S:List TypeId} (hS:S.all (Zmw P S)=true) (av:∀b off,ok b off) (bulk:DataW H->Nat) (bulks:List (DataW H)->Nat)
  (k1:∀k n,1<=bulk (.lit (.int k n))) (k2:∀s,s.length+1<=bulk (.lit (.string s))) (k3:∀b,1<=bulk (.lit (.bool b))) (k4:∀l,bulks l+1<=bulk (.agg l)) (k5:∀l m,bulks l+1<=bulk (.slice l m)) (k6:1<=bulk .nil) (k7:∀d l,bulk d+bulks l<=bulks (d::l)) :
  ∀(fuel:Nat) (t:TypeId) (cs:List Value) (x:DataW H×List MemPlace),t∈S->DataW.trod enc P w 0 (fun _=>true) true fuel t cs=some x->∃ds b,PlainD P t ds b/\CR ok w ds cs/\b<=bulk x.1
 | 0,t,cs,x,ht,h=>by simp [DataW.trod] at h
 | fuel+1,t,cs,x,ht,h=>by
  have hp:=Tq.1 hS t ht;unfold Zmw at hp
  split at hp
  ·rename_i k hu
   obtain ⟨n,rfl,rfl,hw⟩:=DataW.trod_int hu h;exact ⟨_,1,.int hu hw,.one1 (.int _ _) rfl,k1 _ _⟩
  ·rename_i hu
   obtain ⟨s,rfl,rfl,hw⟩:=DataW.trod_string hu h;exact ⟨[.str s.data.toList],_,.str hu,.one1 (.str _) rfl,k2 _⟩
  ·rename_i hu
   obtain ⟨b,rfl,rfl⟩:=DataW.trod_bool hu h;exact ⟨_,1,.bool hu,.one1 (.bool _) rfl,k3 _⟩
  ·rename_i fs hu
   rw [Tn,TQ,Tq] at hp;obtain ⟨o9,lm⟩:=hp;obtain ⟨xs,n,hn,rfl,hlen,hxl,hf⟩:=DataW.trod_struct hu h;obtain rfl:fuel=n:=oM;have key:∀(l:List Field) (k a:Nat),fs.toList.drop k=l->Zt8 P l a=some (P.cellsOf t)->∃ds b,PlainFs P (l.map (·.type)) ds b/\CR ok w ds (cs.drop a)/\b<=bulks ((xs.drop k).map (·.1)):=by
    intro l
    induction l with
    | nil =>
     intro k a hk ha
     cases ha
     exact ⟨[],0,.nil,by rw [Tr oM];exact .nil,T6 _⟩
    | cons f l ih =>
    intro k a hk ha
    rw [Zt8] at ha;split at ha
    ·rename_i ic
     have hkl:k<fs.size:=by
      have:=congrArg List.length hk;simp at this;omega
     have hfk:fs[k]?=some f:=by
      have:(fs.toList.drop k)[0]?=some f:=by rw [hk];rfl
      simpa using this
     have hd:fs.toList.drop (k+1)=l:=by rw [<- TL,hk];rfl
     obtain ⟨ds,b,g1,g2,g3⟩:=ih (k+1) _ hd ha;have hx:=hf k f hfk;rw [Ta oM] at hx;have hfS:f.type∈S:=by
      have:=o9 f (by have:=TW (l:=fs.toList) (i:=k) (a:=f) (by simpa using hfk);exact this);simpa using this
     obtain ⟨dr,br,q1,q2,q3⟩:=Zbx hS av bulk bulks k1 k2 k3 k4 k5 k6 k7 fuel _ _ _ hfS hx;rw [ic] at q2;refine ⟨dr++ds,br+b,.cons q1 g1,?_,?_⟩
     ·have e:cs.drop a=(cs.drop a).take (P.cellsOf f.type)++cs.drop (a+P.cellsOf f.type):=by rw [<- TL,List.take_append_drop]
      rw [e];exact q2.app g2
     have e:xs.drop k=xs[k]::xs.drop (k+1):=Tm oM;rw [e,TE];exact TZ (Nat.add_le_add q3 g3) (k7 _ _)
    cases ha
   obtain ⟨ds,b,g1,g2,g3⟩:=key fs.toList 0 0 rfl lm;rw [Sj] at g2 g3;exact ⟨ds,b+1,.st hu g1,g2,TZ (Nat.add_le_add_right g3 1) (k4 _)⟩
  ·rename_i e hu
   rw [Tn,TQ] at hp;obtain ⟨hp,ba⟩:=hp;have heS:e∈S:=by simpa using hp
   rcases DataW.trod_slice hu h with ⟨rfl,rfl⟩ | ⟨a,len,cap,elems,rest,n,hn,rfl,rfl,hb,hl,hm,hlen,hel,xj,hns⟩
   ·exact ⟨[.sl []],1,.sl hu .nil,.one1 .slnil rfl,k6⟩
   obtain rfl:fuel=n:=oM;obtain ⟨pa,fj⟩:=xj rfl
   by_cases je:cap=0
   ·subst je;obtain rfl:len=0:=oM;exact ⟨[.sl []],1,.sl hu .nil,.one1 (.slz a) rfl,TZ oM (k5 _ _)⟩
   have y3:a.spot=none:=by
    have h0:∃cs',w.cells? 0 (a.add (0 * P.cellsOf e)) (P.cellsOf e)=some cs':=by
     by_cases nz:0<len
     ·have:=hel 0 nz;rw [Ta oM] at this;obtain ⟨cs',h1,_⟩:=Option.bind_eq_some_iff.1 this;exact ⟨cs',h1⟩
     have:=fj 0 oM;rw [Ta oM] at this;obtain ⟨cs',h1,_⟩:=Option.bind_eq_some_iff.1 this;exact ⟨cs',by rw [show len+0=0 by omega] at h1;exact h1⟩
    obtain ⟨cs',h1⟩:=h0;obtain ⟨_,h2,h3⟩:=World.cells?_some h1;have h4:=h3 0 ba;rw [Ta oM] at h4;have ea:(a.add (0 * P.cellsOf e)).add 0=a:=by simp [Addr.add]
    rw [ea] at h4
    cases xj:a.spot with
    | none=>rfl
    | some q =>
    unfold World.cell? at h4
    split at h4
    ·rw [xj] at h4;simp at h4
    cases h4
   obtain ⟨blk,off,sp⟩:=a;obtain rfl:sp=none:=y3;have key:∀(m k:Nat),k+m=len->∃rows b,PlainRs P e rows b/\rows.length=m/\b<=bulks ((elems.drop k).map (·.1))/\∀(i:Nat) (r:List D),rows[i]?=some r->∃cs,cs.length=P.cellsOf e/\CR ok w r cs/\∀j,j<P.cellsOf e->w.cell? ⟨blk,off+(k+i) * P.cellsOf e+j,none⟩=cs[j]?:=by
    intro m
    induction m with
    | zero=>intro k hk;exact ⟨[],0,.nil,rfl,T6 _,fun i r h=>by simp at h⟩
    | succ m ih =>
    intro k hk
    obtain ⟨rows,b,g1,g2,g3,g4⟩:=ih (k+1) oM;have hx:=hel k oM;rw [Ta oM] at hx;obtain ⟨cs',h1,h2⟩:=Option.bind_eq_some_iff.1 hx;obtain ⟨_,h3,h4⟩:=World.cells?_some h1;obtain ⟨dr,br,q1,q2,q3⟩:=Zbx hS av bulk bulks k1 k2 k3 k4 k5 k6 k7 fuel _ _ _ heS h2;refine ⟨dr::rows,br+b,.cons q1 g1,by rw [Te,g2],?_,fun i r hr=>?_⟩
    ·rw [Tm (show k<elems.length by omega),TE];exact TZ (Nat.add_le_add q3 g3) (k7 _ _)
    cases i with
    | zero =>
     cases hr
     refine ⟨cs',h3,q2,fun j hj=>?_⟩;have:=h4 j hj;rw [ZZ,ZZ] at this;rw [SL];exact this
    | succ i =>
    rw [TP] at hr;obtain ⟨cs,e1,e2,e3⟩:=g4 i r hr;exact ⟨cs,e1,e2,fun j hj=>by rw [show k+(i+1)=k+1+i by omega];exact e3 j hj⟩
   obtain ⟨rows,b,g1,g2,g3,g4⟩:=key len 0 oM;rw [Sj] at g3;refine ⟨[.sl rows],b+1,.sl hu g1,.one1 ?_ rfl,TZ (Nat.add_le_add_right g3 1) (k5 _ _)⟩;subst g2;refine .sl rows blk off cap (P.cellsOf e) (fun i j=>(w.cell? ⟨blk,off+i * P.cellsOf e+j,none⟩).getD default) hl (fun r hr=>?_) (fun i j hi hj=>?_) (fun i j _ _=>av _ _) (fun i j x hx=>?_)
   ·obtain ⟨i,hi,rfl⟩:=Sd hr;obtain ⟨cs,e1,e2,_⟩:=g4 i _ (Ta hi);rw [e2.len,e1]
   ·obtain ⟨cs,e1,e2,e3⟩:=g4 i _ (Ta hi);have:=e3 j hj;rw [T5,Ta oM] at this;simp only [this,Sp]
   obtain ⟨r,hr,hx⟩:=Option.bind_eq_some_iff.1 hx;obtain ⟨cs,e1,e2,e3⟩:=g4 i r hr;have hjr:=(Ti.1 hx).1;have hj:j<P.cellsOf e:=by rw [<- e1,<- e2.len];exact hjr
   have:=e3 j hj;rw [T5,Ta oM] at this;simp only [this,Sp];exact e2.rel j x _ hx (Ta oM)
  cases hp
end
end Go.PM
end

section
namespace Go.PM
def stB (P:Program) (t:TypeId) (tys:List TypeId):Bool:=match P.underlying t with | some (.struct fs)=>decide (fs.toList.map (·.type)=tys) | _=>false
def slB (P:Program) (t e:TypeId):Bool:=match P.underlying t with | some (.slice u)=>decide (u=e) | _=>false
def ZB0 (P:Program) (t:TypeId) (k:IntKind):Bool:=match P.underlying t with | some (.int u)=>decide (u=k) | _=>false
def ZDT (P:Program) (t:TypeId):Bool:=match P.underlying t with | some .string=>true | _=>false
def ZyW (P:Program) (t:TypeId):Bool:=match P.underlying t with | some .bool=>true | _=>false
section
variable {P:Program} {t e:TypeId} {ds:List D} {b:Nat}
def PlainD.inv_st {tys:List TypeId} (h:PlainD P t ds b) (hu:stB P t tys=true):∃c,b=c+1/\PlainFs P tys ds c:=by
 unfold stB at hu
 cases h with
 | st h hf=>rw [h] at hu;simp only [TQ] at hu;exact ⟨_,rfl,hu ▸ hf⟩
 | int h _=>rw [h] at hu;cases hu
 | str h=>rw [h] at hu;cases hu
 | bool h=>rw [h] at hu;cases hu
 | sl h _=>rw [h] at hu;cases hu
def PlainD.inv_sl (h:PlainD P t ds b) (hu:slB P t e=true):∃rows c,ds=[.sl rows]/\b=c+1/\PlainRs P e rows c:=by
 unfold slB at hu
 cases h with
 | sl h hr=>rw [h] at hu;simp only [TQ] at hu;exact ⟨_,_,rfl,rfl,hu ▸ hr⟩
 | int h _=>rw [h] at hu;cases hu
 | str h=>rw [h] at hu;cases hu
 | bool h=>rw [h] at hu;cases hu
 | st h _=>rw [h] at hu;cases hu
def PlainD.inv_int {k:IntKind} (h:PlainD P t ds b) (hu:ZB0 P t k=true):∃n,ds=[.int k n]/\b=1/\(Lit.int k n).wf=true:=by
 unfold ZB0 at hu
 cases h with
 | int h hw=>rw [h] at hu;simp only [TQ] at hu;subst hu;exact ⟨_,rfl,rfl,hw⟩
 | sl h _=>rw [h] at hu;cases hu
 | str h=>rw [h] at hu;cases hu
 | bool h=>rw [h] at hu;cases hu
 | st h _=>rw [h] at hu;cases hu
def PlainD.inv_str (h:PlainD P t ds b) (hu:ZDT P t=true):∃s,ds=[.str s]/\b=s.length+1:=by
 unfold ZDT at hu
 cases h with
 | str h=>exact ⟨_,rfl,rfl⟩
 | sl h _=>rw [h] at hu;cases hu
 | int h _=>rw [h] at hu;cases hu
 | bool h=>rw [h] at hu;cases hu
 | st h _=>rw [h] at hu;cases hu
def PlainD.inv_bool (h:PlainD P t ds b) (hu:ZyW P t=true):∃q,ds=[.bool q]/\b=1:=by
 unfold ZyW at hu
 cases h with
 | bool h=>exact ⟨_,rfl,rfl⟩
 | sl h _=>rw [h] at hu;cases hu
 | int h _=>rw [h] at hu;cases hu
 | str h=>rw [h] at hu;cases hu
 | st h _=>rw [h] at hu;cases hu
def PlainFs.inv {f:TypeId} {l:List TypeId} (h:PlainFs P (f::l) ds b):∃r ds' b1 c,ds=r++ds'/\b=b1+c/\PlainD P f r b1/\PlainFs P l ds' c:=by
 cases h with
 | cons h1 h2=>exact ⟨_,_,_,_,rfl,rfl,h1,h2⟩
def PlainFs.inv0 (h:PlainFs P [] ds b):ds=[]/\b=0:=by cases h;exact ⟨rfl,rfl⟩
end
end Go.PM
namespace Go.PM.Lex
open Go.Proofs
def plZ:Pl:=fun n=>if n % 2=0 then (n / 2:Nat) else -((n / 2:Nat):Int) - 1
def zc (z:Int):Nat:=if 0<=z then 2 * z.toNat else 2 * (-z - 1).toNat+1
def Zem (z:Int):plZ (zc z)=z:=by
 unfold plZ zc
 by_cases h:0<=z
 ·rw [Tk h,Tk oM];omega
 rw [Tf h,Tf oM];omega
def Zby {α:Type} {P:Program} {e:TypeId} {enc:α->List D} {sz w:α->Nat} {p:α->Bool}:∀{rows:List (List D)} {b:Nat},PlainRs P e rows b->(∀r c,c<=b->PlainD P e r c->∃x,r=enc x/\sz x+1<=2 * c/\w x+1<=2 * c/\p x=true)->∃xs,rows=xs.map enc/\szS sz xs<=2 * b/\szS w xs<=2 * b/\xs.all p=true
 | [],b,h,hd=>⟨[],rfl,by simp [szS],by simp [szS],rfl⟩
 | r::rows,b,h,hd=>by
  cases h with
  | cons h1 h2 =>
  rename_i b1 c
  obtain ⟨x,rfl,g1,g2,g5⟩:=hd r b1 oM h1;obtain ⟨xs,rfl,g3,g4,g6⟩:=Zby h2 fun r c' hc=>hd r c' oM
  exact ⟨x::xs,rfl,by simp only [szS];omega,by simp only [szS];omega,by rw [List.all_cons,g5,g6];rfl⟩
def ZyX {n:Int} (h:(Lit.int .u8 n).wf=true):∃k:Nat,n=k:=by
 have:0<=n/\n<=255:=by simpa [Lit.wf,IntKind.min,IntKind.max,IntKind.signed,IntKind.bits] using h
 exact ⟨n.toNat,oM⟩
def ZB1 {n:Int} (h:(Lit.int .i64 n).wf=true):ZCe n=true:=by
 have:-9223372036854775808<=n/\n<=9223372036854775807:=by simpa [Lit.wf,IntKind.min,IntKind.max,IntKind.signed,IntKind.bits] using h
 simp only [ZCe,Tn,TQ];omega
def stE:stB Tryz.prog 50 [5,9,2,29,3]=true:=kR
def stL:stB Tryz.prog 84 [5,9,29,30,3]=true:=kR
def ZFh:stB Tryz.prog 32 [9,29,30,3]=true:=kR
def ZFi:stB Tryz.prog 58 [9,9]=true:=kR
def ZFj:stB Tryz.prog 44 [9,38]=true:=kR
def ZFk:stB Tryz.prog 41 [5,9,9,38,39,3]=true:=kR
def ZFl:stB Tryz.prog 46 [9,38,4,4,4,3]=true:=kR
def slE:slB Tryz.prog 29 50=true:=kR
def slL:slB Tryz.prog 30 84=true:=kR
def ZDU:slB Tryz.prog 38 58=true:=kR
def ZFm:slB Tryz.prog 39 44=true:=kR
def ZFn:slB Tryz.prog 22 41=true:=kR
def ZFo:slB Tryz.prog 23 46=true:=kR
def ZFp:slB Tryz.prog 24 32=true:=kR
def Zt9:ZDT Tryz.prog 9=true:=kR
def ZB2:ZB0 Tryz.prog 3 .i64=true:=kR
def ZFq:ZB0 Tryz.prog 2 .i64=true:=kR
def bU8:ZB0 Tryz.prog 5 .u8=true:=kR
def ZyY:ZyW Tryz.prog 4=true:=kR
def ZEQ:∀(n:Nat) (ds:List D) (b:Nat),b<=n->PlainD Tryz.prog 50 ds b->∃x,ds=ZE plZ x/\szE x+1<=2 * b/\wE x+1<=2 * b/\ZiA x=true
 | n,ds,b,hb,h=>by
  obtain ⟨c,rfl,hf⟩:=h.inv_st stE
  cases n with
  | zero=>omega
  | succ n =>
  obtain ⟨_,_,b1,c1,rfl,rfl,h1,hf⟩:=hf.inv;obtain ⟨_,_,b2,c2,rfl,rfl,h2,hf⟩:=hf.inv;obtain ⟨_,_,b3,c3,rfl,rfl,h3,hf⟩:=hf.inv;obtain ⟨_,_,b4,c4,rfl,rfl,h4,hf⟩:=hf.inv;obtain ⟨_,_,b5,c5,rfl,rfl,h5,hf⟩:=hf.inv;obtain ⟨rfl,rfl⟩:=hf.inv0;obtain ⟨q1,rfl,rfl,w1⟩:=h1.inv_int bU8;obtain ⟨q1,rfl⟩:=ZyX w1;obtain ⟨q2,rfl,rfl⟩:=h2.inv_str Zt9;obtain ⟨q3,rfl,rfl,w3⟩:=h3.inv_int ZFq;have p3:=ZB1 w3;obtain ⟨rows4,d4,rfl,rfl,y4⟩:=h4.inv_sl slE;obtain ⟨q4,rfl,g4,e4,p4⟩:=Zby (enc:=ZE plZ) (sz:=szE) (w:=wE) (p:=ZiA) y4 fun r c hc hd=>ZEQ n r c oM hd
  obtain ⟨q5,rfl,rfl,-⟩:=h5.inv_int ZB2;refine ⟨.mk q1 q2 q3 q4 (zc q5),?_,?_,?_,?_⟩
  ·simp only [ZE,Zb,Zm,Y2,Zem];rfl
  ·simp only [szE,Yv,Xj,WN];omega
  ·simp only [wE,Jc,Ux,VL];omega
  simp only [ZiA,VN,UR,Zao,p3,p4];rfl
def ZB3 {b:Nat} {ds:List D} (h:PlainD Tryz.prog 50 ds b):∃x,ds=ZE plZ x/\szE x+1<=2 * b/\wE x+1<=2 * b/\ZiA x=true:=ZEQ b ds b (Tt _) h
def ZER:∀(n:Nat) (ds:List D) (b:Nat),b<=n->PlainD Tryz.prog 84 ds b->∃x,ds=YT plZ x/\szL x+1<=2 * b/\wL x+1<=2 * b/\ZnD x=true
 | n,ds,b,hb,h=>by
  obtain ⟨c,rfl,hf⟩:=h.inv_st stL
  cases n with
  | zero=>omega
  | succ n =>
  obtain ⟨_,_,b1,c1,rfl,rfl,h1,hf⟩:=hf.inv;obtain ⟨_,_,b2,c2,rfl,rfl,h2,hf⟩:=hf.inv;obtain ⟨_,_,b3,c3,rfl,rfl,h3,hf⟩:=hf.inv;obtain ⟨_,_,b4,c4,rfl,rfl,h4,hf⟩:=hf.inv;obtain ⟨_,_,b5,c5,rfl,rfl,h5,hf⟩:=hf.inv;obtain ⟨rfl,rfl⟩:=hf.inv0;obtain ⟨q1,rfl,rfl,w1⟩:=h1.inv_int bU8;obtain ⟨q1,rfl⟩:=ZyX w1;obtain ⟨q2,rfl,rfl⟩:=h2.inv_str Zt9;obtain ⟨rows3,d3,rfl,rfl,my⟩:=h3.inv_sl slE;obtain ⟨q3,rfl,g3,e3,p3⟩:=Zby (enc:=ZE plZ) (sz:=szE) (w:=wE) (p:=ZiA) my fun r c hc hd=>ZB3 hd
  obtain ⟨rows4,d4,rfl,rfl,y4⟩:=h4.inv_sl slL;obtain ⟨q4,rfl,g4,e4,p4⟩:=Zby (enc:=YT plZ) (sz:=szL) (w:=wL) (p:=ZnD) y4 fun r c hc hd=>ZER n r c oM hd
  obtain ⟨q5,rfl,rfl,-⟩:=h5.inv_int ZB2;refine ⟨.mk q1 q2 q3 q4 (zc q5),?_,?_,?_,?_⟩
  ·simp only [YT,Zb,Zm,Y2,Zem];rfl
  ·simp only [szL,Yv,Xj,WN];omega
  ·simp only [wL,Jc,Ux,VL];omega
  simp only [ZnD,VN,UR,Zao,p3,p4];rfl
def ZDV {b:Nat} {ds:List D} (h:PlainD Tryz.prog 84 ds b):∃x,ds=YT plZ x/\szL x+1<=2 * b/\wL x+1<=2 * b/\ZnD x=true:=ZER b ds b (Tt _) h
def ZDW:∀(n:Nat) (ds:List D) (b:Nat),b<=n->PlainD Tryz.prog 32 ds b->∃x,ds=ZC plZ x/\V8 x+1<=2 * b/\wRu x+1<=2 * b/\ZdL x=true
 | n,ds,b,hb,h=>by
  obtain ⟨c,rfl,hf⟩:=h.inv_st ZFh
  cases n with
  | zero=>omega
  | succ n =>
  obtain ⟨_,_,b1,c1,rfl,rfl,h1,hf⟩:=hf.inv;obtain ⟨_,_,b2,c2,rfl,rfl,h2,hf⟩:=hf.inv;obtain ⟨_,_,b3,c3,rfl,rfl,h3,hf⟩:=hf.inv;obtain ⟨_,_,b4,c4,rfl,rfl,h4,hf⟩:=hf.inv;obtain ⟨rfl,rfl⟩:=hf.inv0;obtain ⟨q1,rfl,rfl⟩:=h1.inv_str Zt9;obtain ⟨rows2,d2,rfl,rfl,dc⟩:=h2.inv_sl slE;obtain ⟨q2,rfl,g2,e2,p2⟩:=Zby (enc:=ZE plZ) (sz:=szE) (w:=wE) (p:=ZiA) dc fun r c hc hd=>ZB3 hd
  obtain ⟨rows3,d3,rfl,rfl,my⟩:=h3.inv_sl slL;obtain ⟨q3,rfl,g3,e3,p3⟩:=Zby (enc:=YT plZ) (sz:=szL) (w:=wL) (p:=ZnD) my fun r c hc hd=>ZDV hd
  obtain ⟨q4,rfl,rfl,-⟩:=h4.inv_int ZB2;refine ⟨.mk q1 q2 q3 (zc q4),?_,?_,?_,?_⟩
  ·simp only [ZC,Zb,Zm,Y2,Zem];rfl
  ·simp only [V8,Yv,Xj,WN];omega
  ·simp only [wRu,Jc,Ux,VL];omega
  simp only [ZdL,VN,UR,Zao,p2,p3];rfl
def ZB4 {b:Nat} {ds:List D} (h:PlainD Tryz.prog 32 ds b):∃x,ds=ZC plZ x/\V8 x+1<=2 * b/\wRu x+1<=2 * b/\ZdL x=true:=ZDW b ds b (Tt _) h
def ZDX:∀(n:Nat) (ds:List D) (b:Nat),b<=n->PlainD Tryz.prog 58 ds b->∃x,ds=Zn x/\sz0 x+1<=2 * b/\wFi x+1<=2 * b/\(fun _=>true) x=true
 | n,ds,b,hb,h=>by
  obtain ⟨c,rfl,hf⟩:=h.inv_st ZFi
  cases n with
  | zero=>omega
  | succ n =>
  obtain ⟨_,_,b1,c1,rfl,rfl,h1,hf⟩:=hf.inv;obtain ⟨_,_,b2,c2,rfl,rfl,h2,hf⟩:=hf.inv;obtain ⟨rfl,rfl⟩:=hf.inv0;obtain ⟨q1,rfl,rfl⟩:=h1.inv_str Zt9;obtain ⟨q2,rfl,rfl⟩:=h2.inv_str Zt9;refine ⟨.mk q1 q2,?_,?_,?_,?_⟩
  ·simp only [Zn,Zb,Zm,Y2,Zem];rfl
  ·simp only [sz0,Yv,Xj,WN];omega
  ·simp only [wFi,Jc,Ux,VL];omega
  rfl
def ZrC {b:Nat} {ds:List D} (h:PlainD Tryz.prog 58 ds b):∃x,ds=Zn x/\sz0 x+1<=2 * b/\wFi x+1<=2 * b/\(fun _=>true) x=true:=ZDX b ds b (Tt _) h
def ZDY:∀(n:Nat) (ds:List D) (b:Nat),b<=n->PlainD Tryz.prog 44 ds b->∃x,ds=Zt x/\Zjj x+1<=2 * b/\wCa x+1<=2 * b/\(fun _=>true) x=true
 | n,ds,b,hb,h=>by
  obtain ⟨c,rfl,hf⟩:=h.inv_st ZFj
  cases n with
  | zero=>omega
  | succ n =>
  obtain ⟨_,_,b1,c1,rfl,rfl,h1,hf⟩:=hf.inv;obtain ⟨_,_,b2,c2,rfl,rfl,h2,hf⟩:=hf.inv;obtain ⟨rfl,rfl⟩:=hf.inv0;obtain ⟨q1,rfl,rfl⟩:=h1.inv_str Zt9;obtain ⟨rows2,d2,rfl,rfl,dc⟩:=h2.inv_sl ZDU;obtain ⟨q2,rfl,g2,e2,p2⟩:=Zby (enc:=Zn) (sz:=sz0) (w:=wFi) (p:=fun _=>true) dc fun r c hc hd=>ZrC hd
  refine ⟨.mk q1 q2,?_,?_,?_,?_⟩
  ·simp only [Zt,Zb,Zm,Y2,Zem];rfl
  ·simp only [Zjj,Yv,Xj,WN];omega
  ·simp only [wCa,Jc,Ux,VL];omega
  rfl
def ZB5 {b:Nat} {ds:List D} (h:PlainD Tryz.prog 44 ds b):∃x,ds=Zt x/\Zjj x+1<=2 * b/\wCa x+1<=2 * b/\(fun _=>true) x=true:=ZDY b ds b (Tt _) h
def ZDZ:∀(n:Nat) (ds:List D) (b:Nat),b<=n->PlainD Tryz.prog 41 ds b->∃x,ds=Zr plZ x/\Znx x+1<=2 * b/\wTy x+1<=2 * b/\(fun _=>true) x=true
 | n,ds,b,hb,h=>by
  obtain ⟨c,rfl,hf⟩:=h.inv_st ZFk
  cases n with
  | zero=>omega
  | succ n =>
  obtain ⟨_,_,b1,c1,rfl,rfl,h1,hf⟩:=hf.inv;obtain ⟨_,_,b2,c2,rfl,rfl,h2,hf⟩:=hf.inv;obtain ⟨_,_,b3,c3,rfl,rfl,h3,hf⟩:=hf.inv;obtain ⟨_,_,b4,c4,rfl,rfl,h4,hf⟩:=hf.inv;obtain ⟨_,_,b5,c5,rfl,rfl,h5,hf⟩:=hf.inv;obtain ⟨_,_,b6,c6,rfl,rfl,h6,hf⟩:=hf.inv;obtain ⟨rfl,rfl⟩:=hf.inv0;obtain ⟨q1,rfl,rfl,w1⟩:=h1.inv_int bU8;obtain ⟨q1,rfl⟩:=ZyX w1;obtain ⟨q2,rfl,rfl⟩:=h2.inv_str Zt9;obtain ⟨q3,rfl,rfl⟩:=h3.inv_str Zt9;obtain ⟨rows4,d4,rfl,rfl,y4⟩:=h4.inv_sl ZDU;obtain ⟨q4,rfl,g4,e4,p4⟩:=Zby (enc:=Zn) (sz:=sz0) (w:=wFi) (p:=fun _=>true) y4 fun r c hc hd=>ZrC hd
  obtain ⟨rows5,d5,rfl,rfl,hr5⟩:=h5.inv_sl ZFm;obtain ⟨q5,rfl,g5,e5,p5⟩:=Zby (enc:=Zt) (sz:=Zjj) (w:=wCa) (p:=fun _=>true) hr5 fun r c hc hd=>ZB5 hd
  obtain ⟨q6,rfl,rfl,-⟩:=h6.inv_int ZB2;refine ⟨.mk q1 q2 q3 q4 q5 (zc q6),?_,?_,?_,?_⟩
  ·simp only [Zr,Zb,Zm,Y2,Zem];rfl
  ·simp only [Znx,Yv,Xj,WN];omega
  ·simp only [wTy,Jc,Ux,VL];omega
  rfl
def ZB6 {b:Nat} {ds:List D} (h:PlainD Tryz.prog 41 ds b):∃x,ds=Zr plZ x/\Znx x+1<=2 * b/\wTy x+1<=2 * b/\(fun _=>true) x=true:=ZDZ b ds b (Tt _) h
def ZD0:∀(n:Nat) (ds:List D) (b:Nat),b<=n->PlainD Tryz.prog 46 ds b->∃x,ds=ZH plZ x/\Zkf x+1<=2 * b/\wRe x+1<=2 * b/\(fun _=>true) x=true
 | n,ds,b,hb,h=>by
  obtain ⟨c,rfl,hf⟩:=h.inv_st ZFl
  cases n with
  | zero=>omega
  | succ n =>
  obtain ⟨_,_,b1,c1,rfl,rfl,h1,hf⟩:=hf.inv;obtain ⟨_,_,b2,c2,rfl,rfl,h2,hf⟩:=hf.inv;obtain ⟨_,_,b3,c3,rfl,rfl,h3,hf⟩:=hf.inv;obtain ⟨_,_,b4,c4,rfl,rfl,h4,hf⟩:=hf.inv;obtain ⟨_,_,b5,c5,rfl,rfl,h5,hf⟩:=hf.inv;obtain ⟨_,_,b6,c6,rfl,rfl,h6,hf⟩:=hf.inv;obtain ⟨rfl,rfl⟩:=hf.inv0;obtain ⟨q1,rfl,rfl⟩:=h1.inv_str Zt9;obtain ⟨rows2,d2,rfl,rfl,dc⟩:=h2.inv_sl ZDU;obtain ⟨q2,rfl,g2,e2,p2⟩:=Zby (enc:=Zn) (sz:=sz0) (w:=wFi) (p:=fun _=>true) dc fun r c hc hd=>ZrC hd
  obtain ⟨q3,rfl,rfl⟩:=h3.inv_bool ZyY;obtain ⟨q4,rfl,rfl⟩:=h4.inv_bool ZyY;obtain ⟨q5,rfl,rfl⟩:=h5.inv_bool ZyY;obtain ⟨q6,rfl,rfl,-⟩:=h6.inv_int ZB2;refine ⟨.mk q1 q2 q3 q4 q5 (zc q6),?_,?_,?_,?_⟩
  ·simp only [ZH,Zb,Zm,Y2,Zem];rfl
  ·simp only [Zkf,Yv,Xj,WN];omega
  ·simp only [wRe,Jc,Ux,VL];omega
  rfl
def ZB7 {b:Nat} {ds:List D} (h:PlainD Tryz.prog 46 ds b):∃x,ds=ZH plZ x/\Zkf x+1<=2 * b/\wRe x+1<=2 * b/\(fun _=>true) x=true:=ZD0 b ds b (Tt _) h
end Go.PM.Lex
end

section
namespace Go
variable {H:Type} {enc:TypeId×Value->H}
end Go
namespace Go.PM.Lex
open Go.Proofs Go.Proofs.YtafpcgfiedfldaaGreatDoor Go.ChangeShapes Go.WideShapes Go.ChangeAt Go.RowKit
def ZD1:ownKnob Tryz.prog.godebug=none:=kR
def Zu0 : "*" ++ "errors.errorString" = "*errors.errorString" := by decide
def Zua (u : TypeId) (h : Tryz.prog.typeName? 3 u = some "*errors.errorString") : u = 364 :=
 typeName_ptr_named (nm := "errors.errorString") (by rw [Zu0]; kernel_rfl) kR dM u (by rw [Zu0]; exact h)
def ZrD {W:World} {n:String} {text:List UInt8} {g:Nat} (hg:Tryz.prog.globalNamed n=some g) (ht:(Tryz.prog.globals[g]?).map (·.type)=some 206)
  (h : laidMet Tryz.prog [(n, .iface "*errors.errorString" (.ptr (.agg [.lit (.string text)])))] W) : ∃ ev, W.cell? ⟨g, 0, none⟩ = some ev /\ (ev = .nilIface \/ ∃ te pe, ev = .iface te pe) := by
 obtain ⟨a1,s1,mj,_⟩:=laid_sentinel h hg ht Tryz.underlying206 Zua Tryz.underlying364 Tryz.underlying366 rfl rfl Tryz.underlying9 kR kR;refine ⟨.iface 364 (.pointer (some a1)),?_,.inr ⟨_,_,rfl⟩⟩;simpa using World.var?_cell hg mj 0
def ZB8 {W:World} (h:laidMetH Tryz.prog Rows.groundFactsRow.laid W) (kc:W.ShapedOpen Tryz.prog):GlobOK W 8:=by
 rw [MakeChecks.laidMetH_plain _ _ _ kR] at h;have h1 := laidMet.filter (fun x => x.1 == "strconv.ErrSyntax") h;have h2 := laidMet.filter (fun x => x.1 == "strconv.ErrRange") h;exact ⟨oM,Tryz.laysM143.s1_3 W kc,ZrD kR kR h1,ZrD kR kR h2⟩
def ZkY:Env:=⟨fun _=>0,fun _=>none,fun _ _=>False,fun _=>none⟩
def ZB9 {e':Env} {W W':World} {σ':St} {may:MemPlace->Prop} (h:Later ZkY ⟨[],[],0⟩ W e' σ' W'):W.keptBut W' may:=by
 refine ⟨h.os,h.output,fun i hi=>?_⟩;have:=h.blocks i hi (fun j hj=>by simp at hj) (fun t ht=>by cases ht) rfl;rw [this]
 cases hh:W.heap[i]? with
 | none=>rfl
 | some o=>cases o <;> simp
def ZyZ {W:World} (h:8<=W.heap.size):SRel (GG W 8) ZkY ⟨[],[],0⟩ W where
 inj:=fun i j hi=>by simp at hi
 box:=fun i x hx=>by simp at hx
 low:=fun i hi=>by simp at hi
 tkn:=fun t ht=>by cases ht
 own:=fun t ht=>by cases ht
 dis:=fun t t' ht=>by cases ht
 xlt:=fun b off hx=>hx.elim
 xown:=fun t ht=>by cases ht
 hid:=fun b q hq=>by cases hq
 glob:=fun b hb=>rfl
 big:=h
end Go.PM.Lex
end

section
namespace Go.PM.Lex
open Go.Proofs Go.Proofs.YtafpcgfiedfldaaGreatDoor
def Zub:∀b off,okc ZkY ⟨[],[],0⟩ b off:=fun b off=>⟨fun h=>h,fun i hi=>by simp at hi,(fun t ht=>by cases ht),fun q hq=>by cases hq⟩
section
variable {H:Type} {enc:TypeId×Value->H} {W:World} {nG:Nat}
def Zn4 {S:List TypeId} (hS:S.all (Zmw Tryz.prog S)=true) {t:TypeId} {cs:Array Value} {d:DataW H} {ps:List MemPlace} (ht:t∈S) (h:DataW.Trod enc Tryz.prog W 0 (fun _=>true) true t (.agg cs) d ps) :
  ∃ds b,PlainD Tryz.prog t ds b/\VRel (GG W nG) ZkY ⟨[],[],0⟩ W (.agg (ds.map .d)) (.agg cs)/\b<=Rows.uptoBulk d:=by
 obtain ⟨fuel,hf⟩:=h;obtain ⟨ds,b,h1,h2,h3⟩:=Zbx hS Zub Rows.uptoBulk Rows.uptoBulkAll (fun _ _=>Tt _) (fun _=>Tt _) (fun _=>Tt _) (fun _=>Tt _) (fun l m=>by simp only [Rows.uptoBulk];omega) (Tt _) (fun _ _=>Tt _) fuel t _ _ ht hf;have hc:(Value.agg cs).cells.toList=cs.toList:=rfl;rw [hc] at h2;refine ⟨ds,b,h1,.agg _ _ (by rw [Td,h2.len,Sm]) (fun i x u hx hu=>?_) (fun u hu=>h2.one u (by simpa using hu)),h3⟩;rw [Th] at hx;obtain ⟨y,hy,rfl⟩:=TD.1 hx;exact .d _ _ (h2.rel i y u hy (by simpa using hu))
end
end Go.PM.Lex
end

section
namespace Go.PM.Lex
open Go.Proofs Go.Proofs.YtafpcgfiedfldaaGreatDoor
def plainP:List TypeId:=[26,22,23,24,41,46,32,58,38,44,39,50,29,84,30,9,3,5,2,4]
def ZrE:plainP.all (Zmw Tryz.prog plainP)=true:=kR
def ZFr:stB Tryz.prog 26 [22,23,24]=true:=kR
def ZD2 {b:Nat} {ds:List D} (h:PlainD Tryz.prog 26 ds b):∃x:Pr,ds=V5 plZ x/\ZaE x+1<=2 * b/\wUn (prU x)+1<=2 * b/\ZlT (prU x)=true:=by
 obtain ⟨c,rfl,hf⟩:=h.inv_st ZFr;obtain ⟨_,_,b1,c1,rfl,rfl,h1,hf⟩:=hf.inv;obtain ⟨_,_,b2,c2,rfl,rfl,h2,hf⟩:=hf.inv;obtain ⟨_,_,b3,c3,rfl,rfl,h3,hf⟩:=hf.inv;obtain ⟨rfl,rfl⟩:=hf.inv0;obtain ⟨rows1,d1,rfl,rfl,bi⟩:=h1.inv_sl ZFn;obtain ⟨q1,rfl,g1,e1,p1⟩:=Zby (enc:=Zr plZ) (sz:=Znx) (w:=wTy) (p:=fun _=>true) bi fun r c hc hd=>ZB6 hd
 obtain ⟨rows2,d2,rfl,rfl,dc⟩:=h2.inv_sl ZFo;obtain ⟨q2,rfl,g2,e2,p2⟩:=Zby (enc:=ZH plZ) (sz:=Zkf) (w:=wRe) (p:=fun _=>true) dc fun r c hc hd=>ZB7 hd
 obtain ⟨rows3,d3,rfl,rfl,my⟩:=h3.inv_sl ZFp;obtain ⟨q3,rfl,g3,e3,p3⟩:=Zby (enc:=ZC plZ) (sz:=V8) (w:=wRu) (p:=ZdL) my fun r c hc hd=>ZB4 hd
 refine ⟨⟨q1,q2,q3⟩,rfl,?_,?_,?_⟩
 ·show 1+szS Znx q1+szS Zkf q2+szS V8 q3+1<=_;omega
 ·simp only [prU,wUn,ZsM,szS];omega
 simp [prU,ZlT,ZdM,p3]
section
variable {H:Type} {enc:TypeId×Value->H} {W:World} {nG:Nat}
def Zuc {cs:Array Value} {d:DataW H} {ps:List MemPlace} (h:DataW.Trod enc Tryz.prog W 0 (fun _=>true) true 26 (.agg cs) d ps) :
  ∃x,VRel (GG W nG) ZkY ⟨[],[],0⟩ W (.agg ((V5 plZ x).map .d)) (.agg cs)/\ZaE x+1<=2 * Rows.uptoBulk d/\wUn (prU x)+1<=2 * Rows.uptoBulk d/\ZlT (prU x)=true:=by
 obtain ⟨ds,b,h1,h2,h3⟩:=Zn4 (nG:=nG) ZrE dM h;obtain ⟨x,rfl,g1,g2,g3⟩:=ZD2 h1;exact ⟨x,h2,oM,oM,g3⟩
end
end Go.PM.Lex
namespace Go.Proofs.YtafpcgfiedfldaaGreatDoor
open Go.ChangeShapes
variable {P:Program} {H:Type} {enc:TypeId×Value->H} {w:World} {base:Nat} {spare:Nat->Bool} {af7:Bool}
end Go.Proofs.YtafpcgfiedfldaaGreatDoor
end

section
namespace Go.PM.Lex
open Go.Proofs
variable {w0:World} {nG:Nat}
end Go.PM.Lex
end

section
namespace Go.PM.Lex
open Go.Proofs Go.Proofs.YtafpcgfiedfldaaGreatDoor
def Zy0:Rows.laid_unicode_utf8_first=Lib.firstData:=kR
def Zud:(Rows.laid_unicode_utf8_acceptRanges:DataW Unit)=Lib.acceptData:=kR
def ZCa {W:World} (h:laidMetH Tryz.prog Rows.groundFactsRow.laid W):Lib.Utf8Tabs 0 1 W:=by
 rw [MakeChecks.laidMetH_plain _ _ _ kR] at h;have h1:=Lib.laidMet.reads (d:=Rows.laid_unicode_utf8_first) h (.tail _ (.tail _ (.tail _ (.tail _ (.tail _ (.tail _ (.head _)))))));have h2:=Lib.laidMet.reads (d:=Rows.laid_unicode_utf8_acceptRanges) h (.tail _ (.tail _ (.tail _ (.head _))));rw [Zy0] at h1;rw [Zud] at h2;exact utf8Tabs_of_readsT (U8Types.of196 Tryz.laysValid) ⟨kR,kR,kR,kR,kR,kR,kR⟩ h1 h2
variable {w0:World} {nG:Nat}
def ZD3 (hb:1<nG) (hT:Lib.Utf8Tabs 0 1 w0):LexC w0 nG where
 name:=ZC1 ⟨Zpk,J9,ZzD,trivial⟩
 quote:=ZsI ⟨ZsE hb hT,ZbP,Zfu,ZbQ,Zh6,trivial⟩
end Go.PM.Lex
end

section
namespace Go.PM.Lex
open Go.Proofs Go.Proofs.YtafpcgfiedfldaaGreatDoor
def Zue:DataW Unit->List Int
 | .agg xs=>xs.map fun | .lit (.int _ z)=>z | _=>0
 | _=>[]
def Zy1:(Rows.laid_internal_strconv_uint64pow10:DataW Unit)=Lib.tabData .u64 Lib.pow10Tab:=kR
def ZD4:(Rows.laid_math_bits_deBruijn64tab:DataW Unit)=Lib.tabData .u8 (Zue Rows.laid_math_bits_deBruijn64tab):=kR
def Zy2:(Zue Rows.laid_math_bits_deBruijn64tab).getD 15 0=4:=kR
def ZCb:(Zue Rows.laid_math_bits_deBruijn64tab).length=64:=kR
def ZD5 {W:World} (h:laidMetH Tryz.prog Rows.groundFactsRow.laid W):NumOK W 8:=by
 rw [MakeChecks.laidMetH_plain _ _ _ kR] at h;have h1 := laidMet.filter (fun x => x.1 == "internal/strconv.uint64pow10") h;have h2 := laidMet.filter (fun x => x.1 == "math/bits.deBruijn64tab") h;have k1 : laidMet Tryz.prog [("internal/strconv.uint64pow10", Lib.tabData .u64 Lib.pow10Tab)] W := by rw [<- Zy1]; exact h1
 have k2 : laidMet Tryz.prog [("math/bits.deBruijn64tab", Lib.tabData .u8 (Zue Rows.laid_math_bits_deBruijn64tab))] W := by rw [<- ZD4]; exact h2
 refine ⟨dM,Lib.tabIs_of_head (g:=3) (t:=341) kR kR Tryz.underlying341 kR kR kR k1,?_⟩;have k3:=Lib.tabIs_of_head (g:=5) (t:=359) kR kR Tryz.underlying359 kR kR kR k2;have k4:=k3.cell (g:=5) kR 15 (by rw [ZCb];decide);rw [Zy2] at k4;exact k4
end Go.PM.Lex
end

section
namespace Go.PM.Lex
open Go.Proofs Go.Proofs.YtafpcgfiedfldaaGreatDoor
def Z6 {a b:Bool} (h1:a=true) (h2:b=true):(a && b)=true:=by rw [h1,h2];rfl
def ZrF {P:Program} {f:FuncId} {fn:Func} {s:ChangeSpec} {c:OpenClaim}
  (p1:laidOutB P=true) (p2:mapsRowed P=true) (p3:(P.stops == [])=true) (p4:(P.stopKnobs == [])=true) (p5:(c.plainKeys == P.plainKeys)=true) (p6:P.stopsHeard=true) (p7:P.mayEnter=true) (p8:(c.lifted == P.liftsFinal)=true) (p9:(P.make == some c.make)=true)
  (k1:c.wf (OpenSpec.ofChange s)=true) (k2:fn.params.all (P.readableRec ·)=true) (k3:namedTie P c.named s.vars=true) (k4:(c.stops == [])=true) (k5:(c.knobs == [])=true)
  (k6:(c.inPlace == P.inPlace f)=true) (k7:(c.unfollowed == P.unfollowed f)=true) (k8:(c.recurses == P.recurses f)=true) (k9:(c.named == P.varsNamed f)=true)
  (k10:(c.maps == (fn.params.toList++s.plain.varTypes P).any (P.mapsRec ·))=true) (k11:(c.ifaces == (fn.params.toList++s.plain.varTypes P).any (P.ifacesRec ·))=true) (k12:(c.mapsOut == P.mapsAmong fn.resultTypes.toList)=true)
  (k13:(c.loops == (fn.params.toList++s.plain.varTypes P).any (P.loopsFrom ·))=true) (k14:(c.wideKeys == (fn.params.toList++s.plain.varTypes P++fn.resultTypes.toList).any (P.wideKeysFrom ·))=true)
  (k15:s.vars.all (P.varReadable ·)=true) (k16:fn.resultTypes.all (fun t=>P.readableRec t && decide (t<P.types.size))=true) (k17:(c.ifacesOut == fn.resultTypes.toList.any (P.ifacesRec ·))=true) (k18:(c.loopsOut == fn.resultTypes.toList.any (P.loopsFrom ·))=true)
  (k19:c.shortTexts.isNone=true) (k20:(c.kinds == (if c.domain.isEmpty then [] else fn.params.toList.map fun t=>match P.underlying t with | some (.int k)=>some k | _=>none))=true) (k21:(c.pinned == c.pinnedBy)=true)
  (k22:(c.veiled == (fn.params.toList++s.plain.varTypes P++fn.resultTypes.toList).any (P.veiledRec ·))=true) (k23:c.veiledFits P fn.params.toList (fn.params.toList++s.plain.varTypes P++fn.resultTypes.toList)=true):joinedFacts P f fn s c=true:=by
 unfold joinedFacts
 exact (Z6 (Z6 (Z6 (Z6 (Z6 (Z6 (Z6 (Z6 (Z6 (Z6 (Z6 (Z6 (Z6 (Z6 (Z6 (Z6 (Z6 (Z6 (Z6 (Z6 (Z6 (Z6 (Z6 (Z6 (Z6 (Z6 (Z6 (Z6 (Z6 (Z6 (Z6 k1 p1) p2) k2) k3) k4) p3) k5) p4) k6) k7) k8) k9) k10) k11) k12) k13) k14) k15) k16) k17) k18) p5) k19) p6) p7) p8) p9) k20) k21) k22) k23)
def jp1:laidOutB Tryz.checked.prog=true:=kR
def jp2:mapsRowed Tryz.checked.prog=true:=kR
def jp3:(Tryz.checked.prog.stops == [])=true:=kR
def jp4:(Tryz.checked.prog.stopKnobs == [])=true:=kR
def jp5:(Rows.groundFactsRow.plainKeys == Tryz.checked.prog.plainKeys)=true:=kR
def jp6:Tryz.checked.prog.stopsHeard=true:=kR
def jp7:Tryz.checked.prog.mayEnter=true:=kR
def jp8:(Rows.groundFactsRow.lifted == Tryz.checked.prog.liftsFinal)=true:=kR
def jp9:(Tryz.checked.prog.make == some Rows.groundFactsRow.make)=true:=kR
def jp10:Tryz.checked.prog.mainIs=some (Rows.groundFactsCard.stood.harness.1,Rows.groundFactsCard.stood.harness.2.toList):=kR
def jp11:Rows.groundFactsCard.stood.looks=Tryz.checked.prog.looks []:=kR
end Go.PM.Lex
end
