/- A part of the proof: plain logic, contracts and laws over the given program. -/
import Derived.Deep.Slices
import Derived.ChangeArms
import Derived.DataReads
import Derived.Test.YtnbhcckbjefnjaaGreatDoorRows
import Derived.Test.YtnbhcckbjefnjaaGreatDoorTie
import Derived.Test.YtnbhcckbjefnjaaGreatDoorCards
import Derived.ProofKit
import Derived.OpenShut
import Derived.LaidMore
import Derived.Lay
import Derived.LaidSub
import Derived.SevenTiedAt
import Derived.Stop.Joined
import Derived.Stop.LaidErr
import Derived.Lib.LaidU8T
import Derived.Lib.LaidTab
import Derived.JoinedOf
import Derived.Test.YtnbhcckbjefnjaaGreatDoorB11
set_option linter.unusedVariables false
set_option linter.unusedSimpArgs false
set_option linter.all false
set_option maxRecDepth 100000
set_option maxHeartbeats 16000000
noncomputable section
section
namespace Go.PM.Lex
open Go.Proofs
def ZEo (g:Nat):Bool:=Zeh g [59,260,296]
def ZC3 (g:Nat) (a:List PV):Option (PEnd×St):=fnR Tryz.prog (Zce Tryz.prog Jy ZEo 100000 200) Jy 100000 g a ⟨[],[],0⟩
def txA:List UInt8:=[116,121,112,101,32,78,32,60,58,32,110,117,109,98,101,114,32,100,101,99,108,32,112,40,120,58,32,78,41,32,100,101,99,108,32,113,40,120,58,32,110,117,109,98,101,114,41,32,113,40,120,41,32,58,45,32,112,40,120,41,46]
def txB:List UInt8:=[116,121,112,101,32,78,32,60,58,32,110,117,109,98,101,114,32,100,101,99,108,32,112,40,120,58,32,78,41,32,100,101,99,108,32,113,40,120,58,32,110,117,109,98,101,114,41,32,112,40,120,41,32,58,45,32,113,40,120,41,46]
def xAt (a:Int):List D:=[.int .u8 1,.str [120],.int .i64 0,.sl [],.int .i64 a]
def ZEp (h b:UInt8):List D:=[.str [h],.sl [xAt 50],.sl [[.int .u8 1,.str [b],.sl [xAt 58],.sl [],.int .i64 56]],.int .i64 48]
def ZC4 (h b:UInt8):List (List (List D)):=[[[.int .u8 1,.str [78],.str [110,117,109,98,101,114],.sl [],.sl [],.int .i64 5]],
 [[.str [112],.sl [[.str [120],.str [78]]],.bool false,.bool false,.bool false,.int .i64 22],[.str [113],.sl [[.str [120],.str [110,117,109,98,101,114]]],.bool false,.bool false,.bool false,.int .i64 35]],[ZEp h b]]
def ZDZ (r:PV):Option (PEnd×St)->Bool
 | some (.ret v,⟨[],[],0⟩)=>ZBN v r
 | _=>false
def Zrd {r:PV} {o:Option (PEnd×St)} (h:ZDZ r o=true):o=some (.ret r,⟨[],[],0⟩):=by
 unfold ZDZ at h
 split at h
 ·rw [Zkv h]
 cases h
def ZBO (h b:UInt8):PV:=.agg ((ZC4 h b).map fun r=>.d (.sl r))
def ZEq:ZC3 12 [.d (.str txA)]=some (.ret (ZBO 113 112),⟨[],[],0⟩):=Zrd kR
def ZEr:ZC3 12 [.d (.str txB)]=some (.ret (ZBO 112 113),⟨[],[],0⟩):=Zrd kR
variable {w0:World} {nG:Nat}
def Zl7 {s:Bs} {r:PV} (h:ZC3 12 [.d (.str s)]=some (.ret r,⟨[],[],0⟩)):PC w0 nG 12 fun a σ K=>a=[.d (.str s)]/\σ=⟨[],[],0⟩/\K (.ret r) ⟨[],[],0⟩ :=
 ZnG ZI mixed h
def idP:Pl:=fun n=>(n:Int)
def xK (a:Nat):Ex:=.mk 1 [120] 0 [] a
def pK (h b:UInt8):Pr:=⟨[⟨1,[78],Zud,[],[],5⟩],[⟨[112],[⟨[120],[78]⟩],false,false,false,22⟩,⟨[113],[⟨[120],Zud⟩],false,false,false,35⟩],[⟨[h],[xK 50],[.mk 1 [b] [xK 58] [] 56],48⟩]⟩
def ZEs:(Zaw (prU (pK 113 112))).2=0:=kR
def ZEt:(Zaw (prU (pK 112 113))).2=0:=kR
def ZC5:JP 1000 (prU (pK 113 112)):=⟨kR,Tc kR,Tc kR,rfl,rfl,rfl⟩
def ZC6:JP 1000 (prU (pK 112 113)):=⟨kR,Tc kR,Tc kR,rfl,rfl,rfl⟩
def ZEu:Zfz idP (pK 113 112)=(0,0):=by rw [Zbq,Tf (fun g=>g ZEs)];kernel_rfl
def ZEv:Zfz idP (pK 112 113)=(50,183):=by rw [Zbq,Tf (fun g=>g ZEt)];kernel_rfl
def szK:ZbW (pK 113 112)<=2097152/\ZbW (pK 112 113)<=2097152:=⟨Tc kR,Tc kR⟩
def PCalls.or {G:GE} {g:FuncId} {a b:Zp} (ha:PCalls G g a) (hb:PCalls G g b):PCalls G g fun args σ K=>a args σ K\/b args σ K:=⟨ha.enters,fun args σ K hs n e w vs hS hA=>hs.elim (fun h=>ha.calls args σ K h n e w vs hS hA) (fun h=>hb.calls args σ K h n e w vs hS hA)⟩
def ZC7 (x y:List PV) (r s:PV):Zp:=fun a σ K=>(a=x/\σ=⟨[],[],0⟩/\K (.ret r) ⟨[],[],0⟩)\/(a=y/\σ=⟨[],[],0⟩/\K (.ret s) ⟨[],[],0⟩)
def ZnH:OKw w0 nG [(12,ZC7 [.d (.str txA)] [.d (.str txB)] (ZBO 113 112) (ZBO 112 113)),(8,ZdX 1000)] 5 Zcz:=by
 refine pwo Tryz.func5 fun args σ K h=>?_
 unfold Zcz at h
 split at h
 ·refine pwv [] 0 false ?_;refine Or.inl ⟨rfl,rfl,wN ?_⟩;refine ⟨idP,pK 113 112,rfl,⟨ZC5,dM,szK.1⟩,fun a e hx=>?_⟩;rw [ZEu] at hx
  cases hx
  conv=>whnf
  refine Or.inr ⟨rfl,rfl,wN ?_⟩;refine ⟨idP,pK 112 113,rfl,⟨ZC6,dM,szK.2⟩,fun a e hx=>?_⟩;rw [ZEv] at hx
  cases hx
  exact mq52
 exact h.elim
def ZtK (hP:PC w0 nG 20 (Zni XV JP Zaw 1000)):PC w0 nG 5 Zcz :=
 ZnH ⟨PCalls.or (Zl7 ZEq) (Zl7 ZEr),Zuv hP,trivial⟩
end Go.PM.Lex
end

section
namespace Go.PM
mutual
inductive PlainD (P:Program):TypeId->List D->Nat->Prop
 | int {t:TypeId} {k:IntKind} {n:Int} (h:P.underlying t=some (.int k)) (hw:(Lit.int k n).wf=true):PlainD P t [.int k n] 1
 | str {t:TypeId} {s:List UInt8} (h:P.underlying t=some .string):PlainD P t [.str s] (s.length+1)
 | bool {t:TypeId} {b:Bool} (h:P.underlying t=some .bool):PlainD P t [.bool b] 1
 | st {t:TypeId} {fs:Array Field} {ds:List D} {b:Nat} (h:P.underlying t=some (.struct fs)) (hf:PlainFs P (fs.toList.map (·.type)) ds b):PlainD P t ds (b+1)
 | sl {t e:TypeId} {rows:List (List D)} {b:Nat} (h:P.underlying t=some (.slice e)) (hr:PlainRs P e rows b):PlainD P t [.sl rows] (b+1)
inductive PlainFs (P:Program):List TypeId->List D->Nat->Prop
 | nil:PlainFs P [] [] 0
 | cons {f:TypeId} {l:List TypeId} {r ds:List D} {b c:Nat} (h1:PlainD P f r b) (h2:PlainFs P l ds c):PlainFs P (f::l) (r++ds) (b+c)
inductive PlainRs (P:Program):TypeId->List (List D)->Nat->Prop
 | nil {e:TypeId}:PlainRs P e [] 0
 | cons {e:TypeId} {r:List D} {rows:List (List D)} {b c:Nat} (h1:PlainD P e r b) (h2:PlainRs P e rows c):PlainRs P e (r::rows) (b+c)
end
structure CR (ok:Nat->Nat->Prop) (w:World) (ds:List D) (cs:List Value):Prop where
 len:ds.length=cs.length
 rel:∀(i:Nat) (x:D) (u:Value),ds[i]?=some x->cs[i]?=some u->DRel ok w x u
 one:∀u∈cs,u.oneCell'=true
def CR.nil {ok:Nat->Nat->Prop} {w:World}:CR ok w [] []:=⟨rfl,fun i x u h=>by simp at h,fun u h=>by cases h⟩
def CR.one1 {ok:Nat->Nat->Prop} {w:World} {x:D} {u:Value} (h:DRel ok w x u) (h1:u.oneCell'=true):CR ok w [x] [u]:=⟨rfl,fun i y v hy hv=>by
 match i,hy,hv with
 | 0,hy,hv=>cases hy;cases hv;exact h
 | i+1,hy,hv=>simp at hy,fun v hv=>by rw [List.mem_singleton.1 hv];exact h1⟩
def CR.app {ok:Nat->Nat->Prop} {w:World} {d1 d2:List D} {c1 c2:List Value} (h1:CR ok w d1 c1) (h2:CR ok w d2 c2):CR ok w (d1++d2) (c1++c2):=by
 refine ⟨by rw [Ta,Ta,h1.len,h2.len],fun i x u hx hu=>?_,fun u hu=>?_⟩
 ·by_cases hi:i<d1.length
  ·rw [TN hi] at hx;rw [TN (by rw [<- h1.len];exact hi)] at hu;exact h1.rel i x u hx hu
  rw [TW oM] at hx;rw [TW (by rw [<- h1.len];omega),<- h1.len] at hu;exact h2.rel _ x u hx hu
 rcases TH.1 hu with h | h
 ·exact h1.one u h
 exact h2.one u h
def ZtL (P:Program):List Field->Nat->Option Nat
 | [],a=>some a
 | f::l,a=>if f.offset=a then ZtL P l (a+P.cellsOf f.type) else none
def Zl8 (P:Program) (S:List TypeId) (t:TypeId):Bool:=match P.underlying t with
 | some (.int _) | some .string | some .bool=>true
 | some (.struct fs)=>fs.toList.all (fun f=>S.contains f.type) && decide (ZtL P fs.toList 0=some (P.cellsOf t))
 | some (.slice e)=>S.contains e && decide (0<P.cellsOf e)
 | _=>false
section
variable {H:Type} {enc:TypeId×Value->H} {P:Program} {w:World} {ok:Nat->Nat->Prop}
def Zbu {S:List TypeId} (hS:S.all (Zl8 P S)=true) (ax:∀b off,ok b off) (bulk:DataW H->Nat) (bulks:List (DataW H)->Nat)
  (k1:∀k n,1<=bulk (.lit (.int k n))) (k2:∀s,s.length+1<=bulk (.lit (.string s))) (k3:∀b,1<=bulk (.lit (.bool b))) (k4:∀l,bulks l+1<=bulk (.agg l)) (k5:∀l m,bulks l+1<=bulk (.slice l m)) (k6:1<=bulk .nil) (k7:∀d l,bulk d+bulks l<=bulks (d::l)) :
  ∀(fuel:Nat) (t:TypeId) (cs:List Value) (x:DataW H×List MemPlace),t∈S->DataW.trod enc P w 0 (fun _=>true) true fuel t cs=some x->∃ds b,PlainD P t ds b/\CR ok w ds cs/\b<=bulk x.1
 | 0,t,cs,x,ht,h=>by simp [DataW.trod] at h
 | fuel+1,t,cs,x,ht,h=>by
  have hp:=Tq.1 hS t ht;unfold Zl8 at hp
  split at hp
  ·rename_i k hu
   obtain ⟨n,rfl,rfl,hw⟩:=DataW.trod_int hu h;exact ⟨_,1,.int hu hw,.one1 (.int _ _) rfl,k1 _ _⟩
  ·rename_i hu
   obtain ⟨s,rfl,rfl,hw⟩:=DataW.trod_string hu h;exact ⟨[.str s.data.toList],_,.str hu,.one1 (.str _) rfl,k2 _⟩
  ·rename_i hu
   obtain ⟨b,rfl,rfl⟩:=DataW.trod_bool hu h;exact ⟨_,1,.bool hu,.one1 (.bool _) rfl,k3 _⟩
  ·rename_i fs hu
   rw [Tm,TQ,Tq] at hp;obtain ⟨oy,vo⟩:=hp;obtain ⟨xs,n,hn,rfl,aa,hxl,hf⟩:=DataW.trod_struct hu h;obtain rfl:fuel=n:=oM;have key:∀(l:List Field) (k a:Nat),fs.toList.drop k=l->ZtL P l a=some (P.cellsOf t)->∃ds b,PlainFs P (l.map (·.type)) ds b/\CR ok w ds (cs.drop a)/\b<=bulks ((xs.drop k).map (·.1)):=by
    intro l
    induction l with
    | nil =>
     intro k a hk ha
     cases ha
     exact ⟨[],0,.nil,by rw [Tv oM];exact .nil,T7 _⟩
    | cons f l ih =>
    intro k a hk ha
    rw [ZtL] at ha;split at ha
    ·rename_i gu
     have hkl:k<fs.size:=by
      have:=congrArg List.length hk;simp at this;omega
     have hfk:fs[k]?=some f:=by
      have:(fs.toList.drop k)[0]?=some f:=by rw [hk];rfl
      simpa using this
     have hd:fs.toList.drop (k+1)=l:=by rw [<- TL,hk];rfl
     obtain ⟨ds,b,g1,g2,g3⟩:=ih (k+1) _ hd ha;have hx:=hf k f hfk;rw [Tb oM] at hx;have hfS:f.type∈S:=by
      have:=oy f (by have:=TT (l:=fs.toList) (i:=k) (a:=f) (by simpa using hfk);exact this);simpa using this
     obtain ⟨dr,br,q1,q2,q3⟩:=Zbu hS ax bulk bulks k1 k2 k3 k4 k5 k6 k7 fuel _ _ _ hfS hx;rw [gu] at q2;refine ⟨dr++ds,br+b,.cons q1 g1,?_,?_⟩
     ·have e:cs.drop a=(cs.drop a).take (P.cellsOf f.type)++cs.drop (a+P.cellsOf f.type):=by rw [<- TL,List.take_append_drop]
      rw [e];exact q2.app g2
     have e:xs.drop k=xs[k]::xs.drop (k+1):=Tn oM;rw [e,Tx];exact TZ (Nat.add_le_add q3 g3) (k7 _ _)
    cases ha
   obtain ⟨ds,b,g1,g2,g3⟩:=key fs.toList 0 0 rfl vo;rw [So] at g2 g3;exact ⟨ds,b+1,.st hu g1,g2,TZ (Nat.add_le_add_right g3 1) (k4 _)⟩
  ·rename_i e hu
   rw [Tm,TQ] at hp;obtain ⟨hp,bc⟩:=hp;have heS:e∈S:=by simpa using hp
   rcases DataW.trod_slice hu h with ⟨rfl,rfl⟩ | ⟨a,len,cap,elems,rest,n,hn,rfl,rfl,hb,hl,hm,aa,hel,xb,hns⟩
   ·exact ⟨[.sl []],1,.sl hu .nil,.one1 .slnil rfl,k6⟩
   obtain rfl:fuel=n:=oM;obtain ⟨l5,ep⟩:=xb rfl
   by_cases iv:cap=0
   ·subst iv;obtain rfl:len=0:=oM;exact ⟨[.sl []],1,.sl hu .nil,.one1 (.slz a) rfl,TZ oM (k5 _ _)⟩
   have y4:a.spot=none:=by
    have h0:∃cs',w.cells? 0 (a.add (0 * P.cellsOf e)) (P.cellsOf e)=some cs':=by
     by_cases nq:0<len
     ·have:=hel 0 nq;rw [Tb oM] at this;obtain ⟨cs',h1,_⟩:=Option.bind_eq_some_iff.1 this;exact ⟨cs',h1⟩
     have:=ep 0 oM;rw [Tb oM] at this;obtain ⟨cs',h1,_⟩:=Option.bind_eq_some_iff.1 this;exact ⟨cs',by rw [show len+0=0 by omega] at h1;exact h1⟩
    obtain ⟨cs',h1⟩:=h0;obtain ⟨_,h2,h3⟩:=World.cells?_some h1;have h4:=h3 0 bc;rw [Tb oM] at h4;have ea:(a.add (0 * P.cellsOf e)).add 0=a:=by simp [Addr.add]
    rw [ea] at h4
    cases xb:a.spot with
    | none=>rfl
    | some q =>
    unfold World.cell? at h4
    split at h4
    ·rw [xb] at h4;simp at h4
    cases h4
   obtain ⟨blk,off,sp⟩:=a;obtain rfl:sp=none:=y4;have key:∀(m k:Nat),k+m=len->∃rows b,PlainRs P e rows b/\rows.length=m/\b<=bulks ((elems.drop k).map (·.1))/\∀(i:Nat) (r:List D),rows[i]?=some r->∃cs,cs.length=P.cellsOf e/\CR ok w r cs/\∀j,j<P.cellsOf e->w.cell? ⟨blk,off+(k+i) * P.cellsOf e+j,none⟩=cs[j]?:=by
    intro m
    induction m with
    | zero=>intro k hk;exact ⟨[],0,.nil,rfl,T7 _,fun i r h=>by simp at h⟩
    | succ m ih =>
    intro k hk
    obtain ⟨rows,b,g1,g2,g3,g4⟩:=ih (k+1) oM;have hx:=hel k oM;rw [Tb oM] at hx;obtain ⟨cs',h1,h2⟩:=Option.bind_eq_some_iff.1 hx;obtain ⟨_,h3,h4⟩:=World.cells?_some h1;obtain ⟨dr,br,q1,q2,q3⟩:=Zbu hS ax bulk bulks k1 k2 k3 k4 k5 k6 k7 fuel _ _ _ heS h2;refine ⟨dr::rows,br+b,.cons q1 g1,by rw [Te,g2],?_,fun i r hr=>?_⟩
    ·rw [Tn (show k<elems.length by omega),Tx];exact TZ (Nat.add_le_add q3 g3) (k7 _ _)
    cases i with
    | zero =>
     cases hr
     refine ⟨cs',h3,q2,fun j hj=>?_⟩;have:=h4 j hj;rw [ZW,ZW] at this;rw [SK];exact this
    | succ i =>
    rw [TP] at hr;obtain ⟨cs,e1,e2,e3⟩:=g4 i r hr;exact ⟨cs,e1,e2,fun j hj=>by rw [show k+(i+1)=k+1+i by omega];exact e3 j hj⟩
   obtain ⟨rows,b,g1,g2,g3,g4⟩:=key len 0 oM;rw [So] at g3;refine ⟨[.sl rows],b+1,.sl hu g1,.one1 ?_ rfl,TZ (Nat.add_le_add_right g3 1) (k5 _ _)⟩;subst g2;refine .sl rows blk off cap (P.cellsOf e) (fun i j=>(w.cell? ⟨blk,off+i * P.cellsOf e+j,none⟩).getD default) hl (fun r hr=>?_) (fun i j hi hj=>?_) (fun i j _ _=>ax _ _) (fun i j x hx=>?_)
   ·obtain ⟨i,hi,rfl⟩:=T9 hr;obtain ⟨cs,e1,e2,_⟩:=g4 i _ (Tb hi);rw [e2.len,e1]
   ·obtain ⟨cs,e1,e2,e3⟩:=g4 i _ (Tb hi);have:=e3 j hj;rw [Sa,Tb oM] at this;simp only [this,Sl]
   obtain ⟨r,hr,hx⟩:=Option.bind_eq_some_iff.1 hx;obtain ⟨cs,e1,e2,e3⟩:=g4 i r hr;have hjr:=(Ti.1 hx).1;have hj:j<P.cellsOf e:=by rw [<- e1,<- e2.len];exact hjr
   have:=e3 j hj;rw [Sa,Tb oM] at this;simp only [this,Sl];exact e2.rel j x _ hx (Tb oM)
  cases hp
end
end Go.PM
end

section
namespace Go.PM
def stB (P:Program) (t:TypeId) (tys:List TypeId):Bool:=match P.underlying t with | some (.struct fs)=>decide (fs.toList.map (·.type)=tys) | _=>false
def slB (P:Program) (t e:TypeId):Bool:=match P.underlying t with | some (.slice u)=>decide (u=e) | _=>false
def ZBm (P:Program) (t:TypeId) (k:IntKind):Bool:=match P.underlying t with | some (.int u)=>decide (u=k) | _=>false
def ZC8 (P:Program) (t:TypeId):Bool:=match P.underlying t with | some .string=>true | _=>false
def Zyp (P:Program) (t:TypeId):Bool:=match P.underlying t with | some .bool=>true | _=>false
section
variable {P:Program} {t e:TypeId} {ds:List D} {b:Nat}
def PlainD.inv_st {tys:List TypeId} (h:PlainD P t ds b) (hu:stB P t tys=true):∃c,b=c+1/\PlainFs P tys ds c:=by
 unfold stB at hu
 cases h with
 | st h hf=>rw [h] at hu;simp only [TQ] at hu;exact ⟨_,rfl,hu ▸ hf⟩
 | int h _=>rw [h] at hu;cases hu
 | str h=>rw [h] at hu;cases hu
 | bool h=>rw [h] at hu;cases hu
 | sl h _=>rw [h] at hu;cases hu
def PlainD.inv_sl (h:PlainD P t ds b) (hu:slB P t e=true):∃rows c,ds=[.sl rows]/\b=c+1/\PlainRs P e rows c:=by
 unfold slB at hu
 cases h with
 | sl h hr=>rw [h] at hu;simp only [TQ] at hu;exact ⟨_,_,rfl,rfl,hu ▸ hr⟩
 | int h _=>rw [h] at hu;cases hu
 | str h=>rw [h] at hu;cases hu
 | bool h=>rw [h] at hu;cases hu
 | st h _=>rw [h] at hu;cases hu
def PlainD.inv_int {k:IntKind} (h:PlainD P t ds b) (hu:ZBm P t k=true):∃n,ds=[.int k n]/\b=1/\(Lit.int k n).wf=true:=by
 unfold ZBm at hu
 cases h with
 | int h hw=>rw [h] at hu;simp only [TQ] at hu;subst hu;exact ⟨_,rfl,rfl,hw⟩
 | sl h _=>rw [h] at hu;cases hu
 | str h=>rw [h] at hu;cases hu
 | bool h=>rw [h] at hu;cases hu
 | st h _=>rw [h] at hu;cases hu
def PlainD.inv_str (h:PlainD P t ds b) (hu:ZC8 P t=true):∃s,ds=[.str s]/\b=s.length+1:=by
 unfold ZC8 at hu
 cases h with
 | str h=>exact ⟨_,rfl,rfl⟩
 | sl h _=>rw [h] at hu;cases hu
 | int h _=>rw [h] at hu;cases hu
 | bool h=>rw [h] at hu;cases hu
 | st h _=>rw [h] at hu;cases hu
def PlainD.inv_bool (h:PlainD P t ds b) (hu:Zyp P t=true):∃q,ds=[.bool q]/\b=1:=by
 unfold Zyp at hu
 cases h with
 | bool h=>exact ⟨_,rfl,rfl⟩
 | sl h _=>rw [h] at hu;cases hu
 | int h _=>rw [h] at hu;cases hu
 | str h=>rw [h] at hu;cases hu
 | st h _=>rw [h] at hu;cases hu
def PlainFs.inv {f:TypeId} {l:List TypeId} (h:PlainFs P (f::l) ds b):∃r ds' b1 c,ds=r++ds'/\b=b1+c/\PlainD P f r b1/\PlainFs P l ds' c:=by
 cases h with
 | cons h1 h2=>exact ⟨_,_,_,_,rfl,rfl,h1,h2⟩
def PlainFs.inv0 (h:PlainFs P [] ds b):ds=[]/\b=0:=by cases h;exact ⟨rfl,rfl⟩
end
end Go.PM
namespace Go.PM.Lex
open Go.Proofs
def plZ:Pl:=fun n=>if n % 2=0 then (n / 2:Nat) else -((n / 2:Nat):Int) - 1
def zc (z:Int):Nat:=if 0<=z then 2 * z.toNat else 2 * (-z - 1).toNat+1
def Zef (z:Int):plZ (zc z)=z:=by
 unfold plZ zc
 by_cases h:0<=z
 ·rw [Tj h,Tj oM];omega
 rw [Tf h,Tf oM];omega
def Zbv {α:Type} {P:Program} {e:TypeId} {enc:α->List D} {sz w:α->Nat} {p:α->Bool}:∀{rows:List (List D)} {b:Nat},PlainRs P e rows b->(∀r c,c<=b->PlainD P e r c->∃x,r=enc x/\sz x+1<=2 * c/\w x+1<=2 * c/\p x=true)->∃xs,rows=xs.map enc/\szS sz xs<=2 * b/\szS w xs<=2 * b/\xs.all p=true
 | [],b,h,hd=>⟨[],rfl,by simp [szS],by simp [szS],rfl⟩
 | r::rows,b,h,hd=>by
  cases h with
  | cons h1 h2 =>
  rename_i b1 c
  obtain ⟨x,rfl,g1,g2,g5⟩:=hd r b1 oM h1;obtain ⟨xs,rfl,g3,g4,g6⟩:=Zbv h2 fun r c' hc=>hd r c' oM
  exact ⟨x::xs,rfl,by simp only [szS];omega,by simp only [szS];omega,by rw [List.all_cons,g5,g6];rfl⟩
def Zyq {n:Int} (h:(Lit.int .u8 n).wf=true):∃k:Nat,n=k:=by
 have:0<=n/\n<=255:=by simpa [Lit.wf,IntKind.min,IntKind.max,IntKind.signed,IntKind.bits] using h
 exact ⟨n.toNat,oM⟩
def ZBn {n:Int} (h:(Lit.int .i64 n).wf=true):ZBA n=true:=by
 have:-9223372036854775808<=n/\n<=9223372036854775807:=by simpa [Lit.wf,IntKind.min,IntKind.max,IntKind.signed,IntKind.bits] using h
 simp only [ZBA,Tm,TQ];omega
def stE:stB Tryz.prog 55 [5,9,2,29,3]=true:=kR
def stL:stB Tryz.prog 57 [5,9,29,30,3]=true:=kR
def ZEw:stB Tryz.prog 32 [9,29,30,3]=true:=kR
def ZEx:stB Tryz.prog 73 [9,9]=true:=kR
def ZEy:stB Tryz.prog 49 [9,43]=true:=kR
def ZEz:stB Tryz.prog 46 [5,9,9,43,44,3]=true:=kR
def ZEA:stB Tryz.prog 51 [9,43,4,4,4,3]=true:=kR
def slE:slB Tryz.prog 29 55=true:=kR
def slL:slB Tryz.prog 30 57=true:=kR
def ZC9:slB Tryz.prog 43 73=true:=kR
def ZEB:slB Tryz.prog 44 49=true:=kR
def ZEC:slB Tryz.prog 22 46=true:=kR
def ZED:slB Tryz.prog 23 51=true:=kR
def ZEE:slB Tryz.prog 24 32=true:=kR
def ZtM:ZC8 Tryz.prog 9=true:=kR
def ZBo:ZBm Tryz.prog 3 .i64=true:=kR
def ZEF:ZBm Tryz.prog 2 .i64=true:=kR
def bU8:ZBm Tryz.prog 5 .u8=true:=kR
def Zyr:Zyp Tryz.prog 4=true:=kR
def ZD0:∀(n:Nat) (ds:List D) (b:Nat),b<=n->PlainD Tryz.prog 55 ds b->∃x,ds=ZQ plZ x/\szE x+1<=2 * b/\wE x+1<=2 * b/\Zfp x=true
 | n,ds,b,hb,h=>by
  obtain ⟨c,rfl,hf⟩:=h.inv_st stE
  cases n with
  | zero=>omega
  | succ n =>
  obtain ⟨_,_,b1,c1,rfl,rfl,h1,hf⟩:=hf.inv;obtain ⟨_,_,b2,c2,rfl,rfl,h2,hf⟩:=hf.inv;obtain ⟨_,_,b3,c3,rfl,rfl,h3,hf⟩:=hf.inv;obtain ⟨_,_,b4,c4,rfl,rfl,h4,hf⟩:=hf.inv;obtain ⟨_,_,b5,c5,rfl,rfl,h5,hf⟩:=hf.inv;obtain ⟨rfl,rfl⟩:=hf.inv0;obtain ⟨q1,rfl,rfl,w1⟩:=h1.inv_int bU8;obtain ⟨q1,rfl⟩:=Zyq w1;obtain ⟨q2,rfl,rfl⟩:=h2.inv_str ZtM;obtain ⟨q3,rfl,rfl,w3⟩:=h3.inv_int ZEF;have p3:=ZBn w3;obtain ⟨rows4,d4,rfl,rfl,y5⟩:=h4.inv_sl slE;obtain ⟨q4,rfl,g4,e4,p4⟩:=Zbv (enc:=ZQ plZ) (sz:=szE) (w:=wE) (p:=Zfp) y5 fun r c hc hd=>ZD0 n r c oM hd
  obtain ⟨q5,rfl,rfl,-⟩:=h5.inv_int ZBo;refine ⟨.mk q1 q2 q3 q4 (zc q5),?_,?_,?_,?_⟩
  ·simp only [ZQ,Zb,Zl,YZ,Zef];rfl
  ·simp only [szE,Y6,Xi,WU];omega
  ·simp only [wE,Xs,X0,VQ];omega
  simp only [Zfp,We,WV,Zau,p3,p4];rfl
def ZBp {b:Nat} {ds:List D} (h:PlainD Tryz.prog 55 ds b):∃x,ds=ZQ plZ x/\szE x+1<=2 * b/\wE x+1<=2 * b/\Zfp x=true:=ZD0 b ds b (Tr _) h
def ZD1:∀(n:Nat) (ds:List D) (b:Nat),b<=n->PlainD Tryz.prog 57 ds b->∃x,ds=Y5 plZ x/\szL x+1<=2 * b/\wL x+1<=2 * b/\Zi0 x=true
 | n,ds,b,hb,h=>by
  obtain ⟨c,rfl,hf⟩:=h.inv_st stL
  cases n with
  | zero=>omega
  | succ n =>
  obtain ⟨_,_,b1,c1,rfl,rfl,h1,hf⟩:=hf.inv;obtain ⟨_,_,b2,c2,rfl,rfl,h2,hf⟩:=hf.inv;obtain ⟨_,_,b3,c3,rfl,rfl,h3,hf⟩:=hf.inv;obtain ⟨_,_,b4,c4,rfl,rfl,h4,hf⟩:=hf.inv;obtain ⟨_,_,b5,c5,rfl,rfl,h5,hf⟩:=hf.inv;obtain ⟨rfl,rfl⟩:=hf.inv0;obtain ⟨q1,rfl,rfl,w1⟩:=h1.inv_int bU8;obtain ⟨q1,rfl⟩:=Zyq w1;obtain ⟨q2,rfl,rfl⟩:=h2.inv_str ZtM;obtain ⟨rows3,d3,rfl,rfl,ud⟩:=h3.inv_sl slE;obtain ⟨q3,rfl,g3,e3,p3⟩:=Zbv (enc:=ZQ plZ) (sz:=szE) (w:=wE) (p:=Zfp) ud fun r c hc hd=>ZBp hd
  obtain ⟨rows4,d4,rfl,rfl,y5⟩:=h4.inv_sl slL;obtain ⟨q4,rfl,g4,e4,p4⟩:=Zbv (enc:=Y5 plZ) (sz:=szL) (w:=wL) (p:=Zi0) y5 fun r c hc hd=>ZD1 n r c oM hd
  obtain ⟨q5,rfl,rfl,-⟩:=h5.inv_int ZBo;refine ⟨.mk q1 q2 q3 q4 (zc q5),?_,?_,?_,?_⟩
  ·simp only [Y5,Zb,Zl,YZ,Zef];rfl
  ·simp only [szL,Y6,Xi,WU];omega
  ·simp only [wL,Xs,X0,VQ];omega
  simp only [Zi0,We,WV,Zau,p3,p4];rfl
def ZDa {b:Nat} {ds:List D} (h:PlainD Tryz.prog 57 ds b):∃x,ds=Y5 plZ x/\szL x+1<=2 * b/\wL x+1<=2 * b/\Zi0 x=true:=ZD1 b ds b (Tr _) h
def ZDb:∀(n:Nat) (ds:List D) (b:Nat),b<=n->PlainD Tryz.prog 32 ds b->∃x,ds=Zy plZ x/\JL x+1<=2 * b/\wRu x+1<=2 * b/\ZdH x=true
 | n,ds,b,hb,h=>by
  obtain ⟨c,rfl,hf⟩:=h.inv_st ZEw
  cases n with
  | zero=>omega
  | succ n =>
  obtain ⟨_,_,b1,c1,rfl,rfl,h1,hf⟩:=hf.inv;obtain ⟨_,_,b2,c2,rfl,rfl,h2,hf⟩:=hf.inv;obtain ⟨_,_,b3,c3,rfl,rfl,h3,hf⟩:=hf.inv;obtain ⟨_,_,b4,c4,rfl,rfl,h4,hf⟩:=hf.inv;obtain ⟨rfl,rfl⟩:=hf.inv0;obtain ⟨q1,rfl,rfl⟩:=h1.inv_str ZtM;obtain ⟨rows2,d2,rfl,rfl,dc⟩:=h2.inv_sl slE;obtain ⟨q2,rfl,g2,e2,p2⟩:=Zbv (enc:=ZQ plZ) (sz:=szE) (w:=wE) (p:=Zfp) dc fun r c hc hd=>ZBp hd
  obtain ⟨rows3,d3,rfl,rfl,ud⟩:=h3.inv_sl slL;obtain ⟨q3,rfl,g3,e3,p3⟩:=Zbv (enc:=Y5 plZ) (sz:=szL) (w:=wL) (p:=Zi0) ud fun r c hc hd=>ZDa hd
  obtain ⟨q4,rfl,rfl,-⟩:=h4.inv_int ZBo;refine ⟨.mk q1 q2 q3 (zc q4),?_,?_,?_,?_⟩
  ·simp only [Zy,Zb,Zl,YZ,Zef];rfl
  ·simp only [JL,Y6,Xi,WU];omega
  ·simp only [wRu,Xs,X0,VQ];omega
  simp only [ZdH,We,WV,Zau,p2,p3];rfl
def ZBq {b:Nat} {ds:List D} (h:PlainD Tryz.prog 32 ds b):∃x,ds=Zy plZ x/\JL x+1<=2 * b/\wRu x+1<=2 * b/\ZdH x=true:=ZDb b ds b (Tr _) h
def ZDc:∀(n:Nat) (ds:List D) (b:Nat),b<=n->PlainD Tryz.prog 73 ds b->∃x,ds=Zk x/\sz0 x+1<=2 * b/\wFi x+1<=2 * b/\(fun _=>true) x=true
 | n,ds,b,hb,h=>by
  obtain ⟨c,rfl,hf⟩:=h.inv_st ZEx
  cases n with
  | zero=>omega
  | succ n =>
  obtain ⟨_,_,b1,c1,rfl,rfl,h1,hf⟩:=hf.inv;obtain ⟨_,_,b2,c2,rfl,rfl,h2,hf⟩:=hf.inv;obtain ⟨rfl,rfl⟩:=hf.inv0;obtain ⟨q1,rfl,rfl⟩:=h1.inv_str ZtM;obtain ⟨q2,rfl,rfl⟩:=h2.inv_str ZtM;refine ⟨.mk q1 q2,?_,?_,?_,?_⟩
  ·simp only [Zk,Zb,Zl,YZ,Zef];rfl
  ·simp only [sz0,Y6,Xi,WU];omega
  ·simp only [wFi,Xs,X0,VQ];omega
  rfl
def Zre {b:Nat} {ds:List D} (h:PlainD Tryz.prog 73 ds b):∃x,ds=Zk x/\sz0 x+1<=2 * b/\wFi x+1<=2 * b/\(fun _=>true) x=true:=ZDc b ds b (Tr _) h
def ZDd:∀(n:Nat) (ds:List D) (b:Nat),b<=n->PlainD Tryz.prog 49 ds b->∃x,ds=Zt x/\ZiW x+1<=2 * b/\wCa x+1<=2 * b/\(fun _=>true) x=true
 | n,ds,b,hb,h=>by
  obtain ⟨c,rfl,hf⟩:=h.inv_st ZEy
  cases n with
  | zero=>omega
  | succ n =>
  obtain ⟨_,_,b1,c1,rfl,rfl,h1,hf⟩:=hf.inv;obtain ⟨_,_,b2,c2,rfl,rfl,h2,hf⟩:=hf.inv;obtain ⟨rfl,rfl⟩:=hf.inv0;obtain ⟨q1,rfl,rfl⟩:=h1.inv_str ZtM;obtain ⟨rows2,d2,rfl,rfl,dc⟩:=h2.inv_sl ZC9;obtain ⟨q2,rfl,g2,e2,p2⟩:=Zbv (enc:=Zk) (sz:=sz0) (w:=wFi) (p:=fun _=>true) dc fun r c hc hd=>Zre hd
  refine ⟨.mk q1 q2,?_,?_,?_,?_⟩
  ·simp only [Zt,Zb,Zl,YZ,Zef];rfl
  ·simp only [ZiW,Y6,Xi,WU];omega
  ·simp only [wCa,Xs,X0,VQ];omega
  rfl
def ZBr {b:Nat} {ds:List D} (h:PlainD Tryz.prog 49 ds b):∃x,ds=Zt x/\ZiW x+1<=2 * b/\wCa x+1<=2 * b/\(fun _=>true) x=true:=ZDd b ds b (Tr _) h
def ZDe:∀(n:Nat) (ds:List D) (b:Nat),b<=n->PlainD Tryz.prog 46 ds b->∃x,ds=Zs plZ x/\Zm9 x+1<=2 * b/\wTy x+1<=2 * b/\(fun _=>true) x=true
 | n,ds,b,hb,h=>by
  obtain ⟨c,rfl,hf⟩:=h.inv_st ZEz
  cases n with
  | zero=>omega
  | succ n =>
  obtain ⟨_,_,b1,c1,rfl,rfl,h1,hf⟩:=hf.inv;obtain ⟨_,_,b2,c2,rfl,rfl,h2,hf⟩:=hf.inv;obtain ⟨_,_,b3,c3,rfl,rfl,h3,hf⟩:=hf.inv;obtain ⟨_,_,b4,c4,rfl,rfl,h4,hf⟩:=hf.inv;obtain ⟨_,_,b5,c5,rfl,rfl,h5,hf⟩:=hf.inv;obtain ⟨_,_,b6,c6,rfl,rfl,h6,hf⟩:=hf.inv;obtain ⟨rfl,rfl⟩:=hf.inv0;obtain ⟨q1,rfl,rfl,w1⟩:=h1.inv_int bU8;obtain ⟨q1,rfl⟩:=Zyq w1;obtain ⟨q2,rfl,rfl⟩:=h2.inv_str ZtM;obtain ⟨q3,rfl,rfl⟩:=h3.inv_str ZtM;obtain ⟨rows4,d4,rfl,rfl,y5⟩:=h4.inv_sl ZC9;obtain ⟨q4,rfl,g4,e4,p4⟩:=Zbv (enc:=Zk) (sz:=sz0) (w:=wFi) (p:=fun _=>true) y5 fun r c hc hd=>Zre hd
  obtain ⟨rows5,d5,rfl,rfl,hr5⟩:=h5.inv_sl ZEB;obtain ⟨q5,rfl,g5,e5,p5⟩:=Zbv (enc:=Zt) (sz:=ZiW) (w:=wCa) (p:=fun _=>true) hr5 fun r c hc hd=>ZBr hd
  obtain ⟨q6,rfl,rfl,-⟩:=h6.inv_int ZBo;refine ⟨.mk q1 q2 q3 q4 q5 (zc q6),?_,?_,?_,?_⟩
  ·simp only [Zs,Zb,Zl,YZ,Zef];rfl
  ·simp only [Zm9,Y6,Xi,WU];omega
  ·simp only [wTy,Xs,X0,VQ];omega
  rfl
def ZBs {b:Nat} {ds:List D} (h:PlainD Tryz.prog 46 ds b):∃x,ds=Zs plZ x/\Zm9 x+1<=2 * b/\wTy x+1<=2 * b/\(fun _=>true) x=true:=ZDe b ds b (Tr _) h
def ZDf:∀(n:Nat) (ds:List D) (b:Nat),b<=n->PlainD Tryz.prog 51 ds b->∃x,ds=ZF plZ x/\ZjS x+1<=2 * b/\wRe x+1<=2 * b/\(fun _=>true) x=true
 | n,ds,b,hb,h=>by
  obtain ⟨c,rfl,hf⟩:=h.inv_st ZEA
  cases n with
  | zero=>omega
  | succ n =>
  obtain ⟨_,_,b1,c1,rfl,rfl,h1,hf⟩:=hf.inv;obtain ⟨_,_,b2,c2,rfl,rfl,h2,hf⟩:=hf.inv;obtain ⟨_,_,b3,c3,rfl,rfl,h3,hf⟩:=hf.inv;obtain ⟨_,_,b4,c4,rfl,rfl,h4,hf⟩:=hf.inv;obtain ⟨_,_,b5,c5,rfl,rfl,h5,hf⟩:=hf.inv;obtain ⟨_,_,b6,c6,rfl,rfl,h6,hf⟩:=hf.inv;obtain ⟨rfl,rfl⟩:=hf.inv0;obtain ⟨q1,rfl,rfl⟩:=h1.inv_str ZtM;obtain ⟨rows2,d2,rfl,rfl,dc⟩:=h2.inv_sl ZC9;obtain ⟨q2,rfl,g2,e2,p2⟩:=Zbv (enc:=Zk) (sz:=sz0) (w:=wFi) (p:=fun _=>true) dc fun r c hc hd=>Zre hd
  obtain ⟨q3,rfl,rfl⟩:=h3.inv_bool Zyr;obtain ⟨q4,rfl,rfl⟩:=h4.inv_bool Zyr;obtain ⟨q5,rfl,rfl⟩:=h5.inv_bool Zyr;obtain ⟨q6,rfl,rfl,-⟩:=h6.inv_int ZBo;refine ⟨.mk q1 q2 q3 q4 q5 (zc q6),?_,?_,?_,?_⟩
  ·simp only [ZF,Zb,Zl,YZ,Zef];rfl
  ·simp only [ZjS,Y6,Xi,WU];omega
  ·simp only [wRe,Xs,X0,VQ];omega
  rfl
def ZBt {b:Nat} {ds:List D} (h:PlainD Tryz.prog 51 ds b):∃x,ds=ZF plZ x/\ZjS x+1<=2 * b/\wRe x+1<=2 * b/\(fun _=>true) x=true:=ZDf b ds b (Tr _) h
end Go.PM.Lex
end

section
namespace Go
variable {H:Type} {enc:TypeId×Value->H}
end Go
namespace Go.PM.Lex
open Go.Proofs Go.Proofs.YtnbhcckbjefnjaaGreatDoor Go.ChangeShapes Go.WideShapes Go.ChangeAt Go.RowKit
def ZDg:ownKnob Tryz.prog.godebug=none:=kR
def ZuE : "*" ++ "errors.errorString" = "*errors.errorString" := by decide
def ZtN (u : TypeId) (h : Tryz.prog.typeName? 3 u = some "*errors.errorString") : u = 369 :=
 typeName_ptr_named (nm := "errors.errorString") (by rw [ZuE]; kernel_rfl) kR dM u (by rw [ZuE]; exact h)
def Zrf {W:World} {n:String} {text:List UInt8} {g:Nat} (hg:Tryz.prog.globalNamed n=some g) (ht:(Tryz.prog.globals[g]?).map (·.type)=some 210)
  (h : laidMet Tryz.prog [(n, .iface "*errors.errorString" (.ptr (.agg [.lit (.string text)])))] W) : ∃ ev, W.cell? ⟨g, 0, none⟩ = some ev /\ (ev = .nilIface \/ ∃ te pe, ev = .iface te pe) := by
 obtain ⟨a1,s1,mg,_⟩:=laid_sentinel h hg ht Tryz.underlying210 ZtN Tryz.underlying369 Tryz.underlying371 rfl rfl Tryz.underlying9 kR kR;refine ⟨.iface 369 (.pointer (some a1)),?_,.inr ⟨_,_,rfl⟩⟩;simpa using World.var?_cell hg mg 0
def ZBu {W:World} (h:laidMetH Tryz.prog Rows.typesNamesRow.laid W) (j6:W.ShapedOpen Tryz.prog):GlobOK W 8:=by
 rw [MakeChecks.laidMetH_plain _ _ _ kR] at h;have h1 := laidMet.filter (fun x => x.1 == "strconv.ErrSyntax") h;have h2 := laidMet.filter (fun x => x.1 == "strconv.ErrRange") h;exact ⟨oM,Tryz.laysM143.s1_3 W j6,Zrf kR kR h1,Zrf kR kR h2⟩
def Zkx:Env:=⟨fun _=>0,fun _=>none,fun _ _=>False,fun _=>none⟩
def ZBv {e':Env} {W W':World} {σ':St} {may:MemPlace->Prop} (h:Later Zkx ⟨[],[],0⟩ W e' σ' W'):W.keptBut W' may:=by
 refine ⟨h.os,h.output,fun i hi=>?_⟩;have:=h.blocks i hi (fun j hj=>by simp at hj) (fun t ht=>by cases ht) rfl;rw [this]
 cases hh:W.heap[i]? with
 | none=>rfl
 | some o=>cases o <;> simp
def Zys {W:World} (h:8<=W.heap.size):SRel (GG W 8) Zkx ⟨[],[],0⟩ W where
 inj:=fun i j hi=>by simp at hi
 box:=fun i x hx=>by simp at hx
 low:=fun i hi=>by simp at hi
 tkn:=fun t ht=>by cases ht
 own:=fun t ht=>by cases ht
 dis:=fun t t' ht=>by cases ht
 xlt:=fun b off hx=>hx.elim
 xown:=fun t ht=>by cases ht
 hid:=fun b q hq=>by cases hq
 glob:=fun b hb=>rfl
 big:=h
end Go.PM.Lex
end

section
namespace Go.PM.Lex
open Go.Proofs Go.Proofs.YtnbhcckbjefnjaaGreatDoor
def ZtO:∀b off,okc Zkx ⟨[],[],0⟩ b off:=fun b off=>⟨fun h=>h,fun i hi=>by simp at hi,(fun t ht=>by cases ht),fun q hq=>by cases hq⟩
section
variable {H:Type} {enc:TypeId×Value->H} {W:World} {nG:Nat}
def ZnI {S:List TypeId} (hS:S.all (Zl8 Tryz.prog S)=true) {t:TypeId} {cs:Array Value} {d:DataW H} {ps:List MemPlace} (ht:t∈S) (h:DataW.Trod enc Tryz.prog W 0 (fun _=>true) true t (.agg cs) d ps) :
  ∃ds b,PlainD Tryz.prog t ds b/\VRel (GG W nG) Zkx ⟨[],[],0⟩ W (.agg (ds.map .d)) (.agg cs)/\b<=Rows.uptoBulk d:=by
 obtain ⟨fuel,hf⟩:=h;obtain ⟨ds,b,h1,h2,h3⟩:=Zbu hS ZtO Rows.uptoBulk Rows.uptoBulkAll (fun _ _=>Tr _) (fun _=>Tr _) (fun _=>Tr _) (fun _=>Tr _) (fun l m=>by simp only [Rows.uptoBulk];omega) (Tr _) (fun _ _=>Tr _) fuel t _ _ ht hf;have hc:(Value.agg cs).cells.toList=cs.toList:=rfl;rw [hc] at h2;refine ⟨ds,b,h1,.agg _ _ (by rw [Td,h2.len,Sr]) (fun i x u hx hu=>?_) (fun u hu=>h2.one u (by simpa using hu)),h3⟩;rw [Th] at hx;obtain ⟨y,hy,rfl⟩:=TC.1 hx;exact .d _ _ (h2.rel i y u hy (by simpa using hu))
end
end Go.PM.Lex
end

section
namespace Go.PM.Lex
open Go.Proofs Go.Proofs.YtnbhcckbjefnjaaGreatDoor
def plainP:List TypeId:=[26,22,23,24,46,51,32,73,43,49,44,55,29,57,30,9,3,5,2,4]
def Zrg:plainP.all (Zl8 Tryz.prog plainP)=true:=kR
def ZEG:stB Tryz.prog 26 [22,23,24]=true:=kR
def ZDh {b:Nat} {ds:List D} (h:PlainD Tryz.prog 26 ds b):∃x:Pr,ds=UC plZ x/\ZbW x+1<=2 * b/\wUn (prU x)+1<=2 * b/\Zlv (prU x)=true:=by
 obtain ⟨c,rfl,hf⟩:=h.inv_st ZEG;obtain ⟨_,_,b1,c1,rfl,rfl,h1,hf⟩:=hf.inv;obtain ⟨_,_,b2,c2,rfl,rfl,h2,hf⟩:=hf.inv;obtain ⟨_,_,b3,c3,rfl,rfl,h3,hf⟩:=hf.inv;obtain ⟨rfl,rfl⟩:=hf.inv0;obtain ⟨rows1,d1,rfl,rfl,bi⟩:=h1.inv_sl ZEC;obtain ⟨q1,rfl,g1,e1,p1⟩:=Zbv (enc:=Zs plZ) (sz:=Zm9) (w:=wTy) (p:=fun _=>true) bi fun r c hc hd=>ZBs hd
 obtain ⟨rows2,d2,rfl,rfl,dc⟩:=h2.inv_sl ZED;obtain ⟨q2,rfl,g2,e2,p2⟩:=Zbv (enc:=ZF plZ) (sz:=ZjS) (w:=wRe) (p:=fun _=>true) dc fun r c hc hd=>ZBt hd
 obtain ⟨rows3,d3,rfl,rfl,ud⟩:=h3.inv_sl ZEE;obtain ⟨q3,rfl,g3,e3,p3⟩:=Zbv (enc:=Zy plZ) (sz:=JL) (w:=wRu) (p:=ZdH) ud fun r c hc hd=>ZBq hd
 refine ⟨⟨q1,q2,q3⟩,rfl,?_,?_,?_⟩
 ·show 1+szS Zm9 q1+szS ZjS q2+szS JL q3+1<=_;omega
 ·simp only [prU,wUn,ZpL,szS];omega
 simp [prU,Zlv,ZdI,p3]
section
variable {H:Type} {enc:TypeId×Value->H} {W:World} {nG:Nat}
def ZtP {cs:Array Value} {d:DataW H} {ps:List MemPlace} (h:DataW.Trod enc Tryz.prog W 0 (fun _=>true) true 26 (.agg cs) d ps) :
  ∃x,VRel (GG W nG) Zkx ⟨[],[],0⟩ W (.agg ((UC plZ x).map .d)) (.agg cs)/\ZbW x+1<=2 * Rows.uptoBulk d/\wUn (prU x)+1<=2 * Rows.uptoBulk d/\Zlv (prU x)=true:=by
 obtain ⟨ds,b,h1,h2,h3⟩:=ZnI (nG:=nG) Zrg dM h;obtain ⟨x,rfl,g1,g2,g3⟩:=ZDh h1;exact ⟨x,h2,oM,oM,g3⟩
end
end Go.PM.Lex
namespace Go.Proofs.YtnbhcckbjefnjaaGreatDoor
open Go.ChangeShapes
variable {P:Program} {H:Type} {enc:TypeId×Value->H} {w:World} {base:Nat} {spare:Nat->Bool} {af8:Bool}
end Go.Proofs.YtnbhcckbjefnjaaGreatDoor
end

section
namespace Go.PM.Lex
open Go.Proofs
variable {w0:World} {nG:Nat}
end Go.PM.Lex
end

section
namespace Go.PM.Lex
open Go.Proofs Go.Proofs.YtnbhcckbjefnjaaGreatDoor
def Zyt:Rows.laid_unicode_utf8_first=Lib.firstData:=kR
def ZtQ:(Rows.laid_unicode_utf8_acceptRanges:DataW Unit)=Lib.acceptData:=kR
def ZBw {W:World} (h:laidMetH Tryz.prog Rows.typesNamesRow.laid W):Lib.Utf8Tabs 0 1 W:=by
 rw [MakeChecks.laidMetH_plain _ _ _ kR] at h;have h1:=Lib.laidMet.reads (d:=Rows.laid_unicode_utf8_first) h (.tail _ (.tail _ (.tail _ (.tail _ (.tail _ (.tail _ (.head _)))))));have h2:=Lib.laidMet.reads (d:=Rows.laid_unicode_utf8_acceptRanges) h (.tail _ (.tail _ (.tail _ (.head _))));rw [Zyt] at h1;rw [ZtQ] at h2;exact utf8Tabs_of_readsT (U8Types.of196 Tryz.laysValid) ⟨kR,kR,kR,kR,kR,kR,kR⟩ h1 h2
variable {w0:World} {nG:Nat}
def ZDi (hb:1<nG) (hT:Lib.Utf8Tabs 0 1 w0):LexC w0 nG where
 name:=ZCl ⟨Zo0,Zaf,Zy0,trivial⟩
 quote:=Zsk ⟨Zsg hb hT,ZbM,Zff,ZbN,ZhT,trivial⟩
end Go.PM.Lex
end

section
namespace Go.PM.Lex
open Go.Proofs Go.Proofs.YtnbhcckbjefnjaaGreatDoor
def ZtR:DataW Unit->List Int
 | .agg xs=>xs.map fun | .lit (.int _ z)=>z | _=>0
 | _=>[]
def Zyu:(Rows.laid_internal_strconv_uint64pow10:DataW Unit)=Lib.tabData .u64 Lib.pow10Tab:=kR
def ZDj:(Rows.laid_math_bits_deBruijn64tab:DataW Unit)=Lib.tabData .u8 (ZtR Rows.laid_math_bits_deBruijn64tab):=kR
def Zyv:(ZtR Rows.laid_math_bits_deBruijn64tab).getD 15 0=4:=kR
def ZBx:(ZtR Rows.laid_math_bits_deBruijn64tab).length=64:=kR
def ZDk {W:World} (h:laidMetH Tryz.prog Rows.typesNamesRow.laid W):NumOK W 8:=by
 rw [MakeChecks.laidMetH_plain _ _ _ kR] at h;have h1 := laidMet.filter (fun x => x.1 == "internal/strconv.uint64pow10") h;have h2 := laidMet.filter (fun x => x.1 == "math/bits.deBruijn64tab") h;have k1 : laidMet Tryz.prog [("internal/strconv.uint64pow10", Lib.tabData .u64 Lib.pow10Tab)] W := by rw [<- Zyu]; exact h1
 have k2 : laidMet Tryz.prog [("math/bits.deBruijn64tab", Lib.tabData .u8 (ZtR Rows.laid_math_bits_deBruijn64tab))] W := by rw [<- ZDj]; exact h2
 refine ⟨dM,Lib.tabIs_of_head (g:=3) (t:=348) kR kR Tryz.underlying348 kR kR kR k1,?_⟩;have k3:=Lib.tabIs_of_head (g:=5) (t:=364) kR kR Tryz.underlying364 kR kR kR k2;have k4:=k3.cell (g:=5) kR 15 (by rw [ZBx];decide);rw [Zyv] at k4;exact k4
end Go.PM.Lex
end

section
namespace Go.PM.Lex
open Go.Proofs Go.Proofs.YtnbhcckbjefnjaaGreatDoor
def Z5 {a b:Bool} (h1:a=true) (h2:b=true):(a && b)=true:=by rw [h1,h2];rfl
def Zrh {P:Program} {f:FuncId} {fn:Func} {s:ChangeSpec} {c:OpenClaim}
  (p1:laidOutB P=true) (p2:mapsRowed P=true) (p3:(P.stops == [])=true) (p4:(P.stopKnobs == [])=true) (p5:(c.plainKeys == P.plainKeys)=true) (p6:P.stopsHeard=true) (p7:P.mayEnter=true) (p8:(c.lifted == P.liftsFinal)=true) (p9:(P.make == some c.make)=true)
  (k1:c.wf (OpenSpec.ofChange s)=true) (k2:fn.params.all (P.readableRec ·)=true) (k3:namedTie P c.named s.vars=true) (k4:(c.stops == [])=true) (k5:(c.knobs == [])=true)
  (k6:(c.inPlace == P.inPlace f)=true) (k7:(c.unfollowed == P.unfollowed f)=true) (k8:(c.recurses == P.recurses f)=true) (k9:(c.named == P.varsNamed f)=true)
  (k10:(c.maps == (fn.params.toList++s.plain.varTypes P).any (P.mapsRec ·))=true) (k11:(c.ifaces == (fn.params.toList++s.plain.varTypes P).any (P.ifacesRec ·))=true) (k12:(c.mapsOut == P.mapsAmong fn.resultTypes.toList)=true)
  (k13:(c.loops == (fn.params.toList++s.plain.varTypes P).any (P.loopsFrom ·))=true) (k14:(c.wideKeys == (fn.params.toList++s.plain.varTypes P++fn.resultTypes.toList).any (P.wideKeysFrom ·))=true)
  (k15:s.vars.all (P.varReadable ·)=true) (k16:fn.resultTypes.all (fun t=>P.readableRec t && decide (t<P.types.size))=true) (k17:(c.ifacesOut == fn.resultTypes.toList.any (P.ifacesRec ·))=true) (k18:(c.loopsOut == fn.resultTypes.toList.any (P.loopsFrom ·))=true)
  (k19:c.shortTexts.isNone=true) (k20:(c.kinds == (if c.domain.isEmpty then [] else fn.params.toList.map fun t=>match P.underlying t with | some (.int k)=>some k | _=>none))=true) (k21:(c.pinned == c.pinnedBy)=true)
  (k22:(c.veiled == (fn.params.toList++s.plain.varTypes P++fn.resultTypes.toList).any (P.veiledRec ·))=true) (k23:c.veiledFits P fn.params.toList (fn.params.toList++s.plain.varTypes P++fn.resultTypes.toList)=true):joinedFacts P f fn s c=true:=by
 unfold joinedFacts
 exact (Z5 (Z5 (Z5 (Z5 (Z5 (Z5 (Z5 (Z5 (Z5 (Z5 (Z5 (Z5 (Z5 (Z5 (Z5 (Z5 (Z5 (Z5 (Z5 (Z5 (Z5 (Z5 (Z5 (Z5 (Z5 (Z5 (Z5 (Z5 (Z5 (Z5 (Z5 k1 p1) p2) k2) k3) k4) p3) k5) p4) k6) k7) k8) k9) k10) k11) k12) k13) k14) k15) k16) k17) k18) p5) k19) p6) p7) p8) p9) k20) k21) k22) k23)
def jp1:laidOutB Tryz.checked.prog=true:=kR
def jp2:mapsRowed Tryz.checked.prog=true:=kR
def jp3:(Tryz.checked.prog.stops == [])=true:=kR
def jp4:(Tryz.checked.prog.stopKnobs == [])=true:=kR
def jp5:(Rows.typesNamesRow.plainKeys == Tryz.checked.prog.plainKeys)=true:=kR
def jp6:Tryz.checked.prog.stopsHeard=true:=kR
def jp7:Tryz.checked.prog.mayEnter=true:=kR
def jp8:(Rows.typesNamesRow.lifted == Tryz.checked.prog.liftsFinal)=true:=kR
def jp9:(Tryz.checked.prog.make == some Rows.typesNamesRow.make)=true:=kR
def jp10:Tryz.checked.prog.mainIs=some (Rows.typesNamesCard.stood.harness.1,Rows.typesNamesCard.stood.harness.2.toList):=kR
def jp11:Rows.typesNamesCard.stood.looks=Tryz.checked.prog.looks []:=kR
end Go.PM.Lex
end
