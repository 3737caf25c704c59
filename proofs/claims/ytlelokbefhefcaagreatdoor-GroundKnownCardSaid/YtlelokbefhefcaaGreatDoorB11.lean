/- A part of the proof: plain logic, contracts and laws over the given program. -/
import Derived.Test.YtlelokbefhefcaaGreatDoorRows
import Derived.Test.YtlelokbefhefcaaGreatDoorTie
import Derived.Test.YtlelokbefhefcaaGreatDoorCards
import Derived.ProofKit
import Derived.OpenShut
import Derived.LaidMore
import Derived.Lay
import Derived.LaidSub
import Derived.SevenTiedAt
import Derived.Stop.Joined
import Derived.Stop.LaidErr
import Derived.Lib.LaidU8T
import Derived.Lib.LaidTab
import Derived.JoinedOf
import Derived.Test.YtlelokbefhefcaaGreatDoorB10
set_option linter.unusedVariables false
set_option linter.unusedSimpArgs false
set_option linter.all false
set_option maxRecDepth 100000
set_option maxHeartbeats 16000000
noncomputable section
section
namespace Go.PM.Lex
open Go.Proofs
variable {w0:World} {nG:Nat}
def words24:List Bs:=[[116,121,112,101],[100,101,99,108],[105,110,112,117,116],[111,117,116,112,117,116],[105,110,108,105,110,101],[99,111,109,112],[105,110,105,116],[111,118,101,114,114,105,100,101],[110,105,108],[99,111,117,110,116],[115,117,109],[109,105,110],[109,97,120],[98,111,114],[98,120,111,114],[98,97,110,100],[115,104,108],[115,104,114],[99,97,116],[115,116,114,108,101,110],[115,117,98,115,116,114],[99,111,100,101],[115,116,114],[110,117,109]]
def ZCZ (s:Bs):Zbg s=words24.contains s:=by
 unfold Zbg ZR words24 keptWords
 simp only [List.contains_cons,List.contains_nil,Si]
 by_cases h1:s=[99,97,116]
 ·subst h1;decide
 by_cases h2:s=[115,116,114,108,101,110]
 ·subst h2;decide
 by_cases h3:s=[115,117,98,115,116,114]
 ·subst h3;decide
 by_cases h4:s=[99,111,100,101]
 ·subst h4;decide
 by_cases h5:s=[115,116,114]
 ·subst h5;decide
 by_cases h6:s=[110,117,109]
 ·subst h6;decide
 have q1:(s == [99,97,116])=false:=by simpa using h1
 have q2:(s == [115,116,114,108,101,110])=false:=by simpa using h2
 have q3:(s == [115,117,98,115,116,114])=false:=by simpa using h3
 have q4:(s == [99,111,100,101])=false:=by simpa using h4
 have q5:(s == [115,116,114])=false:=by simpa using h5
 have q6:(s == [110,117,109])=false:=by simpa using h6
 simp only [Tf h1,Tf h2,Tf h3,Tf h4,Tf h5,Tf h6,q1,q2,q3,q4,q5,q6,Si,ne_eq,not_true_eq_false,decide_false]
def ZcO:Zk:=fun args σ K=>match args,σ with
 | [.d (.str s)],⟨[],[],0⟩=>∀b,Zbg s=b->K (.ret (.d (.bool b))) ⟨[],[],0⟩
 | _,_=>False
def ZjB:PC w0 nG 150 ZcO:=by
 refine pwe Tryz.func150 fun args σ K h=>?_
 unfold ZcO at h
 split at h
 ·rename_i s
  rw [ZCZ] at h;refine pwv [(3,⟨[4],[0,3],fun vs σ=>∃i:Nat,vs=[.d (.int .i64 i)]/\σ=⟨[],[],0⟩/\i<=words24.length/\words24.contains s=(words24.drop i).contains s,mu1 words24.length⟩)] 0 false ?_;refine ⟨⟨0,rfl,rfl,dM,rfl⟩,?_⟩;intro vs σ hI
  obtain ⟨i,rfl,rfl,hi,hc⟩:=hI;have hn:words24.length=24:=rfl;(conv=>whnf);refine ZGg (fun ab=>wN ?_) (fun ab=>?_)
  ·have ab:i<words24.length:=by have ab:(i:Int)<24:=ab;omega
   have cf:(words24.map fun w=>[D.str w])[((i:Nat):Int).toNat]?=some [D.str words24[i]]:=by simp [ab]
   obtain ⟨wd,hwd⟩:∃x,words24[i]=x:=⟨_,rfl⟩
   rw [Tk ab,List.contains_cons] at hc;rw [hwd] at cf hc;refine ⟨_,oM,cf,wN ?_⟩;refine ZGg (fun he=>wN ?_) (fun he=>wN ?_)
   ·exact h _ (by rw [hc,he];simp)
   refine Zi ?_;have ai:(s == wd)=false:=by simpa using fun g:s=wd=>he g.symm
   refine ⟨⟨i+1,rfl,rfl,oM,by rw [hc,ai,Bool.false_or]⟩,?_⟩;exact lzM oM
  have ab:i=words24.length:=by have ab:¬(i:Int)<24:=ab;omega
  subst ab;rw [Sw] at hc;(conv=>whnf);exact h _ hc
 exact h.elim
end Go.PM.Lex
end

section
namespace Go.PM.Lex
open Go.Proofs
variable {w0:World} {nG:Nat}
def ZGr {α β:Type} {x:R α} {f:α->Ts->R β} {v:β} {t:Ts} (h:x.bind f=.ok v t):∃a t1,x=.ok a t1/\f a t1=.ok v t:=by
 cases x with
 | ok a t1=>exact ⟨a,t1,rfl,h⟩
 | err r e=>cases h
def Zer {w:Bs} {ts t1:Ts} {u:Unit} (h:ZP w ts=.ok u t1):isW ts [w]=true/\t1=ts.tail:=by
 unfold ZP at h;split at h
 ·cases h;exact ⟨by assumption,rfl⟩
 cases h
def ZhR {ts t1:Ts} {s:Bs} (h:YO ts=.ok s t1):ZE ts=true/\s=(hd ts).text/\t1=ts.tail:=by
 unfold YO at h;split at h
 ·cases h;exact ⟨by assumption,rfl,rfl⟩
 cases h
def Zes {α:Type} {d:Nat} {fr tt:Bs} {rd:Ts->R α} {ts t1:Ts} {x:α} (h:Zp d fr tt rd ts=.ok x t1):isW ts [fr]=true/\(∃e,d=e+1)/\∃t2,rd ts.tail=.ok x t2/\(tt=[]/\t1=t2\/tt≠[]/\isW t2 [tt]=true/\t1=t2.tail):=by
 unfold Zp at h
 split at h
 ·split at h
  ·cases h
  obtain ⟨y,t2,h1,h⟩:=ZGr h;refine ⟨by assumption,⟨d - 1,oM⟩,?_⟩;split at h
  ·cases h;exact ⟨_,h1,.inl ⟨by assumption,rfl⟩⟩
  obtain ⟨u,t3,h2,h⟩:=ZGr h
  cases h
  exact ⟨_,h1,.inr ⟨by assumption,Zer h2⟩⟩
 cases h
structure IK (L:List Tok) (a dp:Int) (d:Nat) (ts:Ts):Prop extends ROK L a ts where
 dpe:dp=64 - (d:Int)
 d64:d<=64
 kinds:∀x∈L,1<=x.kind/\x.kind<=4
section
variable {L:List Tok} {a dp:Int} {d:Nat} {ts:Ts}
def IK.tl (h:IK L a dp d ts) (hn:ts≠[]):IK L (a+1) dp d ts.tail:=⟨h.toROK.tl hn,h.dpe,h.d64,h.kinds⟩
def IK.inr (h:IK L a dp d ts):InR .i64 a:=by have:=h.lo;have:=h.hi;have:=h.big;exact InR.i64 oM oM
def IK.nil (h:IK L a dp d ts) (hc:¬a<((Zz L).length:Int)):ts=[]:=by
 rw [ZU] at hc;have:=h.len;exact TU oM
def IK.lt (h:IK L a dp d ts) (hn:ts≠[]):a<((Zz L).length:Int):=by
 rw [ZU];have:=h.len;cases ts with | nil=>exact absurd rfl hn | cons t ts=>simp only [Te] at this;omega
def IK.at' (h:IK L a dp d ts) (n:Nat) (hc:a+n<((Zz L).length:Int)):0<=a+n/\∃x,(Zz L)[(a+n).toNat]?=some (Zwu x)/\hd (ts.drop n)=x.t0/\ts.drop n≠[]/\(1<=x.kind/\x.kind<=4)/\∀en,Zb L en (ts.drop n).length=x.at':=by
 rw [ZU] at hc;have h0:=h.lo;have hlen:=h.len;have aa:(a+n).toNat<L.length:=oM;have hq:ts.drop n=L[(a+n).toNat].t0::ts.drop (n+1):=by
  have he:=h.eq;simp only [tz] at he;rw [<- he,<- List.map_drop,TL,show a.toNat+n=(a+n).toNat by omega,Tk aa,Tz,<- List.map_drop,TL,show (a+n).toNat+1=a.toNat+(n+1) by omega]
 refine ⟨oM,L[(a+n).toNat],by simp [Zz,aa],by rw [hq];rfl,by rw [hq];simp,h.kinds _ (TC aa),fun en=>?_⟩;unfold Zb
 rw [Tx,show L.length - (ts.length - n)=(a+n).toNat by omega,Tk aa]
def IK.at0 (h:IK L a dp d ts) (hc:a<((Zz L).length:Int)):0<=a/\∃x,(Zz L)[a.toNat]?=some (Zwu x)/\hd ts=x.t0/\ts≠[]/\(1<=x.kind/\x.kind<=4)/\∀en,Zb L en ts.length=x.at':=by
 have g:=h.at' 0 (by simpa using hc);simpa using g
end
abbrev U9 (t:TypeId) (L:List Tok) (a en dp:Int):Box:=.cells t [.d (.sl (Zz L)),.d (.int .i64 a),.d (.int .i64 en),.d (.int .i64 dp),.d (.int .i64 0),.d (.int .i64 0)]
abbrev KI:=PV->Nat->Ts->Prop
def iSp (body:List PV->Pl->Nat->Ts->KI->Prop):Zk:=fun args σ K=>match args,σ with
 | .ptr 0 0::rest,⟨[.cells t [.d (.sl rows),.d (.int .i64 a),.d (.int .i64 en),.d (.int .i64 dp),.d (.int .i64 w),.d (.int .i64 q)]],[],0⟩=>∃L d ts,(rows=Zz L/\w=0/\q=0)/\IK L a dp d ts /\
   body rest (Zb L en) d ts fun v d' ts'=>∀a' dp',a<=a'->IK L a' dp' d' ts'->K (.ret v) ⟨[U9 t L a' en dp'],[],0⟩
 | _,_=>False
def XP:Zk:=iSp fun rest pl d ts K=>match rest with
 | [.d (.int .i64 m),.d (.str w)]=>∃n:Nat,(m=n/\n<=1)/\∀b,isW (ts.drop n) [w]=b->K (.d (.bool b)) d ts
 | _=>False
def UX:Zk:=iSp fun rest pl d ts K=>match rest with
 | [.d (.int .i64 m)]=>m=0/\∀b,ZE ts=b->K (.d (.bool b)) d ts
 | _=>False
def UC:Zk:=iSp fun rest pl d ts K=>match rest with
 | []=>∀b,ZS ts=b->K (.d (.bool b)) d ts
 | _=>False
def J3:Zk:=iSp fun rest pl d ts K=>match rest with
 | []=>K (.d (.int .i64 (pl ts.length))) d ts
 | _=>False
def UD:Zk:=iSp fun rest pl d ts K=>match rest with
 | [.d (.str w)]=>isW ts [w]=true/\K (.tuple []) d ts.tail
 | _=>False
def J4:Zk:=iSp fun rest pl d ts K=>match rest with
 | [.d (.str w)]=>isW ts [w]=true/\∃e,d=e+1/\K (.tuple []) e ts.tail
 | _=>False
def ZbF:Zk:=iSp fun rest pl d ts K=>match rest with
 | [.d (.str w)]=>(isW ts [w]=true/\d<64)/\K (.tuple []) (d+1) ts.tail
 | _=>False
def ZbG:Zk:=iSp fun rest pl d ts K=>match rest with
 | []=>ZE ts=true/\K (.d (.str (hd ts).text)) d ts.tail
 | _=>False
def ZbH:Zk:=iSp fun rest pl d ts K=>match rest with
 | [.d (.int .i64 n),.d (.int .i64 m)]=>n<m/\K (.tuple []) d ts
 | _=>False
def iR {α:Type} (enc:Pl->α->PV) (P:Nat->Ts->R α) (ok:Nat->Prop):Zk:=iSp fun rest pl d ts K=>match rest with
 | []=>ok d/\∃x t1,P d ts=.ok x t1/\K (enc pl x) d t1
 | _=>False
def Zet:PC w0 nG 252 Xi:=by
 refine pwe Tryz.func252 fun args σ K h=>?_
 exact mq87
def ZaR:PC w0 nG 99 J3:=by
 refine pwe Tryz.func99 fun args σ K h=>?_
 unfold J3 iSp at h
 split at h
 ·rename_i rest t rows a en dp w q
  obtain ⟨L,d,ts,⟨rfl,rfl,rfl⟩,ho,h⟩:=h;split at h
  ·refine pwv [] 1 false ?_;refine ZGg (fun hc=>wN ?_) (fun hc=>?_)
   ·obtain ⟨h0,x,hx,fc,ai,iu,ec⟩:=ho.at0 hc;rw [ec] at h;refine ⟨_,h0,hx,wN ?_⟩;exact h _ _ oM ho
   obtain rfl:=ho.nil hc;rw [Tg,Us] at h;(conv=>whnf);exact h _ _ oM ho
  exact h.elim
 exact h.elim
def XA:PC w0 nG 54 XP:=by
 refine pwe Tryz.func54 fun args σ K h=>?_
 unfold XP iSp at h
 split at h
 ·rename_i rest t rows a en dp w q
  obtain ⟨L,d,ts,⟨rfl,rfl,rfl⟩,ho,h⟩:=h;split at h
  ·rename_i m wd
   obtain ⟨n,⟨rfl,hn⟩,h⟩:=h;have r1:=ho.lo;have r2:=ho.hi;have r3:=ho.big;refine pwv [] 1 false ?_;refine Zi ?_;refine ZGg (fun hc=>wN ?_) (fun hc=>wN ?_)
   ·have hc:((Zz L).length:Int)<=a+n:=hc;rw [ZU] at hc;have hlen:=ho.len;exact h _ (by rw [Tp oM];rfl) _ _ oM ho
   have hc:a+n<((Zz L).length:Int):=by have hc:¬((Zz L).length:Int)<=a+n:=hc;omega
   obtain ⟨h0,x,hx,fc,ai,iu,ec⟩:=ho.at' n hc;have hv:isW (ts.drop n) [wd]=((decide (x.kind=1) || decide (x.kind=4)) && (x.text == wd)):=by
    simp only [isW,fc,List.contains_cons,List.contains_nil,Si];rfl
   rw [hv] at h;refine ⟨_,h0,hx,wN ?_⟩;refine ZGg (fun h1=>wN ?_) (fun h1=>wN ?_)
   ·refine ZGg (fun h2=>wN ?_) (fun h2=>wN ?_)
    ·have h2:x.kind=1:=by have h2:(x.kind:Int)=1:=h2;omega
     exact h _ (by rw [h1,h2];simp) _ _ oM ho
    have h2:¬x.kind=1:=by have h2:¬(x.kind:Int)=1:=h2;omega
    exact h _ (by rw [h1];simp [h2];omega) _ _ oM ho
   have h1:(x.text == wd)=false:=by simpa using h1
   exact h _ (by rw [h1,Bool.and_false]) _ _ oM ho
  exact h.elim
 exact h.elim
def ZrT:Tbl:=[(150,ZcO)]
def ZaS:PC w0 nG 93 UX:=by
 refine pwt (tbl:=ZrT) ⟨ZjB,trivial⟩ Tryz.func93 fun args σ K h=>?_
 unfold UX iSp at h
 split at h
 ·rename_i rest t rows a en dp w q
  obtain ⟨L,d,ts,⟨rfl,rfl,rfl⟩,ho,h⟩:=h;split at h
  ·obtain ⟨rfl,h⟩:=h;refine pwv [] 1 false ?_;refine Or.inl ⟨by rw [Int.add_zero];exact ho.inr,?_⟩;rw [Int.add_zero];(conv=>whnf);refine ZGg (fun hc=>wN ?_) (fun hc=>?_)
   ·obtain ⟨h0,x,hx,fc,ai,iu,ec⟩:=ho.at0 hc;rw [ZE,fc] at h;have hv:∀b,(decide (x.kind=1) && (!decide (x.text=[95]) && !Zbg x.text))=b->∀a' dp',a<=a'->IK L a' dp' d ts->K (.ret (.d (.bool b))) ⟨[U9 t L a' en dp'],[],0⟩:=h;refine ⟨_,h0,hx,wN ?_⟩;refine ZGg (fun h1=>wN ?_) (fun h1=>wN ?_)
    ·have h1:x.kind=1:=by have h1:(x.kind:Int)=1:=h1;omega
     refine ⟨_,h0,hx,wN ?_⟩;refine ZGi (fun h2=>wN ?_) (fun h2=>wN ?_)
     ·refine ⟨_,h0,hx,wN ?_⟩;intro b hb
      cases b
      all_goals
       conv=>whnf
       exact hv _ (by rw [h1,hb];simpa using h2) _ _ oM ho
     have h2:x.text=[95]:=by simpa using h2
     exact hv _ (by rw [h2];simp) _ _ oM ho
    have h1:¬x.kind=1:=by have h1:¬(x.kind:Int)=1:=h1;omega
    exact hv _ (by rw [decide_eq_false h1,TP]) _ _ oM ho
   obtain rfl:=ho.nil hc;(conv=>whnf);exact h _ rfl _ _ oM ho
  exact h.elim
 exact h.elim
def ZuD:Tbl:=[(54,XP)]
def UY:PC w0 nG 151 UD:=by
 refine pwt (tbl:=ZuD) ⟨XA,trivial⟩ Tryz.func151 fun args σ K h=>?_
 unfold UD iSp at h
 split at h
 ·rename_i rest t rows a en dp w q
  obtain ⟨L,d,ts,⟨rfl,rfl,rfl⟩,ho,h⟩:=h;split at h
  ·obtain ⟨hw,h⟩:=h;refine pwv [] 1 false ?_;refine ⟨L,d,ts,⟨rfl,rfl,rfl⟩,ho,0,⟨rfl,oM⟩,fun b hb=>?_⟩;obtain rfl:b=true:=hb.symm.trans hw;intro a1 dp1 ca ah
   have hn:=ah.tl (YA hw);(conv=>whnf);refine Or.inl ⟨hn.inr,wN ?_⟩;exact h _ _ oM hn
  exact h.elim
 exact h.elim
def ZuE:Tbl:=[(54,XP),(151,UD)]
def ZaT:PC w0 nG 154 J4:=by
 refine pwt (tbl:=ZuE) ⟨XA,UY,trivial⟩ Tryz.func154 fun args σ K h=>?_
 unfold J4 iSp at h
 split at h
 ·rename_i rest t rows a en dp w q
  obtain ⟨L,d,ts,⟨rfl,rfl,rfl⟩,ho,h⟩:=h;split at h
  ·obtain ⟨hw,e,rfl,h⟩:=h;refine pwv [] 1 false ?_;refine ⟨L,_,ts,⟨rfl,rfl,rfl⟩,ho,0,⟨rfl,oM⟩,fun b hb=>?_⟩;obtain rfl:b=true:=hb.symm.trans hw;intro a1 dp1 ca ah
   have z1:=ah.dpe;(conv=>whnf);refine ZGg (fun hc=>absurd (show dp1=64 from hc) oM) (fun hc=>wN ?_);refine ⟨L,_,ts,⟨rfl,rfl,rfl⟩,ah,hw,?_⟩;intro a2 dp2 cy af
   have z2:=af.dpe;have z3:=af.d64;(conv=>whnf);refine Zi ?_;exact h _ _ oM ⟨af.toROK,oM,oM,af.kinds⟩
  exact h.elim
 exact h.elim
def ZuF:Tbl:=[(151,UD)]
def ZcP:PC w0 nG 155 ZbF:=by
 refine pwt (tbl:=ZuF) ⟨UY,trivial⟩ Tryz.func155 fun args σ K h=>?_
 unfold ZbF iSp at h
 split at h
 ·rename_i rest t rows a en dp w q
  obtain ⟨L,d,ts,⟨rfl,rfl,rfl⟩,ho,h⟩:=h;split at h
  ·obtain ⟨⟨hw,aht⟩,h⟩:=h;refine pwv [] 1 false ?_;refine ⟨L,_,ts,⟨rfl,rfl,rfl⟩,ho,hw,?_⟩;intro a2 dp2 cy af
   have z2:=af.dpe;(conv=>whnf);refine Zi ?_;exact h _ _ oM ⟨af.toROK,oM,oM,af.kinds⟩
  exact h.elim
 exact h.elim
def ZuG:Tbl:=[(93,UX)]
def ZcQ:PC w0 nG 100 ZbG:=by
 refine pwt (tbl:=ZuG) ⟨ZaS,trivial⟩ Tryz.func100 fun args σ K h=>?_
 unfold ZbG iSp at h
 split at h
 ·rename_i rest t rows a en dp w q
  obtain ⟨L,d,ts,⟨rfl,rfl,rfl⟩,ho,h⟩:=h;split at h
  ·obtain ⟨hw,h⟩:=h;refine pwv [] 1 false ?_;refine ⟨L,_,ts,⟨rfl,rfl,rfl⟩,ho,rfl,fun b hb=>?_⟩;obtain rfl:b=true:=hb.symm.trans hw;intro a1 dp1 ca ah
   have ai:=ZdE hw;have hn:=ah.tl ai;obtain ⟨h0,x,hx,fc,_⟩:=ah.at0 (ah.lt ai);rw [fc] at h;(conv=>whnf);refine Or.inl ⟨hn.inr,wN ?_⟩;refine Or.inl ⟨by rw [TQ];exact ah.inr,?_⟩;rw [TQ];(conv=>whnf);refine ⟨_,h0,hx,wN ?_⟩;exact h _ _ oM hn
  exact h.elim
 exact h.elim
def ZcR:PC w0 nG 94 ZbH:=by
 refine pwe Tryz.func94 fun args σ K h=>?_
 unfold ZbH iSp at h
 split at h
 ·rename_i rest t rows a en dp w q
  obtain ⟨L,d,ts,⟨rfl,rfl,rfl⟩,ho,h⟩:=h;split at h
  ·rename_i n m
   obtain ⟨aa,h⟩:=h;refine pwv [] 1 false ?_;refine ZGg (fun hc=>absurd (show n>=m from hc) oM) (fun hc=>wN ?_);exact h _ _ oM ho
  exact h.elim
 exact h.elim
end Go.PM.Lex
end

section
namespace Go.PM.Lex
open Go.Proofs
variable {w0:World} {nG:Nat}
def Zeu {α:Type} (sign:Bs) (one:Ts->R α):Nat->List α->Ts->R (List α)
 | 0,_,_=>.err 0 150
 | f+1,l,ts=>(one ts).bind fun x ts=>if isW ts [sign]=true then Zeu sign one f (l++[x]) ts.tail else .ok (l++[x]) ts
def UZ {α:Type} {sign:Bs} {one:Ts->R α} {f:Nat} {l x:List α} {ts t1:Ts} (h:Zeu sign one f l ts=.ok x t1):∃g v t2,f=g+1/\one ts=.ok v t2/\(isW t2 [sign]=true->Zeu sign one g (l++[v]) t2.tail=.ok x t1)/\(isW t2 [sign]=false->x=l++[v]/\t1=t2):=by
 cases f with
 | zero=>cases h
 | succ g =>
 obtain ⟨v,t2,h1,h⟩:=ZGr h;refine ⟨g,v,t2,rfl,h1,fun hb=>?_,fun hb=>?_⟩
 ·rwa [Tj hb] at h
 rw [Tf (by rw [hb];simp)] at h;cases h;exact ⟨rfl,rfl⟩
def Zev (fin:Bs) (ts:Ts):R (List Fi):=if isW ts [fin]=true then .ok [] ts else Zeu [44] Va 12 [] ts
def ZC0 (ts:Ts):R Ca:=(YO ts).bind fun a ts=>(ZP [123] ts).bind fun _ ts=>(Zev [125] ts).bind fun l ts=>(ZP [125] ts).bind fun _ ts=>.ok ⟨a,l⟩ ts
def ZrU (t0:Ts):R Ty:=(YO t0).bind fun nm ts =>
 if isW ts [[60,58]]=true then (YO ts.tail).bind fun b ts=>.ok ⟨1,nm,b,[],[],t0.length⟩ ts
 else (ZP [61] ts).bind fun _ ts =>
  if isW ts [[91]]=true then (Zev [93] ts.tail).bind fun l ts=>(ZP [93] ts).bind fun _ ts=>.ok ⟨2,nm,[],l,[],t0.length⟩ ts
  else (Zeu [124] ZC0 64 [] ts).bind fun l ts=>.ok ⟨3,nm,[],[],l,t0.length⟩ ts
def Zgq:Nat->Bool->Bool->Bool->Ts->R (Bool×Bool×Bool)
 | 0,_,_,_,_=>.err 0 150
 | f+1,i,o,n,ts=>if isW ts [[105,110,112,117,116]]=true/\i=false then Zgq f true o n ts.tail
   else if isW ts [[111,117,116,112,117,116]]=true/\o=false then Zgq f i true n ts.tail
   else if isW ts [[105,110,108,105,110,101]]=true/\n=false then Zgq f i o true ts.tail
   else .ok (i,o,n) ts
def ZAa (t0:Ts):R Re:=(YO t0).bind fun nm ts=>(ZP [40] ts).bind fun _ ts=>(Zev [41] ts).bind fun l ts=>(ZP [41] ts).bind fun _ ts =>
 (Zgq 4 false false false ts).bind fun r ts=>.ok ⟨nm,l,r.1,r.2.1,r.2.2,t0.length⟩ ts
def ZAF (L:List Tok):List PV->St->Nat:=fun _ σ=>match σ with | ⟨.cells _ [_,.d (.int _ i),_,_,_,_]::_,_,_⟩=>((L.length:Int) - i).toNat | _=>0
def ZaU:Zk:=iSp fun rest pl d ts K=>match rest with
 | [.d (.str w)]=>∃x t1,Zev w ts=.ok x t1/\K (.d (.sl (x.map Zn))) d t1
 | _=>False
def U0:Tbl:=[(54,XP),(93,UX),(94,ZbH),(100,ZbG),(151,UD)]
def VN:TO w0 nG U0:=⟨XA,ZaS,ZcR,ZcQ,UY,trivial⟩
def Zgr:PC w0 nG 152 ZaU:=by
 refine pwt (tbl:=U0) VN Tryz.func152 fun args σ K h=>?_
 unfold ZaU iSp at h
 split at h
 ·rename_i rest t rows a en dp w q
  obtain ⟨L,d,ts,⟨rfl,rfl,rfl⟩,ho,h⟩:=h;split at h
  ·rename_i wd
   obtain ⟨x,t1,hx,h⟩:=h;unfold Zev at hx
   refine pwv [(4,⟨[5],[0],fun vs σ=>∃(l:List Fi) (f:Nat) (a' dp':Int) (ts':Ts),vs=[.sl 0 192 (l.map Zn)]/\σ=⟨[U9 t L a' en dp'],[0],1⟩/\a<=a'/\IK L a' dp' d ts'/\l.length+f=12/\Zeu [44] Va f l ts'=.ok x t1,ZAF L⟩)] 1 false ?_;refine ⟨L,d,ts,⟨rfl,rfl,rfl⟩,ho,0,⟨rfl,oM⟩,fun b0 dr=>?_⟩;have dr:isW ts [wd]=b0:=dr;rw [dr] at hx;intro a1 dp1 ca ah
   cases b0 with
   | true =>
    rw [Tj rfl] at hx
    cases hx
    conv=>whnf
    exact h _ _ oM ah
   | false =>
   rw [Tf sM] at hx;(conv=>whnf);refine ⟨⟨[],12,a1,dp1,ts,rfl,rfl,oM,ah,rfl,hx⟩,?_⟩;intro vs σ hI
   obtain ⟨l,f,a2,dp2,ts2,rfl,rfl,cy,af,hf,hx⟩:=hI;obtain ⟨g,v,t2,rfl,hv,hm,he⟩:=UZ hx;obtain ⟨s1,u1,g1,hv⟩:=ZGr hv;obtain ⟨cz,rfl,rfl⟩:=ZhR g1;obtain ⟨_,u2,g2,hv⟩:=ZGr hv;obtain ⟨ii,rfl⟩:=Zer g2;obtain ⟨s3,u3,g3,hv⟩:=ZGr hv;obtain ⟨mz,rfl,rfl⟩:=ZhR g3
   cases hv
   conv=>whnf
   refine ⟨L,_,_,⟨rfl,rfl,rfl⟩,af,rfl,fun b hb=>?_⟩;obtain rfl:b=true:=hb.symm.trans cz;intro a3 dp3 dc ak
   have nv:(l.map Zn).length<=12:=by rw [Td];omega
   conv=>whnf
   refine ⟨L,_,_,⟨rfl,rfl,rfl⟩,ak,(by rw [Td];omega),?_⟩;intro a4 dp4 ei bz
   conv=>whnf
   refine ⟨L,_,_,⟨rfl,rfl,rfl⟩,bz,cz,?_⟩;intro a5 dp5 iz cj
   conv=>whnf
   refine ⟨L,_,_,⟨rfl,rfl,rfl⟩,cj,ii,?_⟩;intro a6 dp6 nf et
   conv=>whnf
   refine ⟨L,_,_,⟨rfl,rfl,rfl⟩,et,mz,?_⟩;intro a7 dp7 wl ik
   conv=>whnf
   refine ⟨Tq.2 rfl,(show ((l.map Zn).length+1) * 32<=2 ^ 47 by omega),(show (l.map Zn).length+1<=2 ^ 47 by omega),wN ?_⟩;refine ⟨L,_,_,⟨rfl,rfl,rfl⟩,ik,0,⟨rfl,oM⟩,fun b hb=>?_⟩;intro a8 dp8 wm ir
   cases b with
   | true =>
    have hn:=ir.tl (YA hb);have hh:=hn.hi;(conv=>whnf);refine Or.inl ⟨hn.inr,wN ?_⟩;refine ⟨⟨l++[_],g,_,_,_,by rw [TS];rfl,rfl,oM,hn,by rw [Ta];simp only [Te,Tg];omega,hm hb⟩,?_⟩;show ((L.length:Int) - (a8+1)).toNat<((L.length:Int) - a2).toNat;omega
   | false =>
   obtain ⟨rfl,rfl⟩:=he hb;rw [TS] at h;(conv=>whnf);exact h _ _ oM ir
  exact h.elim
 exact h.elim
def ZhS:Zk:=iR (fun pl v=>Ut (Zs pl v)) (fun _=>ZrU) (fun _=>True)
def ZrV:Tbl:=(99,J3)::(152,ZaU)::U0
def ZrW:PC w0 nG 95 ZhS:=by
 refine pwt (tbl:=ZrV) ⟨ZaR,Zgr,VN⟩ Tryz.func95 fun args σ K h=>?_
 unfold ZhS iR iSp at h
 split at h
 ·rename_i rest t rows a en dp w q
  obtain ⟨L,d,ts,⟨rfl,rfl,rfl⟩,ho,h⟩:=h;split at h
  ·obtain ⟨_,x,t1,hx,h⟩:=h;unfold ZrU at hx
   obtain ⟨s1,u1,g1,hx⟩:=ZGr hx;obtain ⟨cz,rfl,rfl⟩:=ZhR g1;obtain ⟨xl,hxl⟩:∃xl:List Ca,x.cases=xl:=⟨_,rfl⟩
   refine pwu [(16,⟨[],[0,2,3],fun vs σ=>∃(l:List Ca) (f:Nat) (a' dp':Int) (ts':Ts),vs=[] /\
     σ=⟨[U9 t L a' en dp',.cells 144 [.d (.int .u8 0),.d (.str []),.d (.str []),.sl 0 192 [],.sl 1 151 [],.d (.int .i64 0)],
      .cells 144 [.d (.int .u8 3),.d (.str (hd ts).text),.d (.str []),.sl 2 192 [],.sl 3 151 (l.map Zy),.d (.int .i64 (Zb L en ts.length))]],[3,2,1,0],4⟩/\a<=a'/\IK L a' dp' d ts'/\l.length+f=64/\Zeu [124] ZC0 f l ts'=.ok xl t1,ZAF L⟩)] 1 false ?_
   conv=>whnf
   refine ⟨L,_,_,⟨rfl,rfl,rfl⟩,ho,?_⟩;intro a1 dp1 ca ah
   conv=>whnf
   refine ⟨L,_,_,⟨rfl,rfl,rfl⟩,ah,cz,?_⟩;intro a2 dp2 cy af
   conv=>whnf
   refine ⟨L,_,_,⟨rfl,rfl,rfl⟩,af,0,⟨rfl,oM⟩,fun b1 bv=>?_⟩;have bv:isW ts.tail [[60,58]]=b1:=bv;rw [bv] at hx;intro a3 dp3 dc ak
   cases b1 with
   | true =>
    rw [Tj rfl] at hx;obtain ⟨s2,u2,g2,hx⟩:=ZGr hx;obtain ⟨ii,rfl,rfl⟩:=ZhR g2
    cases hx
    have hn:=ak.tl (YA bv);(conv=>whnf);refine Or.inl ⟨hn.inr,wN ?_⟩;refine ⟨L,_,_,⟨rfl,rfl,rfl⟩,hn,ii,?_⟩;exact mq124
   | false =>
   rw [Tf sM] at hx;obtain ⟨_,u2,g2,hx⟩:=ZGr hx;obtain ⟨ii,rfl⟩:=Zer g2;(conv=>whnf);refine ⟨L,_,_,⟨rfl,rfl,rfl⟩,ak,ii,?_⟩;intro a4 dp4 ei bz
   conv=>whnf
   refine ⟨L,_,_,⟨rfl,rfl,rfl⟩,bz,0,⟨rfl,oM⟩,fun b2 dq=>?_⟩;have dq:isW ts.tail.tail [[91]]=b2:=dq;rw [dq] at hx;intro a5 dp5 iz cj
   cases b2 with
   | true =>
    rw [Tj rfl] at hx;obtain ⟨l3,u3,g3,hx⟩:=ZGr hx;obtain ⟨_,u4,g4,hx⟩:=ZGr hx;obtain ⟨jr,rfl⟩:=Zer g4
    cases hx
    have hn:=cj.tl (YA dq);(conv=>whnf);refine Or.inl ⟨hn.inr,wN ?_⟩;refine ⟨L,_,_,⟨rfl,rfl,rfl⟩,hn,_,_,g3,?_⟩;intro a6 dp6 nf et
    conv=>whnf
    refine ⟨L,_,_,⟨rfl,rfl,rfl⟩,et,jr,?_⟩;intro a7 dp7 wl ik
    conv=>whnf
    exact h _ _ oM ik
   | false =>
   rw [Tf sM] at hx;obtain ⟨l3,u3,g3,hx⟩:=ZGr hx
   cases hx
   obtain rfl:l3=xl:=hxl;(conv=>whnf);refine ⟨⟨[],64,_,_,_,rfl,rfl,oM,cj,rfl,g3⟩,?_⟩;intro vs σ hI
   obtain ⟨l,f,a2,dp2,ts2,rfl,rfl,cy,af,hf,hx⟩:=hI;obtain ⟨g,v,t2,rfl,hv,hm,he⟩:=UZ hx;obtain ⟨s1,u1,g1,hv⟩:=ZGr hv;obtain ⟨cz,rfl,rfl⟩:=ZhR g1;obtain ⟨_,u2,g2,hv⟩:=ZGr hv;obtain ⟨ii,rfl⟩:=Zer g2;obtain ⟨l5,u3,g3,hv⟩:=ZGr hv;obtain ⟨_,u4,g4,hv⟩:=ZGr hv;obtain ⟨jr,rfl⟩:=Zer g4
   cases hv
   conv=>whnf
   refine ⟨L,_,_,⟨rfl,rfl,rfl⟩,af,rfl,fun b hb=>?_⟩;obtain rfl:b=true:=hb.symm.trans cz;intro a3 dp3 dc ak
   have nv:(l.map Zy).length<=64:=by rw [Td];omega
   conv=>whnf
   refine ⟨L,_,_,⟨rfl,rfl,rfl⟩,ak,(by rw [Td];omega),?_⟩;intro a4 dp4 ei bz
   conv=>whnf
   refine ⟨L,_,_,⟨rfl,rfl,rfl⟩,bz,cz,?_⟩;intro a5 dp5 iz cj
   conv=>whnf
   refine ⟨L,_,_,⟨rfl,rfl,rfl⟩,cj,ii,?_⟩;intro a6 dp6 nf et
   conv=>whnf
   refine ⟨L,_,_,⟨rfl,rfl,rfl⟩,et,_,_,g3,?_⟩;intro a7 dp7 wl ik
   conv=>whnf
   refine ⟨L,_,_,⟨rfl,rfl,rfl⟩,ik,jr,?_⟩;intro a8 dp8 wm ir
   conv=>whnf
   refine ⟨Tq.2 rfl,(show ((l.map Zy).length+1) * 40<=2 ^ 47 by omega),(show (l.map Zy).length+1<=2 ^ 47 by omega),wN ?_⟩;refine ⟨L,_,_,⟨rfl,rfl,rfl⟩,ir,0,⟨rfl,oM⟩,fun b hb=>?_⟩;intro a9 dp9 hl9 fe
   cases b with
   | true =>
    have hn:=fe.tl (YA hb);have hh:=hn.hi;(conv=>whnf);refine Or.inl ⟨hn.inr,wN ?_⟩;refine ⟨⟨l++[_],g,_,_,_,rfl,by rw [TS];rfl,oM,hn,by rw [Ta];simp only [Te,Tg];omega,hm hb⟩,?_⟩;show ((L.length:Int) - (a9+1)).toNat<((L.length:Int) - a2).toNat;omega
   | false =>
   obtain ⟨rfl,rfl⟩:=he hb;simp only [Zs,TS,Tz,TJ] at h;(conv=>whnf);exact h _ _ oM fe
  exact h.elim
 exact h.elim
def Zh2 (i o n:Bool):Nat:=(if i then 0 else 1)+(if o then 0 else 1)+(if n then 0 else 1)
def Zk8:Zk:=iR (fun pl v=>Ut (ZM pl v)) (fun _=>ZAa) (fun _=>True)
def ZuH:Tbl:=(99,J3)::(152,ZaU)::U0
def ZuI:PC w0 nG 96 Zk8:=by
 refine pwt (tbl:=ZuH) ⟨ZaR,Zgr,VN⟩ Tryz.func96 fun args σ K h=>?_
 unfold Zk8 iR iSp at h
 split at h
 ·rename_i rest t rows a en dp w q
  obtain ⟨L,d,ts,⟨rfl,rfl,rfl⟩,ho,h⟩:=h;split at h
  ·obtain ⟨_,x,t1,hx,h⟩:=h;unfold ZAa at hx
   obtain ⟨s1,u1,g1,hx⟩:=ZGr hx;obtain ⟨cz,rfl,rfl⟩:=ZhR g1;obtain ⟨_,u2,g2,hx⟩:=ZGr hx;obtain ⟨ii,rfl⟩:=Zer g2;obtain ⟨fl,u3,g3,hx⟩:=ZGr hx;obtain ⟨_,u4,g4,hx⟩:=ZGr hx;obtain ⟨jr,rfl⟩:=Zer g4;obtain ⟨r,u5,g5,hx⟩:=ZGr hx
   cases hx
   refine pwu [(6,⟨[],[0,2,3],fun vs σ=>∃(f:Nat) (i o n:Bool) (a' dp':Int) (ts':Ts),vs=[] /\
     σ=⟨[U9 t L a' en dp',.cells 148 [.d (.str []),.sl 0 192 [],.d (.bool false),.d (.bool false),.d (.bool false),.d (.int .i64 0)],
      .cells 148 [.d (.str (hd ts).text),.d (.sl (fl.map Zn)),.d (.bool i),.d (.bool o),.d (.bool n),.d (.int .i64 (Zb L en ts.length))]],[0],1⟩/\a<=a'/\IK L a' dp' d ts'/\Zgq f i o n ts'=.ok r t1,
    fun _ σ=>match σ with | ⟨[_,_,.cells _ [_,_,.d (.bool i),.d (.bool o),.d (.bool n),_]],_,_⟩=>Zh2 i o n | _=>0⟩)] 1 false ?_
   conv=>whnf
   refine ⟨L,_,_,⟨rfl,rfl,rfl⟩,ho,?_⟩;intro a1 dp1 ca ah
   conv=>whnf
   refine ⟨L,_,_,⟨rfl,rfl,rfl⟩,ah,cz,?_⟩;intro a2 dp2 cy af
   conv=>whnf
   refine ⟨L,_,_,⟨rfl,rfl,rfl⟩,af,ii,?_⟩;intro a3 dp3 dc ak
   conv=>whnf
   refine ⟨L,_,_,⟨rfl,rfl,rfl⟩,ak,_,_,g3,?_⟩;intro a4 dp4 ei bz
   conv=>whnf
   refine ⟨L,_,_,⟨rfl,rfl,rfl⟩,bz,jr,?_⟩;intro a5 dp5 iz cj
   conv=>whnf
   refine ⟨⟨4,false,false,false,_,_,_,rfl,rfl,oM,cj,g5⟩,?_⟩;intro vs σ hI
   obtain ⟨f,i,o,n,a6,dp6,ts6,rfl,rfl,nf,et,hx⟩:=hI
   cases f with
   | zero=>cases hx
   | succ f =>
   rw [Zgq] at hx;(conv=>whnf);refine ⟨L,_,_,⟨rfl,rfl,rfl⟩,et,0,⟨rfl,oM⟩,fun b1 bv=>?_⟩;have bv:isW ts6 [[105,110,112,117,116]]=b1:=bv;rw [bv] at hx;intro a7 dp7 wl ik
   by_cases h1:b1=true/\i=false
   ·rw [Tj h1] at hx;obtain ⟨rfl,rfl⟩:=h1;have hn:=ik.tl (YA bv);(conv=>whnf);refine Or.inl ⟨hn.inr,wN ?_⟩;refine ⟨⟨f,true,o,n,_,_,_,rfl,rfl,oM,hn,hx⟩,?_⟩;show Zh2 true o n<Zh2 false o n;simp only [Zh2];cases o <;> cases n <;> decide
   rw [Tf h1] at hx
   cases b1
   case' true=>obtain rfl:i=true:=by cases i with | true=>rfl | false=>exact absurd ⟨rfl,rfl⟩ h1
   all_goals
    conv=>whnf
    refine ⟨L,_,_,⟨rfl,rfl,rfl⟩,ik,0,⟨rfl,oM⟩,fun b2 dq=>?_⟩;have dq:isW ts6 [[111,117,116,112,117,116]]=b2:=dq;rw [dq] at hx;intro a8 dp8 wm ir
    by_cases h2:b2=true/\o=false
    ·rw [Tj h2] at hx;obtain ⟨rfl,rfl⟩:=h2;have hn:=ir.tl (YA dq);(conv=>whnf);refine Or.inl ⟨hn.inr,wN ?_⟩;refine ⟨⟨f,_,true,n,_,_,_,rfl,rfl,oM,hn,hx⟩,?_⟩
     first | show Zh2 i true n<Zh2 i false n | show Zh2 true true n<Zh2 true false n
     simp only [Zh2];simp
    rw [Tf h2] at hx
    cases b2
    case' true=>obtain rfl:o=true:=by cases o with | true=>rfl | false=>exact absurd ⟨rfl,rfl⟩ h2
    all_goals
     conv=>whnf
     refine ⟨L,_,_,⟨rfl,rfl,rfl⟩,ir,0,⟨rfl,oM⟩,fun b3 ge=>?_⟩;have ge:isW ts6 [[105,110,108,105,110,101]]=b3:=ge;rw [ge] at hx;intro a9 dp9 hl9 fe
     by_cases h3:b3=true/\n=false
     ·rw [Tj h3] at hx;obtain ⟨rfl,rfl⟩:=h3;have hn:=fe.tl (YA ge);(conv=>whnf);refine Or.inl ⟨hn.inr,wN ?_⟩;refine ⟨⟨f,_,_,true,_,_,_,rfl,rfl,oM,hn,hx⟩,?_⟩
      first | show Zh2 i o true<Zh2 i o false | show Zh2 true o true<Zh2 true o false | show Zh2 i true true<Zh2 i true false | show Zh2 true true true<Zh2 true true false
      simp only [Zh2];simp
     rw [Tf h3] at hx
     cases hx
     cases b3
     case' true=>obtain rfl:n=true:=by cases n with | true=>rfl | false=>exact absurd ⟨rfl,rfl⟩ h3
     all_goals
      conv=>whnf
      exact h _ _ oM fe
  exact h.elim
 exact h.elim
def ZC1 (l:Nat):List Bs:=if l=0 then [[98,111,114],[98,120,111,114]] else if l=1 then [[98,97,110,100]] else if l=2 then [[115,104,108],[115,104,114]] else if l=3 then [[43],[45]] else [[42],[47],[37]]
def ZC2 (l:Nat):List Nat:=if l=0 then [16,17] else if l=1 then [15] else if l=2 then [18,19] else if l=3 then [10,11] else [12,13,14]
def opJ (ts:Ts):List Bs->List Nat->Nat->Nat
 | w::ws,o::os,r=>opJ ts ws os (if isW ts [w]=true then o else r)
 | _,_,r=>r
def ZuJ (sub:Ts->R Ex) (ln:Nat):Nat->Ex->Ts->R Ex
 | 0,_,_=>.err 0 150
 | f+1,e,ts=>if opJ ts (ZC1 ln) (ZC2 ln) 0=0 then .ok e ts else (sub ts.tail).bind fun g ts'=>ZuJ sub ln f (.mk (opJ ts (ZC1 ln) (ZC2 ln) 0) [] 0 [e,g] e.at') ts'
def ZAb (sg:Ts->R Ex):Nat->Ts->R Ex
 | 0,ts=>sg ts
 | k+1,ts=>(ZAb sg k ts).bind fun e ts'=>ZuJ (ZAb sg k) (4 - k) (ts'.length+1) e ts'
def ZrX (d:Nat) (ex:Ts->R Ex) (fr tt:Bs) (ts:Ts):R (List Ex):=Zp d fr tt (fun ts=>if isW ts [tt]=true then .ok [] ts else Zeu [44] ex 12 [] ts) ts
def Zk9 (ex:Ts->R Ex):Nat->Nat->List Ex->Ts->R (List Ex)
 | 0,_,l,ts=>.ok l ts
 | k+1,i,l,ts=>(if i=0 then .ok () ts else ZP [44] ts).bind fun _ ts=>(ex ts).bind fun e ts=>Zk9 ex k (i+1) (l++[e]) ts
def Zor (d:Nat) (ex:Ts->R Ex) (ts:Ts):R Ex :=
 if ZS ts=false then .err ts.length 150
 else if (hd ts).kind=2 then .ok (.mk 3 [] (hd ts).n [] ts.length) ts.tail
 else if (hd ts).kind=3 then .ok (.mk 4 (hd ts).text 0 [] ts.length) ts.tail
 else if (hd ts).text=[40] then Zp d [40] [41] ex ts
 else if (hd ts).text=[91] then (ZrX d ex [91] [93] ts).bind fun l ts'=>.ok (.mk 6 [] 0 l ts.length) ts'
 else if (hd ts).text=[36] then (YO ts.tail).bind fun nm ts'=>if isW ts' [[40]]=true then (ZrX d ex [40] [41] ts').bind fun l ts'=>.ok (.mk 7 nm 0 l ts.length) ts' else .ok (.mk 7 nm 0 [] ts.length) ts'
 else if (hd ts).text=[110,105,108] then .ok (.mk 5 [] 0 [] ts.length) ts.tail
 else if (hd ts).text=[95] then .ok (.mk 2 [] 0 [] ts.length) ts.tail
 else if ZR (hd ts).text≠0 then (Zp d [40] [41] (Zk9 ex (Wn (ZR (hd ts).text)) 0 []) ts.tail).bind fun l ts'=>.ok (.mk (ZR (hd ts).text) [] 0 l ts.length) ts'
 else .ok (.mk 1 (hd ts).text 0 [] ts.length) ts.tail
def ZDx (d:Nat) (sub:Ts->R Ex) (ts:Ts):R Ex :=
 if isW ts [[126]]=true then (Zp d [126] [] sub ts).bind fun e ts'=>.ok (.mk 9 [] 0 [e] ts.length) ts'
 else if isW ts [[45]]=true then (Zp d [45] [] sub ts).bind fun e ts'=>.ok (.mk 8 [] 0 [e] ts.length) ts'
 else Zor d (ZAb sub 5) ts
def ZvT:Nat->Ts->R Ex
 | 0=>ZDx 0 fun _=>.err 0 150
 | d+1=>ZDx (d+1) (ZvT d)
def ZFq:Nat->Ts->R Ex
 | 0=>fun _=>.err 0 150
 | d+1=>ZvT d
def ZAc (d:Nat):ZvT d=ZDx d (ZFq d):=by cases d <;> rfl
def exJ (d:Nat):Ts->R Ex:=ZAb (ZvT d) 5
def exU (d:Nat):Ts->R Ex:=ZAb (ZFq d) 5
def VO (n l:Nat):Zk:=iSp fun rest pl d ts K=>match rest with
 | [.d (.int .i64 i)]=>∃j:Nat,(i=j/\j<=5/\(d<n\/(d=n/\l<=j)))/\∃x t1,ZAb (ZvT d) (5 - j) ts=.ok x t1/\K (Ut (ZF pl x)) d t1
 | _=>False
abbrev Zew (P:Nat->Ts->R Ex) (n:Nat):Zk:=iR (fun pl v=>Ut (ZF pl v)) P (fun d=>d<n+1)
def Zex (n:Nat):Zk:=iSp fun rest pl d ts K=>match rest with
 | [.d (.str fr),.d (.str tt),.d (.bool b)]=>(b=true/\tt≠[]/\d<n+1)/\∃x t1,ZrX d (exU d) fr tt ts=.ok x t1/\K (.d (.sl (Ze pl x))) d t1
 | _=>False
def Zla (n:Nat):Zk:=iSp fun rest pl d ts K=>match rest with
 | [.agg [.d (.int .u8 op),.d (.str []),.d (.int .i64 m),.nils e,.d (.int .i64 p)]]=>(m=0/\e=25/\d<n+1)/\∃o:Nat,op=(o:Int)/\∃x t1,Zp d [40] [41] (Zk9 (exU d) (Wn o) 0 []) ts=.ok x t1/\K (.agg [.d (.int .u8 op),.d (.str []),.d (.int .i64 0),.d (.sl (Ze pl x)),.d (.int .i64 p)]) d t1
 | _=>False
def Zos:Tbl:=[(150,ZcO),(252,Xi)]
def ZbI:PC w0 nG 213 UC:=by
 refine pwt (tbl:=Zos) ⟨ZjB,Zet,trivial⟩ Tryz.func213 fun args σ K h=>?_
 unfold UC iSp at h
 split at h
 ·rename_i rest t rows a en dp w q
  obtain ⟨L,d,ts,⟨rfl,rfl,rfl⟩,ho,h⟩:=h;split at h
  ·refine pwv [] 1 false ?_;refine ZGg (fun hc=>?_) (fun hc=>wN ?_)
   ·obtain rfl:=ho.nil (show ¬a<((Zz L).length:Int) by have hc:a>=((Zz L).length:Int):=hc;omega);(conv=>whnf);exact h _ rfl _ _ oM ho
   have hc:a<((Zz L).length:Int):=by have hc:¬a>=((Zz L).length:Int):=hc;omega
   obtain ⟨h0,x,hx,fc,ai,iu,ec⟩:=ho.at0 hc;rw [ZS,fc] at h;have h:∀b,(if x.kind=2\/x.kind=3 then true else if x.kind=4 then isW ts [[45],[126],[40],[91],[36]] else if x.kind=1 then !Zbg x.text || (decide (x.text=[110,105,108]) || decide (ZR x.text≠0)) else false)=b->∀a' dp',a<=a'->IK L a' dp' d ts->K (.ret (.d (.bool b))) ⟨[U9 t L a' en dp'],[],0⟩:=h;refine ⟨_,h0,hx,wN ?_⟩
   (repeat (refine ⟨rfl,?_⟩;conv=>whnf))
   refine ZGg (fun h1=>wN ?_) (fun h1=>wN ?_)
   ·have h1:x.kind=2:=by have h1:(x.kind:Int)=2:=h1;omega
    refine ZGg (fun _=>wN ?_) (fun g=>absurd (by rw [h1];rfl) g);exact h _ (by rw [Tj (Or.inl h1)]) _ _ oM ho
   have h1:¬x.kind=2:=by have h1:¬(x.kind:Int)=2:=h1;omega
   refine ZGg (fun h2=>wN ?_) (fun h2=>wN ?_)
   ·have h2:x.kind=3:=by have h2:(x.kind:Int)=3:=h2;omega
    exact h _ (by rw [Tj (Or.inr h2)]) _ _ oM ho
   have h2:¬x.kind=3:=by have h2:¬(x.kind:Int)=3:=h2;omega
   rw [Tf oM] at h;refine ZGg (fun h3=>wN ?_) (fun h3=>wN ?_)
   ·have h3:x.kind=4:=by have h3:(x.kind:Int)=4:=h3;omega
    have hw5:isW ts [[45],[126],[40],[91],[36]]=[[45],[126],[40],[91],[36]].contains x.text:=by
     rw [isW,fc];simp [Tok.t0,h3]
    rw [Tj h3,hw5] at h;refine ZGg (fun hq=>wN ?_) (fun hq=>wN ?_)
    ·exact mq56
    have hq0:¬x.text=[45]:=hq;refine ZGg (fun hq=>wN ?_) (fun hq=>wN ?_)
    ·exact mq56
    have so:¬x.text=[126]:=hq;refine ZGg (fun hq=>wN ?_) (fun hq=>wN ?_)
    ·exact mq56
    have oe:¬x.text=[40]:=hq;refine ZGg (fun hq=>wN ?_) (fun hq=>wN ?_)
    ·exact mq56
    have hq3:¬x.text=[91]:=hq;exact h _ (by rw [Bool.eq_iff_iff,TH,List.contains_iff_mem];simp only [Tu,Sr,or_false,hq0,so,oe,hq3,false_or]) _ _ oM ho
   have h3:¬x.kind=4:=by have h3:¬(x.kind:Int)=4:=h3;omega
   rw [Tf h3,Tj oM] at h;intro b hb
   rw [hb] at h
   cases b with
   | false =>
    conv=>whnf
    exact h _ rfl _ _ oM ho
   | true =>
   conv=>whnf
   refine ZGg (fun h5=>wN ?_) (fun h5=>wN ?_)
   ·exact h _ (by rw [TX (p:=x.text=[110,105,108]) h5];rfl) _ _ oM ho
   intro n hn
   conv=>whnf
   exact h _ (by rw [decide_eq_false (p:=x.text=[110,105,108]) h5,<- hn];by_cases g:ZR x.text=0 <;> simp [g]) _ _ oM ho
  exact h.elim
 exact h.elim
def ZEJ (o:Nat):List D:=[.int .u8 o]
def ZrY:Zk:=fun args σ K=>match args,σ with
 | [.d (.int .i64 i)],⟨[],[],0⟩=>∃n:Nat,i=n/\n<=4/\K (.ret (.tuple [.d (.sl ((ZC1 n).map Yh)),.d (.sl ((ZC2 n).map ZEJ))])) ⟨[],[],0⟩
 | _,_=>False
def ZAd:PC w0 nG 254 ZrY:=by
 refine Zdp Zr mixed (tbl:=[]) trivial Tryz.func254 rfl kR kR ?_;intro args σ K h
 unfold ZrY at h
 split at h
 ·rename_i i
  obtain ⟨n,rfl,hn,h⟩:=h;refine ⟨Zg [],Ys [],ZC [],ZC [],ZC [],0,true,sM,Tc rfl,?_⟩;have dw:n=0\/n=1\/n=2\/n=3\/n=4:=oM;rcases dw with rfl | rfl | rfl | rfl | rfl
  all_goals
   conv=>whnf
   exact h
 exact h.elim
def ZhT {n:Nat} (he:PC w0 nG 214 (VO n 6)):PC w0 nG 156 (Zex n):=by
 refine pwt (tbl:=[(154,J4),(54,XP),(155,ZbF),(213,UC),(94,ZbH),(214,VO n 6)]) ⟨ZaT,XA,ZcP,ZbI,ZcR,he,trivial⟩ Tryz.func156 fun args σ K h=>?_
 unfold Zex iSp at h
 split at h
 ·rename_i rest t rows a en dp w q
  obtain ⟨L,d,ts,⟨rfl,rfl,rfl⟩,ho,h⟩:=h;split at h
  ·rename_i fr tt bb
   obtain ⟨⟨rfl,htt,gj⟩,x,t1,hx,h⟩:=h;obtain ⟨hw,⟨e,rfl⟩,t2,hy,h2⟩:=Zes hx
   clear hx
   have hx:=hy
   clear hy
   obtain ⟨gf,rfl⟩:isW t2 [tt]=true/\t1=t2.tail:=by rcases h2 with ⟨g,_⟩ | g;exact absurd g htt;exact g.2
   have h64:=ho.d64;refine pwv [(6,⟨[9],[0,2],fun vs σ=>∃(l:List Ex) (f:Nat) (a' dp':Int) (ts':Ts),vs=[.sl 0 25 (l.map (ZF (Zb L en)))]/\σ=⟨[U9 t L a' en dp'],[0],1⟩/\a<=a'/\IK L a' dp' e ts'/\l.length+f=12/\Zeu [44] (exJ e) f l ts'=.ok x t2,ZAF L⟩)] 1 false ?_;refine ⟨L,_,_,⟨rfl,rfl,rfl⟩,ho,hw,e,rfl,?_⟩;intro a1 dp1 ca ah
   conv=>whnf
   refine ⟨L,_,_,⟨rfl,rfl,rfl⟩,ah,0,⟨rfl,oM⟩,fun b hb=>?_⟩;have hb:isW ts.tail [tt]=b:=hb;rw [hb] at hx;intro a2 dp2 cy af
   cases b with
   | true =>
    rw [Tj rfl] at hx
    cases hx
    conv=>whnf
    refine ⟨L,_,_,⟨rfl,rfl,rfl⟩,af,⟨hb,oM⟩,?_⟩;intro a3 dp3 dc ak
    conv=>whnf
    exact h _ _ oM ak
   | false =>
   rw [Tf sM] at hx;(conv=>whnf);refine ⟨⟨[],12,a2,dp2,_,rfl,rfl,oM,af,rfl,hx⟩,?_⟩;intro vs σ hI
   obtain ⟨l,f,a3,dp3,ts3,rfl,rfl,dc,ak,hf,hx⟩:=hI;obtain ⟨g,⟨eo,es,em,er,ep⟩,t4,rfl,hv,hm,hq⟩:=UZ hx;have nv:(l.map (ZF (Zb L en))).length<12:=by rw [Td];omega
   conv=>whnf
   refine ⟨L,_,_,⟨rfl,rfl,rfl⟩,ak,fun b hb=>?_⟩;intro a4 dp4 ei bz
   have ei:a<=a4/\a3<=a4:=⟨oM,ei⟩
   cases b
   case' true =>
    conv=>whnf
    refine ⟨L,_,_,⟨rfl,rfl,rfl⟩,bz,(by rw [Td];omega),?_⟩;intro a5 dp5 iz cj
    have ei:a<=a5/\a3<=a5:=⟨oM,oM⟩
    clear bz iz
   all_goals
    conv=>whnf
    refine ⟨L,_,_,⟨rfl,rfl,rfl⟩,by assumption,0,⟨rfl,oM,.inl oM⟩,_,_,hv,?_⟩;intro a6 dp6 nf et
    conv=>whnf
    refine ⟨Tq.2 rfl,(show ((l.map (ZF (Zb L en))).length+1) * 64<=2 ^ 47 by omega),(show (l.map (ZF (Zb L en))).length+1<=2 ^ 47 by omega),wN ?_⟩;refine ⟨L,_,_,⟨rfl,rfl,rfl⟩,et,0,⟨rfl,oM⟩,fun b hb=>?_⟩;intro a8 dp8 wm ir
    cases b with
    | true =>
     have hn:=ir.tl (YA hb);have hh:=hn.hi;(conv=>whnf);refine Or.inl ⟨hn.inr,wN ?_⟩;refine ⟨⟨l++[.mk eo es em er ep],g,_,_,_,by rw [TS];rfl,rfl,oM,hn,by rw [Ta];simp only [Te,Tg];omega,hm hb⟩,?_⟩;show ((L.length:Int) - (a8+1)).toNat<((L.length:Int) - a3).toNat;omega
    | false =>
    obtain ⟨rfl,rfl⟩:=hq hb;rw [Zc,TS] at h;(conv=>whnf);refine ⟨L,_,_,⟨rfl,rfl,rfl⟩,ir,⟨gf,oM⟩,?_⟩;intro a9 dp9 hl9 fe
    conv=>whnf
    exact h _ _ oM fe
  exact h.elim
 exact h.elim
def Zot {ex:Ts->R Ex} {k i:Nat} {l x:List Ex} {ts t1:Ts} (h:Zk9 ex (k+1) i l ts=.ok x t1):∃ts2 v t2,(if i=0 then ts2=ts else isW ts [[44]]=true/\ts2=ts.tail)/\ex ts2=.ok v t2/\Zk9 ex k (i+1) (l++[v]) t2=.ok x t1:=by
 rw [Zk9] at h;obtain ⟨_,ts2,h1,h⟩:=ZGr h;obtain ⟨v,t2,h2,h⟩:=ZGr h;refine ⟨ts2,v,t2,?_,h2,h⟩;split at h1
 ·cases h1;rw [Tj (by assumption)]
 rw [Tf (by assumption)];exact Zer h1
def ZuM {n:Nat} (he:PC w0 nG 214 (VO n 6)):PC w0 nG 303 (Zla n):=by
 refine pwt (tbl:=[(154,J4),(151,UD),(214,VO n 6),(155,ZbF)]) ⟨ZaT,UY,he,ZcP,trivial⟩ Tryz.func303 fun args σ K h=>?_
 unfold Zla iSp at h
 split at h
 ·rename_i rest t rows a en dp w q
  obtain ⟨L,d,ts,⟨rfl,rfl,rfl⟩,ho,h⟩:=h;split at h
  ·rename_i op mm ee pp
   obtain ⟨⟨rfl,rfl,gj⟩,o,rfl,x,t1,hx,h⟩:=h;obtain ⟨hw,⟨e,rfl⟩,t2,hy,h2⟩:=Zes hx
   clear hx
   have hx:=hy
   clear hy
   obtain ⟨gf,rfl⟩:isW t2 [[41]]=true/\t1=t2.tail:=by rcases h2 with ⟨g,_⟩ | g;exact absurd g dM;exact g.2
   have h64:=ho.d64;refine pwu [(8,⟨[6],[0,3,4,5],fun vs σ=>∃(i:Nat) (l:List Ex) (a' dp':Int) (ts':Ts),vs=[.d (.int .i64 i)]/\(l.length=i/\i<=Wn o) /\
     σ=⟨[U9 t L a' en dp',.cells 25 [.d (.int .u8 o),.d (.str []),.d (.int .i64 0),.sl 0 25 (l.map (ZF (Zb L en))),.d (.int .i64 pp)],.cells 25 [.d (.int .u8 0),.d (.str []),.d (.int .i64 0),.sl 1 25 [],.d (.int .i64 0)]],[1,0],2⟩/\a<=a'/\IK L a' dp' e ts'/\Zk9 (exJ e) (Wn o - i) i l ts'=.ok x t2,
    fun vs _=>match vs with | [.d (.int _ i)]=>((Wn o:Int) - i).toNat | _=>0⟩)] 1 false ?_
   conv=>whnf
   refine ZGg (fun ue=>?_) (fun ue=>?_)
   all_goals
    conv=>whnf
    refine ZGg (fun h22=>?_) (fun h22=>?_)
    all_goals conv=>whnf
   ·omega
   case' refine_1.refine_2=>have kr:Wn o=2:=by unfold Wn;rw [Tf oM,Tj oM]
   case' refine_2.refine_1=>have kr:Wn o=3:=by unfold Wn;rw [Tj oM]
   case' refine_2.refine_2=>have kr:Wn o=1:=by unfold Wn;rw [Tf oM,Tf oM]
   all_goals
    rw [kr] at hx;refine ⟨L,_,_,⟨rfl,rfl,rfl⟩,ho,hw,e,rfl,?_⟩;intro a1 dp1 ca ah
    conv=>whnf
    refine ⟨⟨0,[],a1,dp1,_,rfl,⟨rfl,oM⟩,rfl,oM,ah,by rw [kr];exact hx⟩,?_⟩;intro vs σ hI
    obtain ⟨i,l,a2,dp2,ts2,rfl,⟨lx,mi⟩,rfl,cy,af,hx⟩:=hI;rw [kr] at mi hx;have nv:(l.map (ZF (Zb L en))).length<=3:=by rw [Td];omega
    conv=>whnf
    refine ZGg (fun hc=>?_) (fun hc=>?_)
    ·have hi:(i:Int)<_:=hc;obtain ⟨k,hk⟩:∃k,Wn o - i=k+1:=⟨Wn o - i - 1,by rw [kr];omega⟩
     rw [kr] at hk;rw [hk] at hx;obtain ⟨ts3,⟨eo,es,em,er,ep⟩,t4,h3,hv,jv⟩:=Zot hx;have bw:Wn o - (i+1)=k:=by rw [kr];omega
     conv=>whnf
     refine ZGg (fun h0=>?_) (fun h0=>?_)
     case' refine_1.refine_1 =>
      rw [Tf oM] at h3;obtain ⟨h3,rfl⟩:=h3;(conv=>whnf);refine ⟨L,_,_,⟨rfl,rfl,rfl⟩,af,h3,?_⟩;intro a5 dp5 iz cj
     case' refine_1.refine_2 =>
      rw [Tj oM] at h3;subst h3;have iz:=Int.le_refl a2;have cj:=af
     all_goals
      conv=>whnf
      refine ⟨L,_,_,⟨rfl,rfl,rfl⟩,cj,0,⟨rfl,oM,.inl oM⟩,_,_,hv,?_⟩;intro a6 dp6 nf et
      conv=>whnf
      refine ⟨Tq.2 rfl,(show ((l.map (ZF (Zb L en))).length+1) * 64<=2 ^ 47 by omega),(show (l.map (ZF (Zb L en))).length+1<=2 ^ 47 by omega),wN ?_⟩
      (repeat (refine ⟨rfl,?_⟩;conv=>whnf))
      refine Zi ?_;refine ⟨⟨i+1,l++[.mk eo es em er ep],_,_,_,rfl,⟨by rw [Ta,lx];rfl,by rw [kr];omega⟩,by rw [TS];rfl,oM,et,by rw [bw];exact jv⟩,?_⟩;show ((Wn o:Int) - ((i:Int)+1)).toNat<((Wn o:Int) - (i:Int)).toNat;omega
    have hi:¬(i:Int)<_:=hc;have hk:Wn o - i=0:=by rw [kr];omega
    rw [kr] at hk;rw [hk] at hx
    cases hx
    rw [Zc] at h;(conv=>whnf);refine ⟨L,_,_,⟨rfl,rfl,rfl⟩,af,⟨gf,oM⟩,?_⟩;intro a5 dp5 iz cj
    conv=>whnf
    (repeat (refine ⟨rfl,?_⟩;conv=>whnf))
    exact h _ _ oM cj
  exact h.elim
 exact h.elim
def ZuO {n:Nat} (hp:PC w0 nG 283 (Zew (fun d=>Zor d (exU d)) n)) (he:PC w0 nG 214 (VO n 6)):PC w0 nG 253 (Zew ZvT n):=by
 refine pwt (tbl:=[(99,J3),(54,XP),(154,J4),(283,Zew (fun d=>Zor d (exU d)) n),(214,VO n 6)]) ⟨ZaR,XA,ZaT,hp,he,trivial⟩ Tryz.func253 fun args σ K h=>?_
 unfold Zew iR iSp at h
 split at h
 ·rename_i rest t rows a en dp w q
  obtain ⟨L,d,ts,⟨rfl,rfl,rfl⟩,ho,h⟩:=h;split at h
  ·obtain ⟨gj,x,t1,hx,h⟩:=h;rw [ZAc] at hx;have h64:=ho.d64;refine pwv [] 1 false ?_;refine ⟨L,_,_,⟨rfl,rfl,rfl⟩,ho,?_⟩;intro a1 dp1 ca ah
   conv=>whnf
   refine ⟨L,_,_,⟨rfl,rfl,rfl⟩,ah,0,⟨rfl,oM⟩,fun b1 bv=>?_⟩;have bv:isW ts [[45]]=b1:=bv;intro a2 dp2 cy af
   cases b1
   all_goals
    conv=>whnf
    refine ⟨L,_,_,⟨rfl,rfl,rfl⟩,af,0,⟨rfl,oM⟩,fun b2 dq=>?_⟩;have dq:isW ts [[126]]=b2:=dq;intro a3 dp3 dc ak
    rw [ZDx,bv,dq] at hx
    cases b2
    all_goals
     first | rw [Tj rfl] at hx | rw [Tf sM,Tj rfl] at hx | rw [Tf sM,Tf sM] at hx
   case' false.false =>
    obtain ⟨eo,es,em,er,ep⟩:=x;(conv=>whnf);refine ⟨L,_,_,⟨rfl,rfl,rfl⟩,ak,gj,_,_,hx,?_⟩;intro a4 dp4 ei bz
    conv=>whnf
    exact h _ _ oM bz
   all_goals
    obtain ⟨⟨eo,es,em,er,ep⟩,t2,hx,hq⟩:=ZGr hx
    cases hq
    obtain ⟨hw,⟨e,rfl⟩,t3,hy,h2⟩:=Zes hx
    clear hx
    have hx:=hy
    clear hy
    obtain rfl:t1=t3:=by rcases h2 with ⟨_,g⟩ | ⟨g,_⟩;exact g;exact absurd rfl g
    conv=>whnf
    refine ⟨L,_,_,⟨rfl,rfl,rfl⟩,ak,hw,e,rfl,?_⟩;intro a4 dp4 ei bz
    conv=>whnf
    refine ⟨L,_,_,⟨rfl,rfl,rfl⟩,bz,5,⟨rfl,oM,.inl oM⟩,_,_,hx,?_⟩;intro a5 dp5 iz cj
    have z5:=cj.dpe;(conv=>whnf);refine Zi ?_;exact h _ _ oM ⟨cj.toROK,oM,oM,cj.kinds⟩
  exact h.elim
 exact h.elim
def ZuQ {n:Nat} (he:PC w0 nG 214 (VO n 6)):PC w0 nG 283 (Zew (fun d=>Zor d (exU d)) n):=by
 refine Zdp Zr mixed (tbl:=[(213,UC),(154,J4),(214,VO n 6),(155,ZbF),(156,Zex n),(100,ZbG),(54,XP),(252,Xi),(303,Zla n)]) ⟨ZbI,ZaT,he,ZcP,ZhT he,ZcQ,XA,Zet,ZuM he,trivial⟩ Tryz.func283 rfl kR kR ?_;intro args σ K h
 unfold Zew iR iSp at h
 split at h
 ·rename_i rest t rows a en dp w q
  obtain ⟨L,d,ts,⟨rfl,rfl,rfl⟩,ho,h⟩:=h;split at h
  ·obtain ⟨gj,x,t1,hx,h⟩:=h;have h64:=ho.d64
   change Zor d (exU d) ts=.ok x t1 at hx
   rw [Zor] at hx;split at hx
   ·cases hx
   rename_i hst
   have hst:ZS ts=true:=by simpa using hst
   refine ⟨Zg [],Ys [],ZC [],ZC [],ZC [303],1,false,sM,Tc rfl,wN ?_⟩;refine ⟨L,_,_,⟨rfl,rfl,rfl⟩,ho,fun b hb=>?_⟩;obtain rfl:b=true:=hb.symm.trans hst;intro a1 dp1 ca ah
   have ai:ts≠[]:=by rintro rfl;simp [ZS,hd] at hst
   have hn:=ah.tl ai;obtain ⟨h0,y,hy,fc,_,iu,ec⟩:=ah.at0 (ah.lt ai);rw [fc] at hx;have ec:=ec en;have jd:y.t0.kind=y.kind:=rfl;have wj:y.t0.text=y.text:=rfl;have hxn:y.t0.n=y.n:=rfl;rw [jd,wj,hxn] at hx;(conv=>whnf);refine ⟨_,h0,hy,wN ?_⟩
   (repeat (refine ⟨rfl,?_⟩;conv=>whnf))
   refine ZGg (fun hc=>?_) (fun hc=>wN ?_)
   ·rw [Tj (show y.kind=2 by have hc:(y.kind:Int)=2:=hc;omega)] at hx;exact mq55
   rw [Tf (show ¬y.kind=2 by have hc:¬(y.kind:Int)=2:=hc;omega)] at hx;refine ZGg (fun hc=>?_) (fun hc=>wN ?_)
   ·rw [Tj (show y.kind=3 by have hc:(y.kind:Int)=3:=hc;omega)] at hx;exact mq55
   rw [Tf (show ¬y.kind=3 by have hc:¬(y.kind:Int)=3:=hc;omega)] at hx;refine ZGg (fun hc=>?_) (fun hc=>wN ?_)
   ·rw [Tj (show y.text=[40] from hc)] at hx;obtain ⟨hw,⟨e,rfl⟩,t2,hy,h2⟩:=Zes hx
    clear hx
    have hx:=hy
    clear hy
    obtain ⟨gf,rfl⟩:isW t2 [[41]]=true/\t1=t2.tail:=by rcases h2 with ⟨g,_⟩ | g;exact absurd g dM;exact g.2
    obtain ⟨eo,es,em,er,ep⟩:=x;(conv=>whnf);refine ⟨L,_,_,⟨rfl,rfl,rfl⟩,ah,hw,e,rfl,?_⟩;intro a2 dp2 cy af
    conv=>whnf
    refine ⟨L,_,_,⟨rfl,rfl,rfl⟩,af,0,⟨rfl,oM,.inl oM⟩,_,_,hx,?_⟩;intro a3 dp3 dc ak
    conv=>whnf
    refine ⟨L,_,_,⟨rfl,rfl,rfl⟩,ak,⟨gf,oM⟩,?_⟩;exact mq124
   rw [Tf (show ¬y.text=[40] from hc)] at hx;refine ZGg (fun hc=>?_) (fun hc=>wN ?_)
   ·rw [Tj (show y.text=[91] from hc)] at hx;obtain ⟨l,t2,hx,hq⟩:=ZGr hx
    cases hq
    simp only [ZF,ec] at h;(conv=>whnf);refine ⟨L,_,_,⟨rfl,rfl,rfl⟩,ah,⟨rfl,sM,gj⟩,_,_,hx,?_⟩;intro a2 dp2 cy af
    conv=>whnf
    exact h _ _ oM af
   rw [Tf (show ¬y.text=[91] from hc)] at hx;refine ZGg (fun hc=>?_) (fun hc=>wN ?_)
   ·rw [Tj (show y.text=[36] from hc)] at hx;obtain ⟨s,t2,g2,hx⟩:=ZGr hx;obtain ⟨ii,rfl,rfl⟩:=ZhR g2;(conv=>whnf);refine Or.inl ⟨hn.inr,wN ?_⟩;refine ⟨L,_,_,⟨rfl,rfl,rfl⟩,hn,ii,?_⟩;intro a2 dp2 cy af
    conv=>whnf
    refine ⟨L,_,_,⟨rfl,rfl,rfl⟩,af,0,⟨rfl,oM⟩,fun b3 ge=>?_⟩;have ge:isW ts.tail.tail [[40]]=b3:=ge;rw [ge] at hx;intro a3 dp3 dc ak
    cases b3 with
    | false =>
     rw [Tf sM] at hx
     cases hx
     simp only [ZF,ec] at h;(conv=>whnf);exact h _ _ oM ak
    | true =>
    rw [Tj rfl] at hx;obtain ⟨l,t4,hx,hq⟩:=ZGr hx
    cases hq
    simp only [ZF,ec] at h;(conv=>whnf);refine ⟨L,_,_,⟨rfl,rfl,rfl⟩,ak,⟨rfl,sM,gj⟩,_,_,hx,?_⟩;exact mq124
   rw [Tf (show ¬y.text=[36] from hc)] at hx;refine ZGg (fun hc=>?_) (fun hc=>wN ?_)
   ·rw [Tj (show y.text=[110,105,108] from hc)] at hx;exact mq55
   rw [Tf (show ¬y.text=[110,105,108] from hc)] at hx;refine ZGg (fun hc=>?_) (fun hc=>wN ?_)
   ·rw [Tj (show y.text=[95] from hc)] at hx;exact mq55
   rw [Tf (show ¬y.text=[95] from hc)] at hx;intro f hf
   conv=>whnf
   refine ZGi (fun hc=>?_) (fun hc=>?_)
   ·rw [Tj (show ZR y.text≠0 by omega)] at hx;obtain ⟨l,t2,hx,hq⟩:=ZGr hx
    cases hq
    simp only [ZF,ec] at h;(conv=>whnf);refine Or.inl ⟨hn.inr,wN ?_⟩;intro f2 zn
    subst zn;(conv=>whnf);refine ⟨L,_,_,⟨rfl,rfl,rfl⟩,hn,⟨rfl,rfl,gj⟩,ZR y.text,rfl,_,_,hx,?_⟩;intro a2 dp2 cy af
    conv=>whnf
    exact h _ _ oM af
   rw [Tf (show ¬ZR y.text≠0 by omega)] at hx;exact mq55
  exact h.elim
 exact h.elim
def ZvU {ts:Ts}:∀(ws:List Bs) (os:List Nat),opJ ts ws os 0≠0->ts≠[]
 | [],_,h=>absurd rfl h
 | _::_,[],h=>absurd rfl h
 | w::ws,o::os,h=>by
  rintro rfl
  exact ZvU (ts:=[]) ws os h rfl
def ZvV (n l:Nat):Tbl:=[(253,Zew ZvT n),(254,ZrY),(214,VO n (l+1)),(54,XP)]
def ZC3 {n l:Nat} (ht:TO w0 nG (ZvV n l)):PC w0 nG 214 (VO n l):=by
 refine YV Zr mixed (tbl:=ZvV n l) ht Tryz.func214 rfl kR kR ?_;intro args σ K h
 unfold VO iSp at h
 split at h
 ·rename_i rest t rows a en dp w q
  obtain ⟨L,d,ts,⟨rfl,rfl,rfl⟩,ho,h⟩:=h;split at h
  ·obtain ⟨j,⟨rfl,hj5,gj⟩,x,t1,hx,h⟩:=h;refine ⟨Zg [(7,⟨[],[0,1,4,5,6,7],fun vs σ=>∃(f eo:Nat) (es:Bs) (em:Int) (er:List Ex) (ep:Nat) (a' dp':Int) (ts':Ts),vs=[] /\
     σ=⟨[U9 t L a' en dp',.cells 25 [.d (.int .u8 0),.d (.str []),.d (.int .i64 0),.sl 0 25 [],.d (.int .i64 0)],.cells 25 [.d (.int .u8 eo),.d (.str es),.d (.int .i64 em),.d (.sl (Ze (Zb L en) er)),.d (.int .i64 (Zb L en ep))]],[0],1⟩/\a<=a'/\IK L a' dp' d ts'/\ZuJ (ZAb (ZvT d) (4 - j)) j f (.mk eo es em er ep) ts'=.ok x t1,ZAF L⟩)],Ys [(10,5)],ZC [],1,false,sM,Tc rfl,?_⟩
   conv=>whnf
   refine ZGg (fun h5=>?_) (fun h5=>?_)
   ·have h5:j=5:=by have h5:(j:Int)=5:=h5;omega
    subst h5;obtain ⟨eo,es,em,er,ep⟩:=x;(conv=>whnf);refine ⟨L,_,_,⟨rfl,rfl,rfl⟩,ho,(show d<n+1 by omega),_,_,hx,?_⟩;intro a1 dp1 ca ah
    conv=>whnf
    exact h _ _ oM ah
   have h5:j<=4:=by have h5:¬(j:Int)=5:=h5;omega
   rw [show 5 - j=(4 - j)+1 by omega] at hx;obtain ⟨⟨eo,es,em,er,ep⟩,t2,g1,hx⟩:=ZGr hx;rw [show 4 - (4 - j)=j by omega] at hx;(conv=>whnf);refine ⟨j,rfl,h5,wN ?_⟩;refine Zi ?_;refine ⟨L,_,_,⟨rfl,rfl,rfl⟩,ho,j+1,⟨oM,oM,oM⟩,_,_,by rw [show 5 - (j+1)=4 - j by omega];exact g1,?_⟩;intro a1 dp1 ca ah
   conv=>whnf
   refine ⟨⟨_,eo,es,em,er,ep,a1,dp1,_,rfl,rfl,oM,ah,hx⟩,?_⟩
   clear hx g1
   intro vs σ hI
   obtain ⟨f,eo,es,em,er,ep,a2,dp2,ts2,rfl,rfl,cy,af,hx⟩:=hI
   cases f with
   | zero=>cases hx
   | succ f =>
   rw [ZuJ] at hx;obtain ⟨o,dx⟩:∃o,opJ ts2 (ZC1 j) (ZC2 j) 0=o:=⟨_,rfl⟩
   have ai:o≠0->ts2≠[]:=fun g=>ZvU _ _ (by rw [dx];exact g)
   rw [dx] at hx;obtain ⟨k,hk⟩:∃k:Nat,k=j+1:=⟨_,rfl⟩
   have hk5:5 - k=4 - j:=oM;have dw:j=0\/j=1\/j=2\/j=3\/j=4:=oM;rcases dw with rfl | rfl | rfl | rfl | rfl
   all_goals
    simp [ZC1,ZC2,opJ] at dx
    (repeat'
     conv=>whnf
     refine ⟨_,dM,rfl,wN ?_⟩;refine ⟨L,_,_,⟨rfl,rfl,rfl⟩,af,0,⟨rfl,oM⟩,fun b hb=>?_⟩;rw [show isW ts2 [_]=b from hb] at dx
     clear hb
     intro a3 dp3 dc ak
     have cy:=Int.le_trans cy dc;have af:=ak
     cases b
     case' true =>
      conv=>whnf
      refine ⟨_,dM,rfl,?_⟩
     all_goals
      conv=>whnf
      refine oiD ?_)
   all_goals
    simp at dx;subst dx;(conv=>whnf)
   all_goals first
    | (rw [Tj rfl] at hx;cases hx;exact h _ _ oM (by assumption))
    | (rw [Tf dM] at hx
       obtain ⟨⟨go,gs,gm,gr,gp⟩,t3,g3,hx⟩:=ZGr hx;have hn:=af.tl (ai dM);have hh:=hn.hi;refine Or.inl ⟨hn.inr,wN ?_⟩;refine XS ?_;refine ⟨L,_,_,⟨rfl,rfl,rfl⟩,hn,k,⟨oM,oM,oM⟩,_,_,by rw [hk5];exact g3,?_⟩;intro a6 dp6 nf et
       conv=>whnf
       refine ⟨⟨f,_,_,_,_,_,a6,dp6,_,rfl,by rfl,oM,et,hx⟩,?_⟩;show ((L.length:Int) - a6).toNat<((L.length:Int) - a2).toNat;omega)
  exact h.elim
 exact h.elim
def ZuR:PC w0 nG 214 (VO 0 6):=by
 refine pwe Tryz.func214 fun args σ K h=>?_
 unfold VO iSp at h
 split at h
 ·obtain ⟨L,d,ts,_,ho,h⟩:=h;split at h
  ·obtain ⟨j,⟨_,hj,gj⟩,_⟩:=h;omega
  exact h.elim
 exact h.elim
def ZmP {n:Nat} (he:PC w0 nG 214 (VO n 6)):∀k,k<=6->PC w0 nG 214 (VO n (6 - k))
 | 0,_=>he
 | k+1,hk=>by
  have ih:=ZmP he k oM;rw [show 6 - k=(6 - (k+1))+1 by omega] at ih;exact ZC3 ⟨ZuO (ZuQ he) he,ZAd,ih,XA,trivial⟩
def ZC4:∀n,PC w0 nG 214 (VO n 6)
 | 0=>ZuR
 | n+1=>(ZmP (ZC4 n) 6 oM).weaken1 fun args σ K h=>by
  unfold VO iSp at h |-
  split at h
  ·obtain ⟨L,d,ts,h1,h2,h⟩:=h;refine ⟨L,d,ts,h1,h2,?_⟩;split at h
   ·obtain ⟨j,⟨h3,h4,h5⟩,h6⟩:=h;exact ⟨j,⟨h3,h4,oM⟩,h6⟩
   exact h.elim
  exact h
def Ze6 (ts:Ts):Nat->Nat
 | 0=>0
 | i+1=>if isW ts [relWords[i]?.getD []]=true then 3+i else Ze6 ts i
def ZrZ (ts:Ts):Nat->Nat
 | 0=>0
 | i+1=>if ZrZ ts i≠0 then ZrZ ts i else if isW ts [aggWords[i]?.getD []]=true then 9+i else 0
def Zr0 (ts:Ts):∀i,Ze6 ts i<=2+i
 | 0=>by simp [Ze6]
 | i+1=>by have:=Zr0 ts i;rw [Ze6];split <;> omega
def Zr1 {ts:Ts}:∀i,Ze6 ts i≠0->ts≠[]
 | 0,h=>absurd rfl h
 | i+1,h=>by
  rw [Ze6] at h;split at h
  ·exact YA (by assumption)
  exact Zr1 i h
def Zgs {ts:Ts} {i:Nat} (h:ZrZ ts (i+1)=9+i) (h0:ZrZ ts i=0):∀k,ZrZ ts (i+1+k)=9+i
 | 0=>h
 | k+1=>by
  have:=Zgs h h0 k;rw [show i+1+(k+1)=(i+1+k)+1 by omega,ZrZ,this,Tj oM]
def ZAe (d op a:Nat) (ts:Ts):R Li:=(YO ts).bind fun nm ts=>(ZrX d (exU d) [40] [41] ts).bind fun l ts=>.ok (.mk op nm l [] a) ts
def ZFr (d:Nat) (bd:Ts->R (List Li)) (op a:Nat) (l:List Ex) (ts:Ts):R Li :=
 (if op=9 then .ok l ts.tail else (exJ d ts.tail).bind fun g t=>.ok (l++[g]) t).bind fun l ts=>(ZP [58] ts).bind fun _ ts=>(Zp d [123] [125] bd ts).bind fun b ts=>.ok (.mk op [] l b a) ts
def ZC5 (d:Nat) (bd:Ts->R (List Li)) (t0:Ts):R Li :=
 if isW t0 [[33]]=true then ZAe d 2 t0.length t0.tail
 else if ZE t0=true/\isW t0.tail [[40]]=true then ZAe d 1 t0.length t0
 else (exJ d t0).bind fun e ts=>if Ze6 ts 6=0 then .err ts.length 150 else
  if Ze6 ts 6=3/\ZrZ ts.tail 4≠0 then ZFr d bd (ZrZ ts.tail 4) t0.length [e] ts.tail
  else (exJ d ts.tail).bind fun g t=>.ok (.mk (Ze6 ts 6) [] [e,g] [] t0.length) t
def Zr2 (d:Nat) (bd:Ts->R (List Li)) (ts:Ts):R (List Li):=Zeu [44] (ZC5 d bd) 32 [] ts
def Zr3:Nat->Ts->R (List Li)
 | 0=>Zr2 0 fun _=>.err 0 150
 | d+1=>Zr2 (d+1) (Zr3 d)
def Zr4:Nat->Ts->R (List Li)
 | 0=>fun _=>.err 0 150
 | d+1=>Zr3 d
def ZuS (d:Nat):Zr3 d=Zr2 d (Zr4 d):=by cases d <;> rfl
def ZC6 (d:Nat) (t0:Ts):R Ru:=(YO t0).bind fun nm ts=>(ZrX d (exU d) [40] [41] ts).bind fun l ts=>(if isW ts [[58,45]]=true then Zr3 d ts.tail else .ok [] ts).bind fun b ts=>(ZP [46] ts).bind fun _ ts=>.ok ⟨nm,l,b,t0.length⟩ ts
def Zlb (n:Nat):Zk:=iSp fun rest pl d ts K=>match rest with
 | [.d (.int .u8 op),.d (.int .i64 p)]=>∃o r:Nat,(op=o/\p=pl r/\d<n+1)/\∃x t1,ZAe d o r ts=.ok x t1/\K (Ut (YQ pl x)) d t1
 | _=>False
abbrev ZmQ (n:Nat):Zk:=iR (fun pl v=>Ut (YQ pl v)) (fun d=>ZC5 d (Zr4 d)) (fun d=>d<n+1)
abbrev VP (n:Nat):Zk:=iR (fun pl v=>.d (.sl (ZL pl v))) Zr3 (fun d=>d<n)
abbrev ZhU (n:Nat):Zk:=iR (fun pl v=>Ut (ZQ pl v)) ZC6 (fun d=>d<n+1)
def ZmR (n:Nat):Zk:=fun args σ K=>match args,σ with
 | [.ptr 0 0,.agg [.d (.int .u8 o),.d (.str s),.sl 0 e1 rows1,.sl 1 e2 rows2,.d (.int .i64 p)],.d (.int .u8 op)],⟨[.cells t [.d (.sl rows),.d (.int .i64 a),.d (.int .i64 en),.d (.int .i64 dp),.d (.int .i64 w),.d (.int .i64 q)]],[1,0],2⟩ =>
   ∃(L:List Tok) (d:Nat) (ts:Ts) (l:List Ex) (r k:Nat),((rows=Zz L/\w=0/\q=0)/\(s=[]/\e1=25/\e2=30/\rows2=[])/\rows1=Ze (Zb L en) l/\p=Zb L en r/\op=k)/\IK L a dp d ts/\(ts≠[]/\d<n+1/\l.length<=1) /\
    ∃x t1,ZFr d (Zr4 d) k r l ts=.ok x t1/\∀a' dp',a<=a'->IK L a' dp' d t1->K (.ret (Ut (YQ (Zb L en) x))) ⟨[U9 t L a' en dp'],[],0⟩
 | _,_=>False
def ZuU (n:Nat):PC w0 nG 255 (Zlb n):=by
 refine pwt (tbl:=[(100,ZbG),(156,Zex n)]) ⟨ZcQ,ZhT (ZC4 n),trivial⟩ Tryz.func255 fun args σ K h=>?_
 unfold Zlb iSp at h
 split at h
 ·rename_i rest t rows a en dp w q
  obtain ⟨L,d,ts,⟨rfl,rfl,rfl⟩,ho,h⟩:=h;split at h
  ·obtain ⟨o,r,⟨rfl,rfl,gj⟩,x,t1,hx,h⟩:=h;obtain ⟨s1,u1,g1,hx⟩:=ZGr hx;obtain ⟨cz,rfl,rfl⟩:=ZhR g1;obtain ⟨l,u2,g2,hx⟩:=ZGr hx
   cases hx
   refine pwv [] 1 false ?_;refine ⟨L,_,_,⟨rfl,rfl,rfl⟩,ho,cz,?_⟩;intro a1 dp1 ca ah
   conv=>whnf
   refine ⟨L,_,_,⟨rfl,rfl,rfl⟩,ah,⟨rfl,sM,gj⟩,_,_,g2,?_⟩;intro a2 dp2 cy af
   conv=>whnf
   exact h _ _ oM af
  exact h.elim
 exact h.elim
def ZuW {n:Nat} (hb:PC w0 nG 157 (VP (n+1))):PC w0 nG 101 (ZhU n):=by
 refine pwt (tbl:=[(99,J3),(100,ZbG),(156,Zex n),(54,XP),(157,VP (n+1)),(151,UD)]) ⟨ZaR,ZcQ,ZhT (ZC4 n),XA,hb,UY,trivial⟩ Tryz.func101 fun args σ K h=>?_
 unfold ZhU iR iSp at h
 split at h
 ·rename_i rest t rows a en dp w q
  obtain ⟨L,d,ts,⟨rfl,rfl,rfl⟩,ho,h⟩:=h;split at h
  ·obtain ⟨gj,x,t1,hx,h⟩:=h;obtain ⟨s1,u1,g1,hx⟩:=ZGr hx;obtain ⟨cz,rfl,rfl⟩:=ZhR g1;obtain ⟨l,u2,g2,hx⟩:=ZGr hx;obtain ⟨bd,u3,g3,hx⟩:=ZGr hx;obtain ⟨_,u4,g4,hx⟩:=ZGr hx;obtain ⟨jr,rfl⟩:=Zer g4
   cases hx
   refine pwv [] 1 false ?_;refine ⟨L,_,_,⟨rfl,rfl,rfl⟩,ho,?_⟩;intro a0 dp0 og ho0
   conv=>whnf
   refine ⟨L,_,_,⟨rfl,rfl,rfl⟩,ho0,cz,?_⟩;intro a1 dp1 ca ah
   conv=>whnf
   refine ⟨L,_,_,⟨rfl,rfl,rfl⟩,ah,⟨rfl,sM,gj⟩,_,_,g2,?_⟩;intro a2 dp2 cy af
   conv=>whnf
   refine ⟨L,_,_,⟨rfl,rfl,rfl⟩,af,0,⟨rfl,oM⟩,fun b hb=>?_⟩;have hb:isW u2 [[58,45]]=b:=hb;rw [hb] at g3;intro a3 dp3 dc ak
   cases b with
   | false =>
    rw [Tf sM] at g3
    cases g3
    conv=>whnf
    refine ⟨L,_,_,⟨rfl,rfl,rfl⟩,ak,jr,?_⟩;exact mq124
   | true =>
   rw [Tj rfl] at g3;have hn:=ak.tl (YA hb);(conv=>whnf);refine Or.inl ⟨hn.inr,wN ?_⟩;refine ⟨L,_,_,⟨rfl,rfl,rfl⟩,hn,gj,_,_,g3,?_⟩;intro a4 dp4 ei bz
   conv=>whnf
   refine ⟨L,_,_,⟨rfl,rfl,rfl⟩,bz,jr,?_⟩;intro a5 dp5 iz cj
   conv=>whnf
   exact h _ _ oM cj
  exact h.elim
 exact h.elim
def ZAg {n:Nat} (hb:PC w0 nG 157 (VP n)):PC w0 nG 256 (ZmR n):=by
 refine pwt (tbl:=[(214,VO (n+1) 6),(151,UD),(154,J4),(157,VP n),(155,ZbF)]) ⟨ZC4 _,UY,ZaT,hb,ZcP,trivial⟩ Tryz.func256 fun args σ K h=>?_
 unfold ZmR at h
 split at h
 ·rename_i o s e1 rows1 e2 rows2 p op t rows a en dp w q
  obtain ⟨L,d,ts,l,r,k,⟨⟨rfl,rfl,rfl⟩,⟨rfl,rfl,rfl,rfl⟩,rfl,rfl,rfl⟩,ho,⟨ai,gj,ca⟩,x,t1,hx,h⟩:=h;obtain ⟨l2,u1,g1,hx⟩:=ZGr hx;obtain ⟨_,u2,g2,hx⟩:=ZGr hx;obtain ⟨ii,rfl⟩:=Zer g2;obtain ⟨bd,u3,g3,hx⟩:=ZGr hx
  cases hx
  obtain ⟨hw,⟨e,rfl⟩,t2,g6,h2⟩:=Zes g3;obtain ⟨gf,rfl⟩:isW t2 [[125]]=true/\t1=t2.tail:=by rcases h2 with ⟨g,_⟩ | g;exact absurd g dM;exact g.2
  have h64:=ho.d64;have hn:=ho.tl ai;have rh:(Ze (Zb L en) l).length<=1:=by rw [Zc,Td];exact ca
  refine pwv [] 1 false ?_;refine Or.inl ⟨hn.inr,wN ?_⟩;refine ZGi (fun hc=>?_) (fun hc=>?_)
  case' refine_1 =>
   rw [Tf (show ¬k=9 by have hc:¬(k:Int)=9:=hc;omega)] at g1;obtain ⟨⟨eo,es,em,er,ep⟩,u5,g5,g1⟩:=ZGr g1
   cases g1
   simp only [YQ,Zc,TS,Tz,TJ] at h;rw [<- Zc] at h;(conv=>whnf);refine ⟨L,_,_,⟨rfl,rfl,rfl⟩,hn,0,⟨rfl,oM,.inl oM⟩,_,_,g5,?_⟩;intro a1 dp1 tu ah
   conv=>whnf
   refine ⟨Tq.2 rfl,(show ((Ze (Zb L en) l).length+1) * 64<=2 ^ 47 by omega),(show (Ze (Zb L en) l).length+1<=2 ^ 47 by omega),wN ?_⟩
   (repeat (refine ⟨rfl,?_⟩;conv=>whnf))
  case' refine_2 =>
   rw [Tj (show k=9 by have hc:(k:Int)=9:=hc;omega)] at g1
   cases g1
   have ah:=hn;have tu:=Int.le_refl (a+1);(conv=>whnf)
  all_goals
   refine ⟨L,_,_,⟨rfl,rfl,rfl⟩,ah,ii,?_⟩;intro a2 dp2 cy af
   conv=>whnf
   refine ⟨L,_,_,⟨rfl,rfl,rfl⟩,af,hw,e,rfl,?_⟩;intro a3 dp3 dc ak
   conv=>whnf
   refine ⟨L,_,_,⟨rfl,rfl,rfl⟩,ak,(show e<n by omega),_,_,g6,?_⟩;intro a4 dp4 ei bz
   conv=>whnf
   refine ⟨L,_,_,⟨rfl,rfl,rfl⟩,bz,⟨gf,oM⟩,?_⟩;intro a5 dp5 iz cj
   conv=>whnf
   exact h _ _ oM cj
 exact h.elim
def ZuY {n:Nat} (hl:PC w0 nG 215 (ZmQ n)):PC w0 nG 157 (VP (n+1)):=by
 refine pwt (tbl:=[(213,UC),(54,XP),(94,ZbH),(215,ZmQ n)]) ⟨ZbI,XA,ZcR,hl,trivial⟩ Tryz.func157 fun args σ K h=>?_
 unfold VP iR iSp at h
 split at h
 ·rename_i rest t rows a en dp w q
  obtain ⟨L,d,ts,⟨rfl,rfl,rfl⟩,ho,h⟩:=h;split at h
  ·obtain ⟨gj,x,t1,hx,h⟩:=h;rw [ZuS] at hx;refine pwv [(2,⟨[3],[0],fun vs σ=>∃(l:List Li) (f:Nat) (a' dp':Int) (ts':Ts),vs=[.sl 0 30 (l.map (YQ (Zb L en)))]/\σ=⟨[U9 t L a' en dp'],[0],1⟩/\a<=a'/\IK L a' dp' d ts'/\l.length+f=32/\Zeu [44] (ZC5 d (Zr4 d)) f l ts'=.ok x t1,ZAF L⟩)] 1 false ?_;refine ⟨⟨[],32,a,dp,_,rfl,rfl,oM,ho,rfl,hx⟩,?_⟩;intro vs σ hI
   obtain ⟨l,f,a3,dp3,ts3,rfl,rfl,dc,ak,hf,hx⟩:=hI;obtain ⟨g,⟨eo,es,ea,eb,ep⟩,t4,rfl,hv,hm,hq⟩:=UZ hx;have nv:(l.map (YQ (Zb L en))).length<32:=by rw [Td];omega
   have zo:((l.map (YQ (Zb L en))).length:Int)<32:=oM;(conv=>whnf);refine ⟨L,_,_,⟨rfl,rfl,rfl⟩,ak,fun b hb=>?_⟩;intro a4 dp4 ei bz
   cases b
   case' true =>
    conv=>whnf
    refine ⟨L,_,_,⟨rfl,rfl,rfl⟩,bz,zo,?_⟩;intro a6 dp6 nf et
    have ei:=Int.le_trans ei nf;have bz:=et
   case' false =>
    conv=>whnf
    refine ⟨L,_,_,⟨rfl,rfl,rfl⟩,bz,0,⟨rfl,oM⟩,fun b hb=>?_⟩;intro a5 dp5 iz cj
    have ei:=Int.le_trans ei iz;have bz:=cj
    cases b
    case' true =>
     conv=>whnf
     refine ⟨L,_,_,⟨rfl,rfl,rfl⟩,bz,zo,?_⟩;intro a6 dp6 nf et
     have ei:=Int.le_trans ei nf;have bz:=et
   all_goals
    conv=>whnf
    refine ⟨L,_,_,⟨rfl,rfl,rfl⟩,bz,gj,_,_,hv,?_⟩;intro a7 dp7 wl ik
    conv=>whnf
    refine ⟨Tq.2 rfl,(show ((l.map (YQ (Zb L en))).length+1) * 80<=2 ^ 47 by omega),(show (l.map (YQ (Zb L en))).length+1<=2 ^ 47 by omega),wN ?_⟩;refine ⟨L,_,_,⟨rfl,rfl,rfl⟩,ik,0,⟨rfl,oM⟩,fun b hb=>?_⟩;intro a8 dp8 wm ir
    cases b with
    | true =>
     have hn:=ir.tl (YA hb);have hh:=hn.hi;(conv=>whnf);refine Or.inl ⟨hn.inr,wN ?_⟩;refine ⟨⟨l++[.mk eo es ea eb ep],g,_,_,_,by rw [TS];rfl,rfl,oM,hn,by rw [Ta];simp only [Te,Tg];omega,hm hb⟩,?_⟩;show ((L.length:Int) - (a8+1)).toNat<((L.length:Int) - a3).toNat;omega
    | false =>
    obtain ⟨rfl,rfl⟩:=hq hb;dsimp only at h;rw [Zq,TS] at h;(conv=>whnf);exact h _ _ oM ir
  exact h.elim
 exact h.elim
def ZAi {n:Nat} (hg:PC w0 nG 256 (ZmR n)):PC w0 nG 215 (ZmQ n):=by
 refine Zkd Zr mixed (tbl:=[(99,J3),(54,XP),(93,UX),(255,Zlb n),(214,VO (n+1) 6),(256,ZmR n)]) ⟨ZaR,XA,ZaS,ZuU n,ZC4 _,hg,trivial⟩ Tryz.func215 rfl kR kR ?_;intro args σ K h
 unfold ZmQ iR iSp at h
 split at h
 ·rename_i rest t rows a en dp w q
  obtain ⟨L,d,ts,⟨rfl,rfl,rfl⟩,ho,h⟩:=h;split at h
  ·obtain ⟨gj,x,t1,hx,h⟩:=h
   change ZC5 d (Zr4 d) ts=.ok x t1 at hx
   unfold ZC5 at hx
   by_cases hA:isW ts [[33]]=true
   ·rw [Tj hA] at hx;obtain ⟨eo,es,ea,eb,ep⟩:=x;refine ⟨Zg [],Ys [],ZC [],ZC [],ZC [256],ZC [],1,false,sM,Tc rfl,wN ?_⟩;refine ⟨L,_,_,⟨rfl,rfl,rfl⟩,ho,?_⟩;intro a1 dp1 ca ah
    conv=>whnf
    refine ⟨L,_,_,⟨rfl,rfl,rfl⟩,ah,0,⟨rfl,oM⟩,fun b hb=>?_⟩;obtain rfl:b=true:=hb.symm.trans hA;intro a2 dp2 cy af
    have hn:=af.tl (YA hA);(conv=>whnf);refine Or.inl ⟨hn.inr,wN ?_⟩;refine ⟨L,_,_,⟨rfl,rfl,rfl⟩,hn,2,ts.length,⟨rfl,rfl,gj⟩,_,_,hx,?_⟩;intro a3 dp3 dc ak
    conv=>whnf
    exact h _ _ oM ak
   rw [Tf hA] at hx;have hA:isW ts [[33]]=false:=by simpa using hA
   by_cases hB:ZE ts=true/\isW ts.tail [[40]]=true
   ·rw [Tj hB] at hx;obtain ⟨eo,es,ea,eb,ep⟩:=x;refine ⟨Zg [],Ys [],ZC [],ZC [],ZC [256],ZC [],1,false,sM,Tc rfl,wN ?_⟩;refine ⟨L,_,_,⟨rfl,rfl,rfl⟩,ho,?_⟩;intro a1 dp1 ca ah
    conv=>whnf
    refine ⟨L,_,_,⟨rfl,rfl,rfl⟩,ah,0,⟨rfl,oM⟩,fun b hb=>?_⟩;obtain rfl:b=false:=hb.symm.trans hA;intro a2 dp2 cy af
    conv=>whnf
    refine ⟨L,_,_,⟨rfl,rfl,rfl⟩,af,rfl,fun b hb=>?_⟩;obtain rfl:b=true:=hb.symm.trans hB.1;intro a3 dp3 dc ak
    conv=>whnf
    refine ⟨L,_,_,⟨rfl,rfl,rfl⟩,ak,1,⟨rfl,oM⟩,fun b hb=>?_⟩;rw [List.drop_one] at hb;obtain rfl:b=true:=hb.symm.trans hB.2;intro a4 dp4 ei bz
    conv=>whnf
    refine ⟨L,_,_,⟨rfl,rfl,rfl⟩,bz,1,ts.length,⟨rfl,rfl,gj⟩,_,_,hx,?_⟩;intro a5 dp5 iz cj
    conv=>whnf
    exact h _ _ oM cj
   rw [Tf hB] at hx;obtain ⟨⟨eo,es,em,er,ep⟩,ts1,g1,hx⟩:=ZGr hx;split at hx
   ·cases hx
   rename_i dx
   refine ⟨Zg [(11,⟨[7],[0,2,4,5,6],fun vs σ=>∃(i:Nat) (a' dp':Int),vs=[.d (.int .i64 i)] /\
     σ=⟨[U9 t L a' en dp',.cells 30 [.d (.int .u8 0),.d (.str []),.sl 0 25 [],.sl 1 30 [],.d (.int .i64 0)],
      .cells 30 [.d (.int .u8 (Ze6 ts1 i)),.d (.str []),.sl 2 25 [],.sl 3 30 [],.d (.int .i64 (Zb L en ts.length))],
      .cells 25 [.d (.int .u8 eo),.d (.str es),.d (.int .i64 em),.d (.sl (Ze (Zb L en) er)),.d (.int .i64 (Zb L en ep))]],[3,2,1,0],4⟩/\i<=6/\a<=a'/\IK L a' dp' d ts1,
     fun vs _=>match vs with | [.d (.int _ i)]=>(6 - i).toNat | _=>0⟩),
    (22,⟨[9],[0,2,4,8],fun vs σ=>∃(i:Nat) (a' dp':Int),vs=[.d (.int .i64 i)] /\
     σ=⟨[U9 t L a' en dp',.cells 30 [.d (.int .u8 0),.d (.str []),.sl 0 25 [],.sl 1 30 [],.d (.int .i64 0)],
      .cells 30 [.d (.int .u8 (Ze6 ts1 6)),.d (.str []),.sl 2 25 [ZF (Zb L en) (.mk eo es em er ep)],.sl 3 30 [],.d (.int .i64 (Zb L en ts.length))],
      .cells 25 [.d (.int .u8 eo),.d (.str es),.d (.int .i64 em),.d (.sl (Ze (Zb L en) er)),.d (.int .i64 (Zb L en ep))]],[3,2,1,0],4⟩/\i<=4/\a<=a'/\IK L a' dp' d ts1.tail/\(Ze6 ts1 6=3->ZrZ ts1.tail i=0),
     fun vs _=>match vs with | [.d (.int _ i)]=>(4 - i).toNat | _=>0⟩)],Ys [],ZC [],ZC [],ZC [256],ZC [],1,false,sM,Tc rfl,?_⟩
   conv=>whnf
   refine ⟨L,_,_,⟨rfl,rfl,rfl⟩,ho,?_⟩;intro a1 dp1 ca ah
   conv=>whnf
   refine ⟨L,_,_,⟨rfl,rfl,rfl⟩,ah,0,⟨rfl,oM⟩,fun b hb=>?_⟩;obtain rfl:b=false:=hb.symm.trans hA;intro a2 dp2 cy af
   conv=>whnf
   refine ⟨L,_,_,⟨rfl,rfl,rfl⟩,af,rfl,fun b1 bv=>?_⟩;intro a3 dp3 dc ak
   cases b1
   case' true =>
    conv=>whnf
    refine ⟨L,_,_,⟨rfl,rfl,rfl⟩,ak,1,⟨rfl,oM⟩,fun b2 dq=>?_⟩;rw [List.drop_one] at dq;obtain rfl:b2=false:=by cases b2 with | false=>rfl | true=>exact absurd ⟨bv,dq⟩ hB
    intro a4 dp4 ei bz
    have dc:=Int.le_trans dc ei;have ak:=bz
   all_goals
    conv=>whnf
    refine ⟨L,_,_,⟨rfl,rfl,rfl⟩,ak,0,⟨rfl,oM,.inl gj⟩,_,_,g1,?_⟩;intro a5 dp5 iz cj
    conv=>whnf
    refine ⟨⟨0,a5,dp5,rfl,rfl,oM,oM,cj⟩,?_⟩;intro vs σ hI
    obtain ⟨i,a6,dp6,rfl,rfl,hi,nf,et⟩:=hI;(conv=>whnf);refine ZGg (fun ab=>wN ?_) (fun ab=>?_)
    ·have ab:i<6:=by have ab:(i:Int)<6:=ab;omega
     obtain ⟨u,hu⟩:∃u,relWords[i]?=some u:=⟨_,Tb (show i<relWords.length from ab)⟩
     have cf:(relWords.map fun w=>[D.str w])[((i:Nat):Int).toNat]?=some [D.str u]:=by simp [hu]
     refine ⟨_,oM,cf,wN ?_⟩;refine ⟨L,_,_,⟨rfl,rfl,rfl⟩,et,0,⟨rfl,oM⟩,fun b hb=>?_⟩;have i5:Ze6 ts1 (i+1)=if b=true then 3+i else Ze6 ts1 i:=by rw [Ze6,hu,<- hb];rfl
     intro a7 dp7 wl ik
     cases b with
     | true =>
      conv=>whnf
      refine W7 ?_;refine W7 ?_;exact mq125
     | false =>
     conv=>whnf
     exact mq125
    obtain rfl:i=6:=by have ab:¬(i:Int)<6:=ab;omega
    have am:=Zr0 ts1 6;have hn:=et.tl (Zr1 6 dx);(conv=>whnf);refine ZGg (fun g=>absurd (show Ze6 ts1 6=0 by have g:(Ze6 ts1 6:Int)=0:=g;omega) dx) (fun _=>wN ?_);refine Or.inl ⟨hn.inr,wN ?_⟩;refine ⟨Tq.2 rfl,(show (0+1) * 64<=2 ^ 47 by omega),(show 0+1<=2 ^ 47 by omega),wN ?_⟩;refine ⟨⟨0,_,_,rfl,rfl,oM,oM,hn,fun _=>rfl⟩,?_⟩
    clear ca ah cy af dc ak iz cj nf et hn
    intro vs σ hI
    obtain ⟨i,a6,dp6,rfl,rfl,hi,nf,et,zp⟩:=hI;(conv=>whnf);refine ZGg (fun ab=>wN ?_) (fun ab=>?_)
    ·have ab:i<4:=by have ab:(i:Int)<4:=ab;omega
     obtain ⟨u,hu⟩:∃u,aggWords[i]?=some u:=⟨_,Tb (show i<aggWords.length from ab)⟩
     have cf:(aggWords.map fun w=>[D.str w])[((i:Nat):Int).toNat]?=some [D.str u]:=by simp [hu]
     refine ZGg (fun h3=>wN ?_) (fun h3=>wN ?_)
     ·have h3:Ze6 ts1 6=3:=by have h3:(Ze6 ts1 6:Int)=3:=h3;omega
      have zp:=zp h3;refine ⟨_,oM,cf,wN ?_⟩;refine ⟨L,_,_,⟨rfl,rfl,rfl⟩,et,0,⟨rfl,oM⟩,fun b hb=>?_⟩;have hb:isW ts1.tail [u]=b:=hb;have zq:ZrZ ts1.tail (i+1)=if b=true then 9+i else 0:=by rw [ZrZ,Tf (by rw [zp];simp),hu,<- hb];rfl
      intro a7 dp7 wl ik
      cases b with
      | true =>
       have hj:=Zgs zq zp (3 - i);rw [show i+1+(3 - i)=4 by omega] at hj;rw [Tj ⟨h3,by rw [hj];omega⟩,hj] at hx;obtain ⟨xo,xs,xa,xb,xp⟩:=x;(conv=>whnf);refine W7 ?_;refine W7 ?_;refine ⟨L,_,_,[.mk eo es em er ep],ts.length,9+i,⟨⟨rfl,rfl,rfl⟩,⟨rfl,rfl,rfl,rfl⟩,rfl,rfl,oM⟩,ik,⟨YA hb,gj,sM⟩,_,_,hx,?_⟩;intro a8 dp8 wm ir
       conv=>whnf
       exact h _ _ oM ir
      | false =>
      conv=>whnf
      refine Zi ?_;refine ⟨⟨i+1,_,_,rfl,rfl,oM,oM,ik,fun _=>zq⟩,?_⟩;show (4 - ((i:Int)+1)).toNat<(4 - (i:Int)).toNat;omega
     have h3:¬Ze6 ts1 6=3:=by have h3:¬(Ze6 ts1 6:Int)=3:=h3;omega
     refine Zi ?_;refine ⟨⟨i+1,_,_,rfl,rfl,oM,oM,et,fun g=>absurd g h3⟩,?_⟩;show (4 - ((i:Int)+1)).toNat<(4 - (i:Int)).toNat;omega
    obtain rfl:i=4:=by have ab:¬(i:Int)<4:=ab;omega
    rw [Tf (fun g=>g.2 (zp g.1))] at hx;obtain ⟨⟨go,gs,gm,gr,gp⟩,t3,g3,hx⟩:=ZGr hx
    cases hx
    conv=>whnf
    refine ⟨L,_,_,⟨rfl,rfl,rfl⟩,et,0,⟨rfl,oM,.inl gj⟩,_,_,g3,?_⟩;intro a8 dp8 wm ir
    conv=>whnf
    refine ⟨Tq.2 rfl,(show (1+1) * 64<=2 ^ 47 by omega),(show 1+1<=2 ^ 47 by omega),wN ?_⟩;exact h _ _ oM ir
  exact h.elim
 exact h.elim
def ZuZ:PC w0 nG 157 (VP 0):=by
 refine pwe Tryz.func157 fun args σ K h=>?_
 unfold VP iR iSp at h
 split at h
 ·obtain ⟨L,d,ts,_,ho,h⟩:=h;split at h
  ·exact absurd h.1 (Nat.not_lt_zero _)
  exact h.elim
 exact h.elim
def ZvW:∀n,PC w0 nG 157 (VP n)
 | 0=>ZuZ
 | n+1=>ZuY (ZAi (ZAg (ZvW n)))
def ZC7 (n:Nat):PC w0 nG 101 (ZhU n):=ZuW (ZvW (n+1))
structure U3 where
 tys:List Ty
 rels:List Re
 rules:List Ru
def Zu0 (d:Nat) (u:U3) (ts:Ts):R U3 :=
 if (hd ts).kind≠1 then .err 0 150
 else if (hd ts).text=[116,121,112,101] then (if u.tys.length<256 then (ZrU ts.tail).bind fun x ts=>.ok ⟨u.tys++[x],u.rels,u.rules⟩ ts else .err 0 3)
 else if (hd ts).text=[100,101,99,108] then (if u.rels.length<256 then (ZAa ts.tail).bind fun x ts=>.ok ⟨u.tys,u.rels++[x],u.rules⟩ ts else .err 0 3)
 else if ZE ts=true then (if u.rules.length<1024 then (ZC6 d ts).bind fun x t1=>if t1.length<ts.length then .ok ⟨u.tys,u.rels,u.rules++[x]⟩ t1 else .err 0 150 else .err 0 3)
 else .err 0 150
def Zr5 (d:Nat):Nat->U3->Ts->R U3
 | 0,_,_=>.err 0 150
 | f+1,u,ts=>match ts with
  | []=>.ok u []
  | t::ts=>(Zu0 d u (t::ts)).bind fun u ts=>Zr5 d f u ts
def Zr6 (s:Bs):Option (Pl×U3):=match ZDw s with
 | none=>none
 | some l=>if s.length<=65536/\l.length<=1048576/\(l.all fun t=>decide (1<=t.kind) && decide (t.kind<=4))=true then
   (match Zr5 64 (l.length+1) ⟨[],[],[]⟩ (l.map Tok.t0) with
    | .ok u []=>some (Zb l s.length,u)
    | _=>none) else none
abbrev ZDy (pl:Pl) (u:U3):PV:=.agg [.sl 0 144 (u.tys.map (Zs pl)),.sl 1 148 (u.rels.map (ZM pl)),.sl 2 51 (u.rules.map (ZQ pl)),.sl 3 172 [],.sl 4 175 [],.sl 5 179 []]
def Zlc (n:Nat):Zk:=fun args σ K=>match args,σ with
 | [.ptr 0 0,.agg [.sl 0 e0 r0,.sl 1 e1 r1,.sl 2 e2 r2,.sl 3 e3 r3,.sl 4 e4 r4,.sl 5 e5 r5]],⟨[.cells t [.d (.sl rows),.d (.int .i64 a),.d (.int .i64 en),.d (.int .i64 dp),.d (.int .i64 w),.d (.int .i64 q)]],[5,4,3,2,1,0],6⟩ =>
   ∃(L:List Tok) (d:Nat) (ts:Ts) (u:U3),((rows=Zz L/\w=0/\q=0)/\((e0=144/\r0=u.tys.map (Zs (Zb L en)))/\(e1=148/\r1=u.rels.map (ZM (Zb L en)))/\(e2=51/\r2=u.rules.map (ZQ (Zb L en))))/\(e3=172/\r3=[])/\(e4=175/\r4=[])/\e5=179/\r5=[])/\IK L a dp d ts/\(ts≠[]/\d<n+1) /\
    ∃x t1,Zu0 d u ts=.ok x t1/\∀a' dp',a<a'->IK L a' dp' d t1->K (.ret (ZDy (Zb L en) x)) ⟨[U9 t L a' en dp'],[5,4,3,2,1,0],6⟩
 | _,_=>False
def Zld {ts:Ts} (h:ZE ts=true) {w:Bs} (hw:Zbg w=true):¬(hd ts).text=w:=by
 rintro rfl
 simp only [ZE,Tl] at h;rw [hw] at h;exact absurd h.2.2 dM
def Zu2 (n:Nat):PC w0 nG 55 (Zlc n):=by
 refine Zkd Zr mixed (tbl:=[(93,UX),(94,ZbH),(95,ZhS),(96,Zk8),(101,ZhU n)]) ⟨ZaS,ZcR,ZrW,ZuI,ZC7 n,trivial⟩ Tryz.func55 rfl kR kR ?_;intro args σ K h
 unfold Zlc at h
 split at h
 ·rename_i e0 r0 e1 r1 e2 r2 e3 r3 e4 r4 e5 r5 t rows a en dp w q
  obtain ⟨L,d,ts,u,⟨⟨rfl,rfl,rfl⟩,⟨⟨rfl,rfl⟩,⟨rfl,rfl⟩,rfl,rfl⟩,⟨rfl,rfl⟩,⟨rfl,rfl⟩,rfl,rfl⟩,ho,⟨ai,gj⟩,x,t1,hx,h⟩:=h;obtain ⟨h0,y,hy,fc,_,iu,ec⟩:=ho.at0 (ho.lt ai);unfold Zu0 at hx
  have hnw:∀{w:Bs},ZE ts=true->Zbg w=true->¬y.text=w:=fun h hw g=>Zld h hw (by rw [fc];exact g)
  rw [fc] at hx;have jd:y.t0.kind=y.kind:=rfl;have wj:y.t0.text=y.text:=rfl;rw [jd,wj] at hx;split at hx
  ·cases hx
  rename_i hk
  have aa:=ho.lt ai;refine ⟨Zg [],Ys [],ZC [],ZC [],ZC [],ZC [],1,true,sM,Tc rfl,wN ?_⟩;refine ZGg (fun hc=>wN ?_) (fun hc=>absurd aa hc);refine ⟨_,h0,hy,wN ?_⟩;refine ZGg (fun dv=>?_) (fun dv=>absurd (show (y.kind:Int)=1 by omega) dv);(conv=>whnf);refine ⟨_,h0,hy,wN ?_⟩
  by_cases t0:y.text=[116,121,112,101]
  ·rw [Tj t0] at hx;split at hx
   case isFalse=>cases hx
   rename_i hlen
   obtain ⟨⟨vk,vn,vb,vf,vc,vp⟩,t2,g2,hx⟩:=ZGr hx
   cases hx
   have nv:(u.tys.map (Zs (Zb L en))).length<256:=by rw [Td];omega
   simp only [ZDy,TS,Tz,TJ] at h;refine ZGg (fun _=>wN ?_) (fun g=>absurd t0 g);refine ⟨L,_,_,⟨rfl,rfl,rfl⟩,ho,(show ((u.tys.map (Zs (Zb L en))).length:Int)<256 by omega),?_⟩;intro a1 dp1 ca ah
   have hn:=ah.tl ai;(conv=>whnf);refine Or.inl ⟨hn.inr,wN ?_⟩;refine ZGg (fun _=>wN ?_) (fun g=>absurd t0 g);refine ⟨L,_,_,⟨rfl,rfl,rfl⟩,hn,trivial,_,_,g2,?_⟩;intro a3 dp3 dc ak
   conv=>whnf
   (repeat (refine ⟨rfl,?_⟩;conv=>whnf))
   refine ⟨Tq.2 rfl,(show ((u.tys.map (Zs (Zb L en))).length+1) * 96<=2 ^ 47 by omega),(show (u.tys.map (Zs (Zb L en))).length+1<=2 ^ 47 by omega),wN ?_⟩;exact mq147
  rw [Tf t0] at hx
  by_cases t1:y.text=[100,101,99,108]
  ·rw [Tj t1] at hx;split at hx
   case isFalse=>cases hx
   rename_i hlen
   obtain ⟨⟨vn,vf,vi,vo,vl,vp⟩,t2,g2,hx⟩:=ZGr hx
   cases hx
   have nv:(u.rels.map (ZM (Zb L en))).length<256:=by rw [Td];omega
   simp only [ZDy,TS,Tz,TJ] at h;refine ZGg (fun g=>absurd g t0) (fun _=>wN ?_);refine ZGg (fun _=>wN ?_) (fun g=>absurd t1 g);refine ⟨L,_,_,⟨rfl,rfl,rfl⟩,ho,(show ((u.rels.map (ZM (Zb L en))).length:Int)<256 by omega),?_⟩;intro a1 dp1 ca ah
   have hn:=ah.tl ai;(conv=>whnf);refine Or.inl ⟨hn.inr,wN ?_⟩;refine ZGg (fun g=>absurd g t0) (fun _=>wN ?_);refine ZGg (fun _=>wN ?_) (fun g=>absurd t1 g);refine ⟨L,_,_,⟨rfl,rfl,rfl⟩,hn,trivial,_,_,g2,?_⟩;intro a3 dp3 dc ak
   conv=>whnf
   (repeat (refine ⟨rfl,?_⟩;conv=>whnf))
   refine ⟨Tq.2 rfl,(show ((u.rels.map (ZM (Zb L en))).length+1) * 56<=2 ^ 47 by omega),(show (u.rels.map (ZM (Zb L en))).length+1<=2 ^ 47 by omega),wN ?_⟩;exact mq147
  rw [Tf t1] at hx;split at hx
  case isFalse=>cases hx
  rename_i y8
  split at hx
  case isFalse=>cases hx
  rename_i hlen
  obtain ⟨⟨vh,va,vb,vp⟩,t2,g2,hx⟩:=ZGr hx;split at hx
  case isFalse=>cases hx
  rename_i gf
  cases hx
  have t2:¬y.text=[99,111,109,112]:=hnw y8 dM;have t3:¬y.text=[105,110,105,116]:=hnw y8 dM;have t4:¬y.text=[111,118,101,114,114,105,100,101]:=hnw y8 dM;have nv:(u.rules.map (ZQ (Zb L en))).length<1024:=by rw [Td];omega
  simp only [ZDy,TS,Tz,TJ] at h;refine ZGg (fun g=>absurd g t0) (fun _=>wN ?_);refine ZGg (fun g=>absurd g t1) (fun _=>wN ?_);refine ZGg (fun g=>absurd g t2) (fun _=>wN ?_);refine ZGg (fun g=>absurd g t3) (fun _=>wN ?_);refine ZGg (fun g=>absurd g t4) (fun _=>wN ?_);refine ⟨L,_,_,⟨rfl,rfl,rfl⟩,ho,rfl,fun b hb=>?_⟩;obtain rfl:b=true:=hb.symm.trans y8;intro a1 dp1 ca ah
  conv=>whnf
  refine ⟨L,_,_,⟨rfl,rfl,rfl⟩,ah,(show ((u.rules.map (ZQ (Zb L en))).length:Int)<1024 by omega),?_⟩;intro a2 dp2 cy af
  have hn:=af.tl ai;(conv=>whnf);refine Or.inl ⟨hn.inr,wN ?_⟩;refine ZGg (fun g=>absurd g t0) (fun _=>wN ?_);refine ZGg (fun g=>absurd g t1) (fun _=>wN ?_);refine ZGg (fun g=>absurd g t2) (fun _=>wN ?_);refine ZGg (fun g=>absurd g t3) (fun _=>wN ?_);refine ZGg (fun g=>absurd g t4) (fun _=>wN ?_);refine ⟨L,_,_,⟨rfl,rfl,rfl⟩,(⟨ho.toROK,af.dpe,ho.d64,ho.kinds⟩:IK L a dp2 d ts),gj,_,_,g2,?_⟩;intro a3 dp3 dc ak
  have so:=ho.len;have oe:=ak.len;(conv=>whnf)
  (repeat (refine ⟨rfl,?_⟩;conv=>whnf))
  refine ⟨Tq.2 rfl,(show ((u.rules.map (ZQ (Zb L en))).length+1) * 72<=2 ^ 47 by omega),(show (u.rules.map (ZQ (Zb L en))).length+1<=2 ^ 47 by omega),wN ?_⟩;exact mq147
 exact h.elim
abbrev ZC8 (pl:Pl) (u:U3):PV:=.agg [.d (.sl (u.tys.map (Zs pl))),.d (.sl (u.rels.map (ZM pl))),.d (.sl (u.rules.map (ZQ pl))),.d (.sl []),.d (.sl []),.d (.sl [])]
def Zle (n:Nat):Zk:=iSp fun rest pl d ts K=>match rest with
 | [.d (.bool b)]=>(b=false/\d<n+1)/\∃f x t1,Zr5 d f ⟨[],[],[]⟩ ts=.ok x t1/\K (ZC8 pl x) d t1
 | _=>False
def Zu4 (n:Nat):PC w0 nG 33 (Zle n):=by
 refine Zkd Zr mixed (tbl:=[(55,Zlc n)]) ⟨Zu2 n,trivial⟩ Tryz.func33 rfl kR kR ?_;intro args σ K h
 unfold Zle iSp at h
 split at h
 ·rename_i rest t rows a en dp w q
  obtain ⟨L,d,ts,⟨rfl,rfl,rfl⟩,ho,h⟩:=h;split at h
  ·obtain ⟨⟨rfl,gj⟩,f,x,t1,hx,h⟩:=h;refine ⟨Zg [(2,⟨[],[0,1,4,5],fun vs σ=>∃(f:Nat) (u:U3) (a' dp':Int) (ts':Ts),vs=[] /\
     σ=⟨[U9 t L a' en dp',.cells 57 [.sl 0 144 [],.sl 1 148 [],.sl 2 51 [],.sl 3 172 [],.sl 4 175 [],.sl 5 179 []],
      .cells 57 [.sl 6 144 (u.tys.map (Zs (Zb L en))),.sl 7 148 (u.rels.map (ZM (Zb L en))),.sl 8 51 (u.rules.map (ZQ (Zb L en))),.sl 9 172 [],.sl 10 175 [],.sl 11 179 []]],[11,10,9,8,7,6,5,4,3,2,1,0],12⟩/\a<=a'/\IK L a' dp' d ts'/\Zr5 d f u ts'=.ok x t1,ZAF L⟩)],Ys [],ZC [],ZC [],ZC [55],ZC [],1,false,sM,Tc rfl,?_⟩
   conv=>whnf
   refine ⟨⟨f,⟨[],[],[]⟩,a,dp,_,rfl,rfl,oM,ho,hx⟩,?_⟩;intro vs σ hI
   obtain ⟨f,u,a3,dp3,ts3,rfl,rfl,dc,ak,hx⟩:=hI
   cases f with
   | zero=>cases hx
   | succ f =>
   conv=>whnf
   refine ZGg (fun hc=>?_) (fun hc=>?_)
   ·have ai:ts3≠[]:=by
     rintro rfl
     have:=ak.len;have hc:a3<((Zz L).length:Int):=hc;rw [ZU] at hc;simp only [Tg] at this;omega
    obtain ⟨y,ys,rfl⟩:∃y ys,ts3=y::ys:=by cases ts3 with | nil=>exact absurd rfl ai | cons y ys=>exact ⟨y,ys,rfl⟩
    change (Zu0 d u (y::ys)).bind (fun u ts=>Zr5 d f u ts)=.ok x t1 at hx
    obtain ⟨u2,t4,g4,hx⟩:=ZGr hx;(conv=>whnf);refine ⟨L,d,_,u,⟨⟨rfl,rfl,rfl⟩,⟨⟨rfl,rfl⟩,⟨rfl,rfl⟩,rfl,rfl⟩,⟨rfl,rfl⟩,⟨rfl,rfl⟩,rfl,rfl⟩,ak,⟨ai,gj⟩,_,_,g4,?_⟩;intro a4 dp4 ei bz
    have hh:=bz.hi;(conv=>whnf);refine ⟨⟨f,u2,_,_,_,rfl,rfl,oM,bz,hx⟩,?_⟩;show ((L.length:Int) - a4).toNat<((L.length:Int) - a3).toNat;omega
   obtain rfl:=ak.nil hc
   change R.ok u []=.ok x t1 at hx
   cases hx
   conv=>whnf
   exact h _ _ oM ak
  exact h.elim
 exact h.elim
def Zlf:Zk:=iSp fun rest pl d ts K=>match rest with
 | []=>ts=[]/\K (.tuple [.d (.int .i64 0),.d (.int .i64 0)]) d ts
 | _=>False
def Zu5:PC w0 nG 34 Zlf:=by
 refine pwe Tryz.func34 fun args σ K h=>?_
 unfold Zlf iSp at h
 split at h
 ·rename_i rest t rows a en dp w q
  obtain ⟨L,d,ts,⟨rfl,rfl,rfl⟩,ho,h⟩:=h;split at h
  ·obtain ⟨rfl,h⟩:=h;refine pwv [] 1 false ?_;refine ZGg (fun hc=>?_) (fun hc=>wN ?_)
   ·have hc:a<((Zz L).length:Int):=hc;have:=ho.none;rw [ZU] at hc;omega
   exact h _ _ oM ho
  exact h.elim
 exact h.elim
def ZhV:Zk:=fun args σ K=>match args,σ with
 | [.d (.str s),.d (.int .i64 b),.d (.int .i64 m)],⟨[],[],0⟩=>(s.length<=65536/\b=65536/\m=16384)/\∃l,ZDw s=some l /\
   K (.ret (.tuple [.ptr 0 0,.d (.int .i64 0),.d (.int .i64 0)])) ⟨[U9 108 l 0 s.length 0],[],0⟩
 | _,_=>False
def Zr7:Tbl:=[(53,Zgp)]
def Zr8:PC w0 nG 32 ZhV:=by
 refine pwt (tbl:=Zr7) ⟨Zz9,trivial⟩ Tryz.func32 fun args σ K h=>?_
 unfold ZhV at h
 split at h
 ·rename_i s b m
  obtain ⟨⟨hs,rfl,rfl⟩,l,hq,h⟩:=h;refine pwv [] 1 false ?_;refine ZGg (fun hc=>absurd (show (s.length:Int)>65536 from hc) oM) (fun hc=>wN ?_);refine ⟨l,hq,rfl,wN ?_⟩;exact h
 exact h.elim
def ZAj:Zk:=fun args σ K=>match args,σ with
 | [.d (.str s)],⟨[],[],0⟩=>∃pl u,Zr6 s=some (pl,u)/\K (.ret (.tuple [ZC8 pl u,.d (.int .i64 0),.d (.int .i64 0)])) ⟨[],[],0⟩
 | _,_=>False
def ZC9:Tbl:=[(32,ZhV),(33,Zle 64),(34,Zlf)]
def ZFP:PC w0 nG 16 ZAj:=by
 refine pwt (tbl:=ZC9) ⟨Zr8,Zu4 64,Zu5,trivial⟩ Tryz.func16 fun args σ K h=>?_
 unfold ZAj at h
 split at h
 ·rename_i s
  obtain ⟨pl,u,hr,h⟩:=h;unfold Zr6 at hr
  split at hr
  case h_1=>cases hr
  rename_i l hq
  split at hr
  case isFalse=>cases hr
  rename_i dw
  obtain ⟨hs,hl,hk⟩:=dw;split at hr
  case h_2=>cases hr
  rename_i u1 hu
  cases hr
  have ho:IK l 0 0 64 (l.map Tok.t0):=⟨⟨oM,oM,hl,by simp [tz]⟩,oM,oM,fun x hx=>by have:=Tm.1 hk x hx;simpa using this⟩
  refine pwv [] 0 false ?_;refine ⟨⟨hs,rfl,rfl⟩,l,hq,wN ?_⟩;refine ⟨l,_,_,⟨rfl,rfl,rfl⟩,ho,⟨rfl,oM⟩,_,_,_,hu,?_⟩;intro a1 dp1 ca ah
  conv=>whnf
  refine ⟨l,_,_,⟨rfl,rfl,rfl⟩,ah,rfl,?_⟩;intro a2 dp2 cy af
  exact mq47
 exact h.elim
def ZmS (k:Bs) (n:Int):∀v:Vs,(Z2 k n v).map (·.1)=if k∈v.map (·.1) then v.map (·.1) else v.map (·.1)++[k]
 | []=>rfl
 | (x,u)::v=>by
  have ih:=ZmS k n v;exact mq128
def Qv (P:Bs->Prop) (v:Vs):Prop:=(v.map (·.1)).Nodup/\∀t∈v.map (·.1),P t
def Qv.set {P:Bs->Prop} {t:Bs} {n:Int} {s:VS} (h:Qv P s.1) (ht:P t):Qv P (Zt0 t n s).1:=by
 unfold Zt0
 split
 ·unfold Qv
  simp only [ZmS];exact mq80
 exact h
mutual
def Qv.gvE {P:Bs->Prop} {p:Pr}:∀{e:Ex} {n:Int} {s:VS},Qv P s.1->(∀t∈nvE e,P t)->Qv P (gvE p e n s).1
 | .mk op text num args a,n,s,h,ht=>by
  simp only [nvE] at ht;simp only [Lex.gvE]
  by_cases g:op=1
  ·rw [Tj g] at ht |-;exact h.set (ht _ sM)
  rw [Tf g] at ht |-;exact Qv.gvEs h ht
def Qv.gvEs {P:Bs->Prop} {p:Pr}:∀{l:List Ex} {ns:List Int} {s:VS},Qv P s.1->(∀t∈Zhw l,P t)->Qv P (gvEs p l ns s).1
 | [],_,_,h,_=>h
 | e::l,[],_,h,_=>h
 | e::l,n::ns,s,h,ht=>by
  simp only [Zhw,TE] at ht;simp only [Lex.gvEs];exact Qv.gvEs (Qv.gvE h fun t g=>ht t (.inl g)) fun t g=>ht t (.inr g)
end
mutual
def Qv.gvL {P:Bs->Prop} {p:Pr}:∀{x:Li} {s:VS},Qv P s.1->(∀t∈nvL x,P t)->Qv P (gvL p x s).1
 | .mk op rel args body a,s,h,ht=>by
  simp only [nvL,TE] at ht;simp only [Lex.gvL];have h1:∀ns,Qv P (Lex.gvEs p args ns s).1:=fun ns=>Qv.gvEs h fun t g=>ht t (.inl g)
  split
  ·exact h1 _
  split
  ·exact h1 _
  exact Qv.gvLs (h1 _) fun t g=>ht t (.inr g)
def Qv.gvLs {P:Bs->Prop} {p:Pr}:∀{l:List Li} {s:VS},Qv P s.1->(∀t∈Vl l,P t)->Qv P (gvLs p l s).1
 | [],_,h,_=>h
 | x::l,s,h,ht=>by
  simp only [Vl,TE] at ht;simp only [Lex.gvLs];exact Qv.gvLs (Qv.gvL h fun t g=>ht t (.inl g)) fun t g=>ht t (.inr g)
end
def ZGv {P:Bs->Prop} {p:Pr} {r:Ru} (ht:∀t∈nvR r,P t):∀{n:Nat} {v w:Vs},Qv P v->WT p r n v=some w->Qv P w
 | 0,_,_,_,h=>by cases h
 | n+1,v,w,hv,h=>by
  simp only [nvR,TE] at ht;have h1:Qv P (Uy p r v).1:=Qv.gvLs (Qv.gvEs hv fun t g=>ht t (.inl g)) fun t g=>ht t (.inr g)
  simp only [WT] at h;split at h
  ·exact ZGv (by simpa only [nvR,TE] using ht) h1 h
  cases h;exact h1
def Qv.vars {P:Bs->Prop} {p:Pr} {r:Ru} (ht:∀t∈nvR r,P t):Qv P (Zcm p r):=by
 have h0:Qv P []:=⟨.nil,fun _ h=>nomatch h⟩
 unfold Zcm
 cases h:WT p r ((nvR r).length+1) [] with
 | none=>exact h0
 | some w=>exact ZGv ht h0 h
def prK (u:U3):Pr:=⟨u.tys,u.rels,u.rules⟩
def ZEK (p:Pr):Bool:=Zvt (prU p) && (decide (wUn (prU p)<=100000) && (decide ((unT (prU p)).length<1073741824) && decide (Zmf p<=2097152)))
def ZAk {p:Pr} (h:ZEK p=true):Zhp 100000 (prU p)/\Zmf p<=2097152:=by
 simp only [ZEK,Tl,TH] at h;exact ⟨⟨h.1,h.2.1,h.2.2.1,rfl,rfl,rfl⟩,h.2.2.2⟩
def Zlg:Zk:=fun args σ K=>match args,σ with
 | [.d (.sl x),.d (.sl y)],⟨[],[],0⟩=>∃l:List Bs,x=J1 l/\y=J1 l/\l.length<=1000/\K (.ret (.d (.bool true))) ⟨[],[],0⟩
 | _,_=>False
def Zu6:PC w0 nG 8 Zlg:=by
 refine pwe Tryz.func8 fun args σ K h=>?_
 unfold Zlg at h
 split at h
 ·obtain ⟨l,rfl,rfl,hl,h⟩:=h;have hlen:(J1 l).length=l.length:=Td ..;refine pwv [(4,⟨[5],[0,1],fun vs σ=>∃i:Nat,vs=[.d (.int .i64 i)]/\σ=⟨[],[],0⟩/\i<=l.length,mu1 l.length⟩)] 0 false ?_;refine ZGi (fun g=>absurd rfl g) (fun _=>wN ?_);refine ⟨⟨0,rfl,rfl,oM⟩,?_⟩
  rintro vs σ1 ⟨i,rfl,rfl,hi⟩
  conv=>whnf
  refine ZGg (fun hq=>?_) (fun hq=>wN ?_)
  ·have aa:i<l.length:=by have hq:(i:Int)<((J1 l).length:Nat):=hq;omega
   have hr:(J1 l)[(i:Int).toNat]?=some [.str l[i]]:=by rw [Th];simp [aa]
   generalize l[i]=x at hr;(conv=>whnf);refine ⟨_,oM,hr,wN ?_⟩;refine ⟨_,oM,hr,wN ?_⟩
   (repeat (refine ⟨rfl,?_⟩;conv=>whnf))
   refine ZGi (fun g=>absurd rfl g) (fun _=>wN ?_);refine Zi ?_;refine ⟨⟨i+1,rfl,rfl,oM⟩,?_⟩;exact lzM oM
  exact h
 exact h.elim
def ZhW:Zk:=fun args σ K=>match args,σ with
 | [.d (.sl r1),.d (.sl r2)],⟨[],[],0⟩=>∃pl l a R,r1=ZL pl l/\r2=J1 a/\(ZDu l=true/\ZfU l<=8388608/\a.length<=1000/\VL (outLs (setOf [] a) l) l (setOf [] a)=R/\okS R=true)/\∀L:List Bs,L.Perm (R.map (·.1))->ZEF L->K (.ret (.d (.sl (J1 L)))) ⟨[],[],0⟩
 | _,_=>False
def Zr9:Tbl:=[(10,Zcd),(13,UB),(12,Zk7),(11,Zeo)]
def Zsa:PC w0 nG 5 ZhW:=by
 refine pwt (tbl:=Zr9) ⟨ZhJ,ZrL,ZuA,Zoq,trivial⟩ Tryz.func5 fun args σ K h=>?_
 unfold ZhW at h
 split at h
 ·obtain ⟨pl,l,a,R,rfl,rfl,⟨ec,hz,ha,rfl,hk⟩,h⟩:=h;have hl:(J1 a).length=a.length:=Td ..;have hnv:(Vl l).length<=ZfU l:=ZaQ l;have hk:=ZmC hk;have nk:(setOf [] a).length<=0+a.length:=ZrE a [];refine pwu [(3,⟨[13],[0,5,6,11,12],fun vs σ=>∃j:Nat,vs=[.d (.int .i64 j)]/\σ=⟨[.dmap (mvM mvB (setOf [] (a.take j))),.dmap (mvM mvB (setOf [] (a.take j)))],[],0⟩/\j<=a.length,
   mu1 a.length⟩)] 0 false ?_
  conv=>whnf
  refine ⟨⟨0,rfl,rfl,oM⟩,?_⟩
  rintro vs σ1 ⟨j,rfl,rfl,hj⟩
  by_cases pa:j=a.length
  rotate_left
  ·conv=>whnf
   refine ZGg (fun hq=>?_) (fun hq=>absurd (by have hq:¬(j:Int)<((J1 a).length:Nat):=hq;omega) pa);have aa:j<a.length:=oM;have hr:(J1 a)[(j:Int).toNat]?=some [.str a[j]]:=by rw [Th,Ti,Tb aa];rfl
   have ht:mvM mvB (setOf [] (a.take (j+1)))=Z2 a[j] (.one (.bool true)) (mvM mvB (setOf [] (a.take j))):=by rw [Zon aa];exact (XN (f:=mvB) (k:=a[j]) (v:=true) _).symm
   have hμ:((a.length:Int) - ((j:Int)+1)).toNat<((a.length:Int) - (j:Int)).toNat:=oM;generalize a[j]=s at hr ht;(conv=>whnf);refine ⟨_,oM,hr,wN ?_⟩;exact mq142
  subst pa;rw [T7];generalize setOf [] a=S at hk nk h;(conv=>whnf);refine ZGg (fun hq=>absurd hq (by show ¬(a.length:Int)<((J1 a).length:Nat);omega)) (fun hq=>wN ?_);refine ⟨pl,l,S,rfl,rfl,oM,?_⟩;generalize outLs S l=O at hk h;(conv=>whnf);refine ⟨pl,l,S,O,rfl,rfl,rfl,⟨ec,oM,oM⟩,?_⟩;generalize VL O l S=R at hk h;(conv=>whnf);refine ⟨⟨rfl,by rw [VM];exact hk.1,by rw [ZbD];exact TN hk.2.1 dM,fun x hx=>by rw [VM] at hx;exact TN (hk.2.2 x hx) dM⟩,fun L hL hs=>wN ?_⟩;rw [VM] at hL;have h:=h L hL hs;exact h
 exact h.elim
def Zsb:Bs:=[100,101,99,108,32,112,40,120,58,32,110,117,109,98,101,114,41,32,100,101,99,108,32,113,40,120,58,32,110,117,109,98,101,114,44,32,121,58,32,110,117,109,98,101,114,41,32]
def ZAl (s:Bs) (a e:Int):Bool:=match Zr6 (Zsb++s) with
 | some (pl,u)=>ZEK (prK u) && ((prK u).rules.all (fun r=>Zem r.body) && decide (Zuj pl (prK u)=(a,e)))
 | none=>false
def Zey {s:Bs} {a e:Int} (h:ZAl s a e=true):∃pl u,Zr6 (Zsb++s)=some (pl,u)/\(Zhp 100000 (prU (prK u))/\Zmf (prK u)<=2097152)/\(∀r∈(prK u).rules,Zem r.body=true)/\Zuj pl (prK u)=(a,e):=by
 unfold ZAl at h
 split at h
 ·rename_i pl u hr
  simp only [Tl,TH,Tm] at h;exact ⟨pl,u,hr,ZAk h.1,h.2.1,h.2.2⟩
 cases h
def VW (s:Bs) (a:Int):Bool:=if a<0 then ZAl s 0 0 else ZAl s (a+47) 190
def ZhX:Zk:=fun args σ K=>match args,σ with
 | [.d (.str s)],⟨[],[],0⟩=>∃pl u,Zr6 (Zsb++s)=some (pl,u)/\s.length<1000/\K (.ret (.agg ((Zn0 pl (prK u)).map .d))) ⟨[],[],0⟩
 | _,_=>False
def Zsc:Zk:=fun args σ K=>match args,σ with
 | [.d (.str s),.d (.int .i64 a)],⟨[],[],0⟩=>(VW s a=true/\(-1<=a/\a<=100000)/\s.length<1000)/\K (.ret (.d (.bool true))) ⟨[],[],0⟩
 | _,_=>False
def Zu7:Tbl:=[(16,ZAj)]
def ZhY:PC w0 nG 7 ZhX:=by
 refine pwt (tbl:=Zu7) ⟨ZFP,trivial⟩ Tryz.func7 fun args σ K h=>?_
 unfold ZhX at h
 split at h
 ·rename_i s
  obtain ⟨pl,u,hr,hs,h⟩:=h;refine pwv [] 0 false ?_;refine ⟨(show 47+s.length<2 ^ 62 by omega),wN ?_⟩;refine ⟨pl,u,hr,wN ?_⟩;exact h
 exact h.elim
def Zsd:Tbl:=[(7,ZhX),(6,Zen 100000)]
def ZAm:OKw w0 nG Zsd 4 Zsc:=by
 refine pwo Tryz.func4 fun args σ K h=>?_
 unfold Zsc at h
 split at h
 ·rename_i s a
  obtain ⟨⟨hc,⟨ha,hb⟩,hs⟩,h⟩:=h;unfold VW at hc
  by_cases hn:a<0
  ·rw [Tj hn] at hc;obtain ⟨pl,u,hr,hf,hl,hk⟩:=Zey hc;refine pwv [] 0 false ?_;refine ⟨pl,u,hr,hs,wN ?_⟩;refine ⟨pl,prK u,rfl,⟨hf.1,dM,hf.2⟩,hl,fun a2 e2 hx=>?_⟩;rw [hk] at hx
   cases hx
   conv=>whnf
   refine ZGg (fun _=>wN ?_) (fun g=>absurd hn g);exact h
  rw [Tf hn] at hc;obtain ⟨pl,u,hr,hf,hl,hk⟩:=Zey hc;refine pwv [] 0 false ?_;refine ⟨pl,u,hr,hs,wN ?_⟩;refine ⟨pl,prK u,rfl,⟨hf.1,dM,hf.2⟩,hl,fun a2 e2 hx=>?_⟩;rw [hk] at hx
  cases hx
  conv=>whnf
  refine ZGg (fun g=>absurd g hn) (fun _=>wN ?_);refine Zi ?_;have q:decide (a+47=a+47)=true:=TX rfl;rw [q];exact h
 exact h.elim
def gk0:VW [112,40,120,41,32,58,45,32,113,40,120,44,32,95,41,46] (-1)=true:=kR
def gk1:VW [112,40,120,32,43,32,121,41,32,58,45,32,113,40,120,44,32,121,41,46] (-1)=true:=kR
def gk2:VW [112,40,49,41,46] (-1)=true:=kR
def gk3:VW [112,40,120,41,32,58,45,32,113,40,121,44,32,121,41,46] 2=true:=kR
def gk4:VW [112,40,95,41,32,58,45,32,112,40,49,41,46] 2=true:=kR
def gk5:VW [112,40,120,41,32,58,45,32,33,112,40,120,41,46] 2=true:=kR
def gk6:VW [112,40,120,41,32,58,45,32,112,40,121,41,44,32,120,32,61,32,121,32,43,32,49,46] (-1)=true:=kR
def gk7:VW [112,40,120,41,32,58,45,32,120,32,61,32,121,44,32,121,32,61,32,122,44,32,112,40,122,41,46] (-1)=true:=kR
def gk8:VW [112,40,120,41,32,58,45,32,112,40,120,32,43,32,49,41,46] 2=true:=kR
def gk9:VW [112,40,120,41,32,58,45,32,112,40,120,41,44,32,33,113,40,120,44,32,95,41,46] (-1)=true:=kR
def ZFQ:VW [112,40,120,41,32,58,45,32,112,40,120,41,44,32,33,113,40,120,44,32,122,41,46] 20=true:=kR
def ZFR:VW [112,40,120,41,32,58,45,32,112,40,120,41,44,32,113,40,120,32,43,32,122,44,32,49,41,46] 20=true:=kR
def ZFS:VW [112,40,110,41,32,58,45,32,110,32,61,32,99,111,117,110,116,32,58,32,123,32,113,40,95,44,32,121,41,32,125,46] (-1)=true:=kR
def ZFT:VW [112,40,110,41,32,58,45,32,110,32,61,32,115,117,109,32,121,32,58,32,123,32,113,40,120,44,32,121,41,32,125,44,32,112,40,120,41,46] (-1)=true:=kR
def ZFU:VW [112,40,110,41,32,58,45,32,110,32,61,32,115,117,109,32,121,32,43,32,122,32,58,32,123,32,113,40,120,44,32,121,41,32,125,46] 20=true:=kR
def ZFV:VW [112,40,110,41,32,58,45,32,110,32,61,32,99,111,117,110,116,32,58,32,123,32,113,40,120,44,32,121,41,44,32,120,32,60,32,121,44,32,33,112,40,119,41,32,125,46] 41=true:=kR
def ZFW:VW [112,40,110,41,32,58,45,32,112,40,120,41,44,32,110,32,61,32,99,111,117,110,116,32,58,32,123,32,113,40,120,44,32,109,41,44,32,109,32,61,32,99,111,117,110,116,32,58,32,123,32,113,40,109,44,32,107,41,32,125,32,125,46] (-1)=true:=kR
def ZFX:VW [112,40,110,41,32,58,45,32,110,32,61,32,99,111,117,110,116,32,58,32,123,32,120,32,60,32,51,32,125,44,32,112,40,120,41,46] (-1)=true:=kR
def ZFY:VW [112,40,110,41,32,58,45,32,110,32,61,32,99,111,117,110,116,32,58,32,123,32,120,32,60,32,51,32,125,46] 22=true:=kR
def ZFZ:VW [112,40,110,41,32,58,45,32,110,32,61,32,99,111,117,110,116,32,58,32,123,32,112,40,120,41,32,125,44,32,110,32,60,32,120,46] 2=true:=kR
def ZF0:VW [112,40,120,41,32,58,45,32,112,40,120,41,44,32,95,32,61,32,120,46] 14=true:=kR
def ZF1:VW [112,40,120,41,32,58,45,32,112,40,120,41,44,32,49,32,60,32,95,46] 18=true:=kR
def ZF2:VW [112,40,120,41,32,58,45,32,120,32,61,32,49,46] (-1)=true:=kR
def ZF3:VW [112,40,120,41,32,58,45,32,49,32,43,32,49,32,61,32,120,46] (-1)=true:=kR
def ZF4:VW [112,40,120,41,32,58,45,32,120,32,43,32,49,32,61,32,49,46] 2=true:=kR
def ZF5:VW [112,40,120,41,32,58,45,32,112,40,120,41,44,32,121,32,60,32,49,46] 14=true:=kR
def ZF6:VW [112,40,120,41,32,58,45,32,113,40,120,44,32,121,32,43,32,49,41,44,32,113,40,121,44,32,120,32,43,32,49,41,46] 2=true:=kR
def ZF7:VW [112,40,120,41,32,58,45,32,113,40,120,44,32,121,32,43,32,49,41,44,32,113,40,121,44,32,49,41,46] (-1)=true:=kR
def ZF8:VW [112,40,120,41,32,58,45,32,113,40,120,44,32,120,32,43,32,49,41,46] 2=true:=kR
def ZF9:VW [116,121,112,101,32,82,32,61,32,91,97,58,32,110,117,109,98,101,114,44,32,98,58,32,82,93,32,100,101,99,108,32,114,40,120,58,32,82,41,32,112,40,120,41,32,58,45,32,114,40,91,120,44,32,91,95,44,32,121,93,93,41,44,32,114,40,121,41,46] (-1)=true:=kR
def ZGa:VW [116,121,112,101,32,82,32,61,32,91,97,58,32,110,117,109,98,101,114,44,32,98,58,32,82,93,32,100,101,99,108,32,114,40,120,58,32,82,41,32,112,40,120,41,32,58,45,32,91,120,44,32,95,93,32,61,32,121,44,32,114,40,121,41,46] 52=true:=kR
def ZGb:VW [116,121,112,101,32,82,32,61,32,91,97,58,32,110,117,109,98,101,114,44,32,98,58,32,82,93,32,100,101,99,108,32,114,40,120,58,32,82,41,32,112,40,120,41,32,58,45,32,91,120,44,32,122,93,32,61,32,121,44,32,114,40,121,41,46] (-1)=true:=kR
def ZGc:VW [116,121,112,101,32,82,32,61,32,91,97,58,32,110,117,109,98,101,114,44,32,98,58,32,82,93,32,100,101,99,108,32,114,40,120,58,32,82,41,32,112,40,49,41,32,58,45,32,114,40,121,41,44,32,33,114,40,91,95,44,32,121,93,41,46] (-1)=true:=kR
def ZGd:VW [116,121,112,101,32,82,32,61,32,91,97,58,32,110,117,109,98,101,114,44,32,98,58,32,82,93,32,100,101,99,108,32,114,40,120,58,32,82,41,32,112,40,49,41,32,58,45,32,114,40,121,41,44,32,33,114,40,91,122,44,32,121,93,41,46] 58=true:=kR
def ZGe:VW [112,40,97,41,32,58,45,32,97,32,61,32,99,111,117,110,116,32,58,32,123,32,112,40,120,41,32,125,44,32,98,32,61,32,99,111,117,110,116,32,58,32,123,32,113,40,120,44,32,98,41,32,125,46] 30=true:=kR
def ZGf:VW [112,40,97,41,32,58,45,32,97,32,61,32,115,117,109,32,120,32,58,32,123,32,112,40,120,41,32,125,44,32,98,32,61,32,115,117,109,32,120,32,58,32,123,32,113,40,120,44,32,121,41,32,125,44,32,97,32,60,32,98,46] (-1)=true:=kR
def gkA:ZAl [112,40,120,41,32,58,45,32,113,40,120,44,32,95,41,46] 0 0=true:=kR
def gkB:ZAl [112,40,120,41,32,58,45,32,113,40,121,44,32,121,41,46] 49 190=true:=kR
def gkC:ZAl [112,40,120,44,32,120,41,32,58,45,32,112,40,120,41,46] 47 182=true:=kR
def xGk:Ex:=.mk 1 [120] 0 [] 0
def yGk:Ex:=.mk 1 [121] 0 [] 0
def Zse:List Li:=[.mk 3 [] [yGk,xGk] [] 0,.mk 3 [] [xGk] [] 0,.mk 9 [] [] [] 0,.mk 99 [] [yGk] [] 0]
def bndK:Bv:=VL (outLs (setOf [] [[120],[97],[120]]) Zse) Zse (setOf [] [[120],[97],[120]])
def gkD:ZDu Zse=true/\ZfU Zse<=8388608:=⟨kR,dM⟩
def gkE:okS bndK=true:=kR
def gkF:(bndK.map (·.1)).isPerm [[97],[120],[121]]=true:=kR
def ZEL {l:List Bs} (h:ZEF l) (hp:l.Perm [[97],[120],[121]]):l=[[97],[120],[121]]:=by
 obtain ⟨ss,rfl⟩:=h;have hs:=List.pairwise_mergeSort (le:=fun x y:Bs=>decide (x<=y)) (fun a b c h1 h2=>by simp only [TH] at h1 h2 |-;exact List.le_trans h1 h2) (fun a b=>by simpa using List.le_total a b) ss;refine List.Perm.eq_of_pairwise (fun a b ha hb h1 h2=>?_) hs dM hp;have ha:=hp.subset ha;simp only [Tu,Sr,or_false] at ha hb;rcases ha with rfl | rfl | rfl <;> rcases hb with rfl | rfl | rfl <;> first | rfl | exact absurd h1 dM | exact absurd h2 dM
def Zou:OKw w0 nG Zsd 9 UW:=by
 refine pwo Tryz.func9 fun args σ K h=>?_
 unfold UW at h
 split at h
 ·obtain ⟨pl,u,hr,hf,hl,hk⟩:=Zey gkA;obtain ⟨pl2,u2,ef,zn,cy,bw⟩:=Zey gkB;refine pwv [] 0 false ?_;refine ⟨pl,u,hr,dM,wN ?_⟩;refine ⟨pl,prK u,rfl,⟨hf.1,dM,hf.2⟩,hl,fun a e hx=>?_⟩;rw [hk] at hx
  cases hx
  conv=>whnf
  refine ⟨pl2,u2,ef,dM,wN ?_⟩;refine ⟨pl2,prK u2,rfl,⟨zn.1,dM,zn.2⟩,cy,fun a e hx=>?_⟩;rw [bw] at hx
  cases hx
  exact mq47
 exact h.elim
def Zsf:OKw w0 nG [(4,Zsc),(7,ZhX),(5,ZhW),(6,Zen 100000),(8,Zlg),(9,UW)] 3 UW:=by
 refine pwo Tryz.func3 fun args σ K h=>?_
 unfold UW at h
 split at h
 ·obtain ⟨pl,u,hr,hf,hl,hk⟩:=Zey gkC;refine pwv [] 0 false ?_;refine ⟨⟨gk0,⟨dM,dM⟩,dM⟩,wN ?_⟩;refine ⟨⟨gk1,⟨dM,dM⟩,dM⟩,wN ?_⟩;refine ⟨⟨gk2,⟨dM,dM⟩,dM⟩,wN ?_⟩;refine ⟨⟨gk3,⟨dM,dM⟩,dM⟩,wN ?_⟩;refine ⟨⟨gk4,⟨dM,dM⟩,dM⟩,wN ?_⟩;refine ⟨⟨gk5,⟨dM,dM⟩,dM⟩,wN ?_⟩;refine ⟨⟨gk6,⟨dM,dM⟩,dM⟩,wN ?_⟩;refine ⟨⟨gk7,⟨dM,dM⟩,dM⟩,wN ?_⟩;refine ⟨⟨gk8,⟨dM,dM⟩,dM⟩,wN ?_⟩;refine ⟨⟨gk9,⟨dM,dM⟩,dM⟩,wN ?_⟩;refine ⟨⟨ZFQ,⟨dM,dM⟩,dM⟩,wN ?_⟩;refine ⟨⟨ZFR,⟨dM,dM⟩,dM⟩,wN ?_⟩;refine ⟨⟨ZFS,⟨dM,dM⟩,dM⟩,wN ?_⟩;refine ⟨⟨ZFT,⟨dM,dM⟩,dM⟩,wN ?_⟩;refine ⟨⟨ZFU,⟨dM,dM⟩,dM⟩,wN ?_⟩;refine ⟨⟨ZFV,⟨dM,dM⟩,dM⟩,wN ?_⟩;refine ⟨⟨ZFW,⟨dM,dM⟩,dM⟩,wN ?_⟩;refine ⟨⟨ZFX,⟨dM,dM⟩,dM⟩,wN ?_⟩;refine ⟨⟨ZFY,⟨dM,dM⟩,dM⟩,wN ?_⟩;refine ⟨⟨ZFZ,⟨dM,dM⟩,dM⟩,wN ?_⟩;refine ⟨⟨ZF0,⟨dM,dM⟩,dM⟩,wN ?_⟩;refine ⟨⟨ZF1,⟨dM,dM⟩,dM⟩,wN ?_⟩;refine ⟨⟨ZF2,⟨dM,dM⟩,dM⟩,wN ?_⟩;refine ⟨⟨ZF3,⟨dM,dM⟩,dM⟩,wN ?_⟩;refine ⟨⟨ZF4,⟨dM,dM⟩,dM⟩,wN ?_⟩;refine ⟨⟨ZF5,⟨dM,dM⟩,dM⟩,wN ?_⟩;refine ⟨⟨ZF6,⟨dM,dM⟩,dM⟩,wN ?_⟩;refine ⟨⟨ZF7,⟨dM,dM⟩,dM⟩,wN ?_⟩;refine ⟨⟨ZF8,⟨dM,dM⟩,dM⟩,wN ?_⟩;refine ⟨⟨ZF9,⟨dM,dM⟩,dM⟩,wN ?_⟩;refine ⟨⟨ZGa,⟨dM,dM⟩,dM⟩,wN ?_⟩;refine ⟨⟨ZGb,⟨dM,dM⟩,dM⟩,wN ?_⟩;refine ⟨⟨ZGc,⟨dM,dM⟩,dM⟩,wN ?_⟩;refine ⟨⟨ZGd,⟨dM,dM⟩,dM⟩,wN ?_⟩;refine ⟨⟨ZGe,⟨dM,dM⟩,dM⟩,wN ?_⟩;refine ⟨⟨ZGf,⟨dM,dM⟩,dM⟩,wN ?_⟩;refine ⟨fun _=>0,Zse,[[120],[97],[120]],bndK,rfl,rfl,⟨gkD.1,gkD.2,dM,rfl,gkE⟩,fun L hL hs=>?_⟩;obtain rfl:=ZEL hs (hL.trans (List.isPerm_iff.1 gkF));(conv=>whnf);refine ⟨pl,u,hr,dM,wN ?_⟩;refine ⟨pl,prK u,rfl,⟨hf.1,dM,hf.2⟩,hl,fun a e hx=>?_⟩;rw [hk] at hx
  cases hx
  conv=>whnf
  refine ⟨[[97],[120],[121]],rfl,rfl,dM,wN ?_⟩;exact h
 exact h.elim
end Go.PM.Lex
end

section
namespace Go
variable {H:Type} {enc:TypeId×Value->H}
def WU {a:Assume} {C:Checked} {os:Os} {f:FuncId} {fn:Func} {s:ChangeSpec} {conds:List PathCond} {apart fresh mg again:Bool} {X:World->Array Value->Prop}
  (hX:∀(w w':World) (args:Array Value),w.heap=w'.heap->X w args->X w' args)
  (own:ownKnob C.prog.godebug=none) (started:os.Started) (noInit:C.prog.inits.idxOf? f=none) (hfn:C.prog.funcs[f]?=some fn)
  (witness:∃(w:World) (tape:Tape) (i:Input),w.os=os/\(w.forCall tape i).Shaped C.prog/\i.vars=[]/\Input.okWide C.prog (w.forCall tape i) .any w.heap.size f i /\
   ((s.pre enc C.prog fn conds apart (w.forCall tape i).memory i.args/\X (w.forCall tape i).memory i.args)/\sizedMet enc C.prog fn (OpenSpec.ofChange s) apart (w.forCall tape i).memory i.args)/\a.holds C.prog (lone (Frame.enter C.prog f i.args .normal) [] (w.forCall tape i)))
  (contract:∀(W:World) (base:Nat) (args:Array Value) (ds gs:List (DataW H)) (before:List MemPlace),
   (∀(j:Nat) t v,fn.params[j]?=some t->args[j]?=some v->Value.okWide C.prog W .any base t v) ->
   DataW.Whole enc C.prog fn.params.toList s.vars apart W args.toList ds gs before->X W args->W.ShapedOpen C.prog ->
   Calls C.prog f args W fun e W'=>∃v,e=.returned v/\s.post enc C.prog fn apart fresh mg again W args v W') :
  ReturnsInHanded a C os f .any (fun w args=>(s.pre enc C.prog fn conds apart w args/\X w args)/\sizedMet enc C.prog fn (OpenSpec.ofChange s) apart w args) (s.post enc C.prog fn apart fresh mg again):=by
 refine returnsInHanded_of_calls own started noInit witness ?_;intro w tape i _ gf _ au adu adv
 obtain ⟨_,_,_,fn',adw,_,_,_,_,uk⟩:=au;have e:fn'=fn:=Option.some.inj (adw.symm.trans hfn);subst e;obtain ⟨⟨⟨ds,gs,before,hw,hc⟩,hx⟩,hz⟩:=adu;have hw':=DataW.Whole.of_heap (w':=w.forCall tape i) (by rfl) hw;refine (contract (w.forCall tape i) w.heap.size i.args ds gs before uk hw' (hX _ _ _ (by rfl) hx) gf).mono fun e W' ⟨v,he,hp⟩=>?_
 subst he;exact ChangeSpec.post_blind hp
end Go
namespace Go.PM.Lex
open Go.Proofs Go.Proofs.YtlelokbefhefcaaGreatDoor Go.ChangeShapes Go.WideShapes Go.ChangeAt Go.RowKit
def ZEN:ownKnob Tryz.prog.godebug=none:=kR
def ZvX : "*" ++ "errors.errorString" = "*errors.errorString" := by decide
def Zu8 (u : TypeId) (h : Tryz.prog.typeName? 3 u = some "*errors.errorString") : u = 381 :=
 typeName_ptr_named (nm := "errors.errorString") (by rw [ZvX]; kernel_rfl) kR dM u (by rw [ZvX]; exact h)
def Zsg {W:World} {n:String} {text:List UInt8} {g:Nat} (hg:Tryz.prog.globalNamed n=some g) (ht:(Tryz.prog.globals[g]?).map (·.type)=some 239)
  (h : laidMet Tryz.prog [(n, .iface "*errors.errorString" (.ptr (.agg [.lit (.string text)])))] W) : ∃ ev, W.cell? ⟨g, 0, none⟩ = some ev /\ (ev = .nilIface \/ ∃ te pe, ev = .iface te pe) := by
 obtain ⟨a1,s1,mh,_⟩:=laid_sentinel h hg ht Tryz.underlying239 Zu8 Tryz.underlying381 Tryz.underlying383 rfl rfl Tryz.underlying9 kR kR;refine ⟨.iface 381 (.pointer (some a1)),?_,.inr ⟨_,_,rfl⟩⟩;simpa using World.var?_cell hg mh 0
def ZDa {W:World} (h:laidMetH Tryz.prog Rows.groundKnownRow.laid W) (gf:W.ShapedOpen Tryz.prog):GlobOK W 8:=by
 rw [MakeChecks.laidMetH_plain _ _ _ kR] at h;have h1 := laidMet.filter (fun x => x.1 == "strconv.ErrSyntax") h;have h2 := laidMet.filter (fun x => x.1 == "strconv.ErrRange") h;exact ⟨oM,Tryz.laysM143.s1_3 W gf,Zsg kR kR h1,Zsg kR kR h2⟩
def ZAn:Env:=⟨fun _=>0,fun _=>none,fun _ _=>False,fun _=>none⟩
def ZDb {e':Env} {W W':World} {σ':St} {may:MemPlace->Prop} (h:Later ZAn ⟨[],[],0⟩ W e' σ' W'):W.keptBut W' may:=by
 refine ⟨h.os,h.output,fun i hi=>?_⟩;have:=h.blocks i hi (fun j hj=>by simp at hj) (fun t ht=>by cases ht) rfl;rw [this]
 cases hh:W.heap[i]? with
 | none=>rfl
 | some o=>cases o <;> simp
def ZAo {W:World} (h:8<=W.heap.size):SRel (GG W 8) ZAn ⟨[],[],0⟩ W where
 inj:=fun i j hi=>by simp at hi
 box:=fun i x hx=>by simp at hx
 low:=fun i hi=>by simp at hi
 tkn:=fun t ht=>by cases ht
 own:=fun t ht=>by cases ht
 dis:=fun t t' ht=>by cases ht
 xlt:=fun b off hx=>hx.elim
 xown:=fun t ht=>by cases ht
 hid:=fun b q hq=>by cases hq
 glob:=fun b hb=>rfl
 big:=h
end Go.PM.Lex
end

section
namespace Go.PM.Lex
open Go.Proofs Go.Proofs.YtlelokbefhefcaaGreatDoor
def ZAp:Rows.laid_unicode_utf8_first=Lib.firstData:=kR
def Zu9:(Rows.laid_unicode_utf8_acceptRanges:DataW Unit)=Lib.acceptData:=kR
def ZDc {W:World} (h:laidMetH Tryz.prog Rows.groundKnownRow.laid W):Lib.Utf8Tabs 0 1 W:=by
 rw [MakeChecks.laidMetH_plain _ _ _ kR] at h;have h1:=Lib.laidMet.reads (d:=Rows.laid_unicode_utf8_first) h (.tail _ (.tail _ (.tail _ (.tail _ (.tail _ (.tail _ (.head _)))))));have h2:=Lib.laidMet.reads (d:=Rows.laid_unicode_utf8_acceptRanges) h (.tail _ (.tail _ (.tail _ (.head _))));rw [ZAp] at h1;rw [Zu9] at h2;exact utf8Tabs_of_readsT (U8Types.of196 Tryz.laysValid) ⟨kR,kR,kR,kR,kR,kR,kR⟩ h1 h2
variable {w0:World} {nG:Nat}
def ZEO (hb:1<nG) (hT:Lib.Utf8Tabs 0 1 w0):LexC w0 nG where
 name:=ZD5 ⟨ZpE,Zak,ZAZ,trivial⟩
 quote:=Zti ⟨Zte hb hT,ZbZ,ZfL,Zb0,ZiA,trivial⟩
end Go.PM.Lex
end

section
namespace Go.PM.Lex
open Go.Proofs Go.Proofs.YtlelokbefhefcaaGreatDoor
def Zva:DataW Unit->List Int
 | .agg xs=>xs.map fun | .lit (.int _ z)=>z | _=>0
 | _=>[]
def ZAq:(Rows.laid_internal_strconv_uint64pow10:DataW Unit)=Lib.tabData .u64 Lib.pow10Tab:=kR
def ZEP:(Rows.laid_math_bits_deBruijn64tab:DataW Unit)=Lib.tabData .u8 (Zva Rows.laid_math_bits_deBruijn64tab):=kR
def ZAr:(Zva Rows.laid_math_bits_deBruijn64tab).getD 15 0=4:=kR
def ZDd:(Zva Rows.laid_math_bits_deBruijn64tab).length=64:=kR
def ZEQ {W:World} (h:laidMetH Tryz.prog Rows.groundKnownRow.laid W):NumOK W 8:=by
 rw [MakeChecks.laidMetH_plain _ _ _ kR] at h;have h1 := laidMet.filter (fun x => x.1 == "internal/strconv.uint64pow10") h;have h2 := laidMet.filter (fun x => x.1 == "math/bits.deBruijn64tab") h;have k1 : laidMet Tryz.prog [("internal/strconv.uint64pow10", Lib.tabData .u64 Lib.pow10Tab)] W := by rw [<- ZAq]; exact h1
 have k2 : laidMet Tryz.prog [("math/bits.deBruijn64tab", Lib.tabData .u8 (Zva Rows.laid_math_bits_deBruijn64tab))] W := by rw [<- ZEP]; exact h2
 refine ⟨dM,Lib.tabIs_of_head (g:=3) (t:=360) kR kR Tryz.underlying360 kR kR kR k1,?_⟩;have k3:=Lib.tabIs_of_head (g:=5) (t:=376) kR kR Tryz.underlying376 kR kR kR k2;have k4:=k3.cell (g:=5) kR 15 (by rw [ZDd];decide);rw [ZAr] at k4;exact k4
end Go.PM.Lex
end

section
namespace Go.PM.Lex
open Go.Proofs Go.Proofs.YtlelokbefhefcaaGreatDoor
def Z5 {a b:Bool} (h1:a=true) (h2:b=true):(a && b)=true:=by rw [h1,h2];rfl
def Zsh {P:Program} {f:FuncId} {fn:Func} {s:ChangeSpec} {c:OpenClaim}
  (p1:laidOutB P=true) (p2:mapsRowed P=true) (p3:(P.stops == [])=true) (p4:(P.stopKnobs == [])=true) (p5:(c.plainKeys == P.plainKeys)=true) (p6:P.stopsHeard=true) (p7:P.mayEnter=true) (p8:(c.lifted == P.liftsFinal)=true) (p9:(P.make == some c.make)=true)
  (k1:c.wf (OpenSpec.ofChange s)=true) (k2:fn.params.all (P.readableRec ·)=true) (k3:namedTie P c.named s.vars=true) (k4:(c.stops == [])=true) (k5:(c.knobs == [])=true)
  (k6:(c.inPlace == P.inPlace f)=true) (k7:(c.unfollowed == P.unfollowed f)=true) (k8:(c.recurses == P.recurses f)=true) (k9:(c.named == P.varsNamed f)=true)
  (k10:(c.maps == (fn.params.toList++s.plain.varTypes P).any (P.mapsRec ·))=true) (k11:(c.ifaces == (fn.params.toList++s.plain.varTypes P).any (P.ifacesRec ·))=true) (k12:(c.mapsOut == P.mapsAmong fn.resultTypes.toList)=true)
  (k13:(c.loops == (fn.params.toList++s.plain.varTypes P).any (P.loopsFrom ·))=true) (k14:(c.wideKeys == (fn.params.toList++s.plain.varTypes P++fn.resultTypes.toList).any (P.wideKeysFrom ·))=true)
  (k15:s.vars.all (P.varReadable ·)=true) (k16:fn.resultTypes.all (fun t=>P.readableRec t && decide (t<P.types.size))=true) (k17:(c.ifacesOut == fn.resultTypes.toList.any (P.ifacesRec ·))=true) (k18:(c.loopsOut == fn.resultTypes.toList.any (P.loopsFrom ·))=true)
  (k19:c.shortTexts.isNone=true) (k20:(c.kinds == (if c.domain.isEmpty then [] else fn.params.toList.map fun t=>match P.underlying t with | some (.int k)=>some k | _=>none))=true) (k21:(c.pinned == c.pinnedBy)=true)
  (k22:(c.veiled == (fn.params.toList++s.plain.varTypes P++fn.resultTypes.toList).any (P.veiledRec ·))=true) (k23:c.veiledFits P fn.params.toList (fn.params.toList++s.plain.varTypes P++fn.resultTypes.toList)=true):joinedFacts P f fn s c=true:=by
 unfold joinedFacts
 exact (Z5 (Z5 (Z5 (Z5 (Z5 (Z5 (Z5 (Z5 (Z5 (Z5 (Z5 (Z5 (Z5 (Z5 (Z5 (Z5 (Z5 (Z5 (Z5 (Z5 (Z5 (Z5 (Z5 (Z5 (Z5 (Z5 (Z5 (Z5 (Z5 (Z5 (Z5 k1 p1) p2) k2) k3) k4) p3) k5) p4) k6) k7) k8) k9) k10) k11) k12) k13) k14) k15) k16) k17) k18) p5) k19) p6) p7) p8) p9) k20) k21) k22) k23)
def jp1:laidOutB Tryz.checked.prog=true:=kR
def jp2:mapsRowed Tryz.checked.prog=true:=kR
def jp3:(Tryz.checked.prog.stops == [])=true:=kR
def jp4:(Tryz.checked.prog.stopKnobs == [])=true:=kR
def jp5:(Rows.groundKnownRow.plainKeys == Tryz.checked.prog.plainKeys)=true:=kR
def jp6:Tryz.checked.prog.stopsHeard=true:=kR
def jp7:Tryz.checked.prog.mayEnter=true:=kR
def jp8:(Rows.groundKnownRow.lifted == Tryz.checked.prog.liftsFinal)=true:=kR
def jp9:(Tryz.checked.prog.make == some Rows.groundKnownRow.make)=true:=kR
def jp10:Tryz.checked.prog.mainIs=some (Rows.groundKnownCard.stood.harness.1,Rows.groundKnownCard.stood.harness.2.toList):=kR
def jp11:Rows.groundKnownCard.stood.looks=Tryz.checked.prog.looks []:=kR
end Go.PM.Lex
end
