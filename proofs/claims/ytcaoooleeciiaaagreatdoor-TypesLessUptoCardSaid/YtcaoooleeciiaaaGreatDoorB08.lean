/- A part of the proof: plain logic, contracts and laws over the given program. -/
import Derived.Lib.ValidU
import Derived.Test.YtcaoooleeciiaaaGreatDoorValid
import Derived.Shelf.Unicode.ValidAny
import Derived.Lib.MapLaws
import Derived.Test.YtcaoooleeciiaaaGreatDoorMore
import Derived.Lib.AppendIntMem
import Derived.WalkKit
import Derived.Test.YtcaoooleeciiaaaGreatDoorB07
set_option linter.unusedVariables false
set_option linter.unusedSimpArgs false
set_option linter.all false
set_option maxRecDepth 100000
set_option maxHeartbeats 16000000
noncomputable section
section
namespace Go.PM.Lex
mutual
def erE:Ex->Ex
 | .mk op t n args _=>.mk op t n (Zwd args) 0
def Zwd:List Ex->List Ex
 | []=>[]
 | e::l=>erE e::Zwd l
end
def JB (l:List Ex):Zwd l=l.map erE:=by induction l with | nil=>rfl | cons x l ih=>simp [Zwd,ih]
mutual
def erL:Li->Li
 | .mk op rel args body _=>.mk op rel (Zwd args) (ZD8 body) 0
def ZD8:List Li->List Li
 | []=>[]
 | e::l=>erL e::ZD8 l
end
def ZmK (l:List Li):ZD8 l=l.map erL:=by induction l with | nil=>rfl | cons x l ih=>simp [ZD8,ih]
def Ztd (r:Ru):Ru:=⟨r.head,r.args.map erE,r.body.map erL,0⟩
def Zz3 (t:Ty):Ty:={ t with at':=0 }
def Zz4 (t:Re):Re:={ t with at':=0 }
def ZJl (t:Ini):Ini:={ t with at':=0 }
def ZJm (t:Ov):Ov:={ t with at':=0 }
mutual
def Zwe:Un->Un
 | .mk a b c d e f=>.mk (a.map Zz3) (b.map Zz4) (c.map Ztd) (Zz5 d) (e.map ZJl) (f.map ZJm)
def ZJn:Co->Co
 | .mk nm ps base tys u _=>.mk nm ps base tys (Zwe u) 0
def Zz5:List Co->List Co
 | []=>[]
 | e::l=>ZJn e::Zz5 l
end
def Zwf:List Bs:=[[44],[124],[60],[40],[105,110,112,117,116],[111,117,116,112,117,116],[105,110,108,105,110,101],[99,111,117,110,116],[115,117,109],[109,105,110],[109,97,120],[98,111,114],[98,120,111,114],[98,97,110,100],[115,104,108],[115,104,114],[43],[45],[42],[47],[37]]
def W9 (m:Ts):Prop:=∀w∈Zwf,isW m [w]=false
def Stb {α:Type} (er:α->α) (m:Ts) (x y:R α):Prop:=∀v ts,x=.ok v ts->∃v',er v'=er v/\y=.ok v' (ts++m)
def Stw {α:Type} (er:α->α) (m:Ts) (x y:R α):Prop:=∀v t ts,x=.ok v (t::ts)->∃v',er v'=er v/\y=.ok v' ((t::ts)++m)
abbrev Ub {α:Type} (er:α->α) (m:Ts) (P:Ts->R α):Prop:=∀ts,Stb er m (P ts) (P (ts++m))
section
variable {α β:Type} {er:α->α} {er2:β->β} {m:Ts}
def Stb.weak {x y:R α} (h:Stb er m x y):Stw er m x y:=fun v t ts e=>h v (t::ts) e
def Stb.ok {v v':α} {ts:Ts} (h:er v'=er v):Stb er m (.ok v ts) (.ok v' (ts++m)):=fun w rest e=>by cases e;exact ⟨v',h,rfl⟩
def Stb.ok' {v v':α} {ts ts':Ts} (h:er v'=er v) (e:ts'=ts++m):Stb er m (.ok v ts) (.ok v' ts'):=e ▸ Stb.ok h
def Stb.err {r e:Nat} {y:R α}:Stb er m (.err r e) y:=fun w rest e=>by cases e
def ZJ4 {x y:R α} {r e:Nat} (h:x=.err r e):Stb er m x y:=h ▸ Stb.err
def Stb.bind {x y:R α} {f g:α->Ts->R β} (h:Stb er m x y) (hf:∀v v' ts,er v'=er v->Stb er2 m (f v ts) (g v' (ts++m))):Stb er2 m (x.bind f) (y.bind g):=fun w rest e=>by
 cases x with
 | ok v ts =>
  obtain ⟨v',h1,rfl⟩:=h v ts rfl;exact hf v v' ts h1 w rest e
 | err r e'=>cases e
def Stb.binds {x y:R α} {f g:α->Ts->R β} (h:Stb id m x y) (hf:∀v ts,Stb er2 m (f v ts) (g v (ts++m))):Stb er2 m (x.bind f) (y.bind g):=Stb.bind h fun v v' ts e=>by cases (show v'=v from e);exact hf v ts
end
variable {m:Ts}
def Yz {t:T0} {ts:Ts} {ws:List Bs}:isW (t::ts++m) ws=isW (t::ts) ws:=rfl
def YS (ws:List Bs):isW [] ws=false:=by simp [isW,hd]
def UN (hm:W9 m) {w:Bs} (hw:w∈Zwf) (ts:Ts):isW (ts++m) [w]=isW ts [w]:=by
 cases ts with
 | nil=>rw [YS,Tu,hm w hw]
 | cons t ts=>rfl
def ZaX {ts:Ts} {ws:List Bs} (h:isW ts ws=true):∃t l,ts=t::l:=by
 cases ts with
 | nil=>rw [YS] at h;cases h
 | cons t l=>exact ⟨t,l,rfl⟩
def Xb (w:Bs):Ub (id:Unit->Unit) m (ZM w):=fun ts=>by
 unfold ZM
 by_cases h:isW ts [w]=true
 ·obtain ⟨t,l,rfl⟩:=ZaX h;rw [Tg h,Yz,Tg h];exact Stb.ok rfl
 rw [Tb h];exact Stb.err
def X7:Ub id m Y9:=fun ts=>by
 unfold Y9
 cases ts with
 | nil=>rw [Tb dM];exact Stb.err
 | cons t l =>
 rw [show Zt (t::l++m)=Zt (t::l) from rfl]
 by_cases h:Zt (t::l)=true
 ·rw [Tg h,Tg h];exact Stb.ok rfl
 rw [Tb h];exact Stb.err
def J1 {α:Type} {er:α->α} {d:Nat} {fr tw:Bs} {read read':Ts->R α} (l8:tw≠[]) (h:∀ts,Stw er m (read ts) (read' (ts++m))) (ts:Ts):Stb er m (Zm d fr tw read ts) (Zm d fr tw read' (ts++m)):=by
 unfold Zm
 by_cases h1:isW ts [fr]=true
 ·obtain ⟨t,l,rfl⟩:=ZaX h1;rw [Tg h1,Yz,Tg h1]
  by_cases hd:d=0
  ·rw [Tg hd];exact Stb.err
  rw [Tb hd,Tb hd];intro v rest e
  have hl:=h l;rw [show (t::l).tail=l from rfl] at e;rw [show (t::l++m).tail=l++m from rfl]
  cases hx:read l with
  | err r e'=>rw [hx] at e;cases e
  | ok x ts1 =>
  rw [hx] at e hl;rw [R.bind_ok,Tb l8] at e
  cases ts1 with
  | nil=>unfold ZM at e;rw [Tb (by rw [YS];simp)] at e;cases e
  | cons t1 l1 =>
  obtain ⟨x',g1,g2⟩:=hl x t1 l1 rfl;rw [g2,R.bind_ok,Tb l8];exact (Stb.bind (er2:=er) (Xb tw (t1::l1)) (f:=fun _ ts=>.ok x ts) (g:=fun _ ts=>.ok x' ts) (fun _ _ ts _=>Stb.ok g1)) v rest e
 rw [Tb h1];exact Stb.err
def Zhd {α:Type} {er:α->α} {d:Nat} {fr:Bs} {read:Ts->R α} (h:Ub er m read):Ub er m (Zm d fr [] read):=fun ts=>by
 unfold Zm
 by_cases h1:isW ts [fr]=true
 ·obtain ⟨t,l,rfl⟩:=ZaX h1;rw [Tg h1,Yz,Tg h1]
  by_cases hd:d=0
  ·rw [Tg hd];exact Stb.err
  rw [Tb hd,Tb hd];refine Stb.bind (h l) fun v v' ts e=>?_
  rw [Tg rfl,Tg rfl];exact Stb.ok e
 rw [Tb h1];exact Stb.err
def Zhe {α:Type} {er:α->α} (hm:W9 m) {sign:Bs} (hs:sign∈Zwf) {most:Nat} {starts:Ts->Bool} {one:Ts->R α} (h:Ub er m one) (hst:∀t ts,starts (t::ts++m)=starts (t::ts)) (aq:∃r e,one []=.err r e) :
  ∀(f f':Nat) (l l':List α) (ts:Ts),f<=f'->l'.map er=l.map er->Stb (List.map er) m (Yw sign most starts one f l ts) (Yw sign most starts one f' l' (ts++m))
 | 0,f',l,l',ts,hf,hl=>Stb.err
 | f+1,0,l,l',ts,hf,hl=>oM
 | f+1,f'+1,l,l',ts,hf,hl=>by
  have aa:l'.length=l.length:=by simpa using congrArg List.length hl
  rw [Yw,Yw]
  cases ts with
  | nil =>
   obtain ⟨r,e,hr⟩:=aq
   by_cases hc:starts []=true/\l.length=most
   ·rw [Tg hc];exact Stb.err
   rw [Tb hc,hr];exact Stb.err
  | cons t ts =>
  rw [hst]
  by_cases hc:starts (t::ts)=true/\l.length=most
  ·rw [Tg hc];exact Stb.err
  rw [Tb hc,Tb (by rw [aa];exact hc)];refine Stb.bind (h _) fun v v' ts1 e=>?_
  rw [UN hm hs];have fc:(l'++[v']).map er=(l++[v]).map er:=by simp [hl,e]
  by_cases hw:isW ts1 [sign]=true
  ·obtain ⟨t1,l1,rfl⟩:=ZaX hw;rw [Tg hw,Tg hw];exact Zhe hm hs h hst aq f f' _ _ l1 oM fc
  rw [Tb hw,Tb hw];exact Stb.ok fc
def ZbI {α:Type} {er:α->α} (hm:W9 m) {sign:Bs} (hs:sign∈Zwf) {most:Nat} {starts:Ts->Bool} {one:Ts->R α} (h:Ub er m one) (hst:∀t ts,starts (t::ts++m)=starts (t::ts)) (aq:∃r e,one []=.err r e) :
  Ub (List.map er) m (Xf sign most starts one):=fun ts=>Zhe hm hs h hst aq _ _ [] [] ts (by rw [Ta];omega) rfl
def ZiF {α:Type} {sign:Bs} {most:Nat} {starts:Ts->Bool} {one:Ts->R α} (hs:starts []=false) (aq:∃r e,one []=.err r e):∃r e,Xf sign most starts one []=.err r e:=by
 obtain ⟨r,e,h⟩:=aq;exact ⟨r,e,by simp [Xf,Yw,hs,h]⟩
def map_id' {α:Type} (l:List α):l.map id=l:=sM
def ZkF:Ub id m Wr:=fun ts=>Stb.binds (X7 ts) fun a ts=>Stb.binds (Xb _ ts) fun _ ts=>Stb.binds (X7 ts) fun b ts=>Stb.ok rfl
def ZkG:∃r e,Wr []=.err r e:=⟨0,150,rfl⟩
def Stb.idl {α:Type} {x y:R (List α)} (h:Stb (List.map id) m x y):Stb id m x y:=fun v ts e=>by
 obtain ⟨v',h1,h2⟩:=h v ts e;exact ⟨v',by simpa using h1,h2⟩
def WS (hm:W9 m) (fin:Bs):Ub id m (Wo fin):=fun ts=>by
 unfold Wo
 cases ts with
 | nil =>
  rw [Tb (by rw [YS];simp)];obtain ⟨r,e,h⟩:=ZiF (sign:=[44]) (most:=12) (starts:=Zt) rfl ZkG;exact ZJ4 h
 | cons t ts =>
 rw [Yz]
 by_cases h:isW (t::ts) [fin]=true
 ·rw [Tg h,Tg h];exact Stb.ok rfl
 rw [Tb h,Tb h];exact (ZbI hm dM ZkF (fun _ _=>rfl) ZkG _).idl
def ZoE (hm:W9 m):Ub id m Jt:=fun ts=>Stb.binds (X7 ts) fun a ts=>Stb.binds (Xb _ ts) fun _ ts=>Stb.binds (WS hm _ ts) fun l ts=>Stb.binds (Xb _ ts) fun _ ts=>Stb.ok rfl
def ZoF:∃r e,Jt []=.err r e:=⟨0,150,rfl⟩
def Stb.ite {α:Type} {er:α->α} {ts:Ts} {w:Bs} {x x' y y':R α} (aq:ts=[]->∃r e,y=.err r e) (h1:isW ts [w]=true->Stb er m x x') (h2:Stb er m y y') :
  Stb er m (if isW ts [w]=true then x else y) (if isW (ts++m) [w]=true then x' else y'):=by
 cases ts with
 | nil =>
  rw [Tb (by rw [YS];simp)];obtain ⟨r,e,h⟩:=aq rfl;exact ZJ4 h
 | cons t ts =>
 exact mq154
def UO {ts:Ts} {ws:List Bs} (h:isW ts ws=true):(ts++m).tail=ts.tail++m:=by obtain ⟨t,l,rfl⟩:=ZaX h;rfl
def ZoG {α:Type} (w:Bs) (f:Unit->Ts->R α):∃r e,(ZM w []).bind f=.err r e:=⟨0,150,by rw [show ZM w []=.err 0 150 from by unfold ZM;rw [Tb (by rw [YS];simp)];rfl];rfl⟩
def Zte (hm:W9 m):Ub Zz3 m Ju:=fun t0=>Stb.binds (X7 t0) fun nm ts=>by
 refine Stb.ite (fun h=>by subst h;exact ZoG _ _) (fun h=>?_) ?_
 ·rw [UO h];exact Stb.binds (X7 _) fun b ts=>Stb.ok rfl
 refine Stb.binds (Xb _ ts) fun _ ts=>?_
 refine Stb.ite (fun h=>?_) (fun h=>?_) ?_
 ·subst h;obtain ⟨r,e,h⟩:=ZiF (sign:=[124]) (most:=64) (starts:=Zt) rfl ZoF;exact ⟨r,e,by rw [h];rfl⟩
 ·rw [UO h];exact Stb.binds (WS hm _ _) fun l ts=>Stb.binds (Xb _ ts) fun _ ts=>Stb.ok rfl
 exact Stb.binds (ZbI hm dM (ZoE hm) (fun _ _=>rfl) ZoF ts).idl fun l ts=>Stb.ok rfl
def ZbJ (hm:W9 m):∀(f:Nat) (i o n:Bool) (ts:Ts),Yn f i o n (ts++m)=((Yn f i o n ts).1,(Yn f i o n ts).2++m)
 | 0,i,o,n,ts=>rfl
 | f+1,i,o,n,ts=>by
  rw [Yn,Yn,UN hm dM,UN hm dM,UN hm dM]
  by_cases h1:i=false/\isW ts [[105,110,112,117,116]]=true
  ·rw [Tg h1,Tg h1,UO h1.2,ZbJ hm f]
  rw [Tb h1,Tb h1]
  by_cases h2:o=false/\isW ts [[111,117,116,112,117,116]]=true
  ·rw [Tg h2,Tg h2,UO h2.2,ZbJ hm f]
  rw [Tb h2,Tb h2]
  by_cases h3:n=false/\isW ts [[105,110,108,105,110,101]]=true
  ·rw [Tg h3,Tg h3,UO h3.2,ZbJ hm f]
  rw [Tb h3,Tb h3]
def Zwg (hm:W9 m):Ub Zz4 m Ze0:=fun t0=>Stb.binds (X7 t0) fun nm ts=>Stb.binds (Xb _ ts) fun _ ts=>Stb.binds (WS hm _ ts) fun l ts=>Stb.binds (Xb _ ts) fun _ ts=>by
 rw [ZbJ hm];exact Stb.ok rfl
def J2:ZC []=false:=rfl
def ZbK (hm:W9 m) {d:Nat} {ex:Ts->R Ex} (h:Ub erE m ex) (aq:∃r e,ex []=.err r e) (fr tw:Bs) (l8:tw≠[]):Ub (List.map erE) m (Zad d ex fr tw):=fun ts=>by
 unfold Zad
 refine J1 l8 (fun ts=>Stb.weak ?_) ts;refine Stb.ite (fun h=>by subst h;exact ZiF rfl aq) (fun h=>Stb.ok rfl) ?_;exact ZbI hm dM h (fun _ _=>rfl) aq ts
def ZoH {ex:Ts->R Ex} (h:Ub erE m ex):∀(k:Nat) (l l':List Ex) (ts:Ts),l'.map erE=l.map erE->Stb (List.map erE) m (Y1 ex k l ts) (Y1 ex k l' (ts++m))
 | 0,l,l',ts,hl=>Stb.ok hl
 | k+1,l,l',ts,hl=>by
  have aa:l'.length=l.length:=by simpa using congrArg List.length hl
  have h0:l'=[]↔l=[]:=by rw [<- Sq,<- Sq,aa]
  rw [Y1,Y1];refine Stb.binds (α:=Unit) ?_ fun _ ts=>Stb.bind (h ts) fun v v' ts e=>ZoH h k _ _ ts (by simp [hl,e])
  by_cases hc:l=[]
  ·rw [Tg hc,Tg (h0.2 hc)];exact Stb.ok rfl
  rw [Tb hc,Tb (fun g=>hc (h0.1 g))];exact Xb _ ts
def ZmL (hm:W9 m) {d:Nat} {ex:Ts->R Ex} (h:Ub erE m ex) (aq:∃r e,ex []=.err r e):Ub erE m (YK d ex):=fun ts=>by
 cases ts with
 | nil=>exact ZJ4 (r:=0) (e:=150) (by unfold YK;rw [Tg J2];rfl)
 | cons t ts =>
 unfold YK
 rw [show ZC (t::ts++m)=ZC (t::ts) from rfl,show hd (t::ts++m)=t from rfl,show hd (t::ts)=t from rfl,show (t::ts++m).tail=ts++m from rfl,show (t::ts).tail=ts from rfl]
 by_cases c0:ZC (t::ts)=false
 ·rw [Tg c0];exact Stb.err
 rw [Tb c0,Tb c0]
 by_cases c1:t.kind=2
 ·rw [Tg c1,Tg c1];exact Stb.ok rfl
 rw [Tb c1,Tb c1]
 by_cases c2:t.kind=3
 ·rw [Tg c2,Tg c2];exact Stb.ok rfl
 rw [Tb c2,Tb c2]
 by_cases c3:t.text=[40]
 ·rw [Tg c3,Tg c3];exact J1 sM (fun ts=>(h ts).weak) (t::ts)
 rw [Tb c3,Tb c3]
 by_cases c4:t.text=[91]
 ·rw [Tg c4,Tg c4];exact Stb.bind (ZbK hm h aq _ _ sM (t::ts)) fun v v' ts e=>Stb.ok (by simp only [erE,JB,e])
 rw [Tb c4,Tb c4]
 by_cases c5:t.text=[36]
 ·rw [Tg c5,Tg c5];refine Stb.binds (X7 ts) fun nm ts=>?_
  rw [UN hm dM]
  by_cases c6:isW ts [[40]]=true
  ·rw [Tg c6,Tg c6];exact Stb.bind (ZbK hm h aq _ _ sM ts) fun v v' ts e=>Stb.ok (by simp only [erE,JB,e])
  rw [Tb c6,Tb c6];exact Stb.ok rfl
 rw [Tb c5,Tb c5]
 by_cases c6:Z1 t.text≠0
 ·rw [Tg c6,Tg c6];exact Stb.bind (J1 sM (fun ts=>(ZoH h _ [] [] ts rfl).weak) ts) fun v v' ts e=>Stb.ok (by simp only [erE,JB,e])
 rw [Tb c6,Tb c6]
 by_cases c7:t.text=[110,105,108]
 ·rw [Tg c7,Tg c7];exact Stb.ok rfl
 rw [Tb c7,Tb c7]
 by_cases c8:t.text=[95]
 ·rw [Tg c8,Tg c8];exact Stb.ok rfl
 rw [Tb c8,Tb c8];exact Stb.ok rfl
def Zwh (hm:W9 m):VR m=(0,0):=by
 unfold VR
 by_cases hk:(hd m).kind≠1/\(hd m).kind≠4
 ·rw [Tg hk]
 rw [Tb hk];have key:∀w∈Zwf,(hd m).text≠w:=fun w hw e=>by
  have:=hm w hw;unfold isW at this
  rw [Bool.and_eq_false_iff] at this;rcases this with h | h
  ·simp only [Sd,decide_eq_false_iff_not] at h;exact hk h
  rw [e] at h;simp at h
 rw [Tb (key _ dM),Tb (key _ dM),Tb (key _ dM),Tb (key _ dM),Tb (key _ dM),Tb (key _ dM),Tb (key _ dM),Tb (key _ dM),Tb (key _ dM),Tb (key _ dM)]
def Ztf (hm:W9 m) (ts:Ts):VR (ts++m)=VR ts:=by
 cases ts with
 | nil=>rw [Tu,Zwh hm];rfl
 | cons t ts=>rfl
def Ztg {ts:Ts} (h:(VR ts).1≠0):∃t l,ts=t::l:=by
 cases ts with
 | nil=>exact absurd rfl h
 | cons t l=>exact ⟨t,l,rfl⟩
def Zhf (hm:W9 m) {sub:Nat->Ts->R Ex} (h:∀k,Ub erE m (sub k)) (least:Nat):∀(f f':Nat) (e e':Ex) (ts:Ts),f<=f'->erE e'=erE e->Stb erE m (XJ sub least f e ts) (XJ sub least f' e' (ts++m))
 | 0,f',e,e',ts,hf,he=>Stb.err
 | f+1,0,e,e',ts,hf,he=>oM
 | f+1,f'+1,e,e',ts,hf,he=>by
  rw [XJ,XJ,Ztf hm]
  by_cases hc:(VR ts).1<least\/(VR ts).1=0
  ·rw [Tg hc,Tg hc];exact Stb.ok he
  rw [Tb hc,Tb hc];obtain ⟨t,l,rfl⟩:=Ztg (fun g=>hc (.inr g));exact Stb.bind (h _ l) fun v v' ts e1=>Zhf hm h least f f' _ _ ts oM (by simp only [erE,Zwd,e1,he])
def JC (hm:W9 m) {sg:Ts->R Ex} (h:Ub erE m sg):∀(k least:Nat),Ub erE m (XK sg k least)
 | 0,least=>h
 | k+1,least=>fun ts=>Stb.bind (h ts) fun v v' ts e=>Zhf hm (JC hm h k) least _ _ _ _ ts (by rw [Ta];omega) e
def ZkH {sg:Ts->R Ex} (h:∃r e,sg []=.err r e):∀(k least:Nat),∃r e,XK sg k least []=.err r e
 | 0,least=>h
 | k+1,least=>by obtain ⟨r,e,h⟩:=h;exact ⟨r,e,by rw [XK,h];rfl⟩
def ZcK (d:Nat) (sg:Ts->R Ex):∃r e,Xg d sg []=.err r e:=⟨0,150,by unfold Xg;rw [Tb (by rw [YS];simp),Tb (by rw [YS];simp)];unfold YK;rw [Tg J2];rfl⟩
def Zhg (hm:W9 m) {d:Nat} {sg:Ts->R Ex} (h:Ub erE m sg) (aq:∃r e,sg []=.err r e):Ub erE m (Xg d sg):=fun ts=>by
 cases ts with
 | nil=>obtain ⟨r,e,h⟩:=ZcK d sg;exact ZJ4 h
 | cons t ts =>
 unfold Xg
 rw [Yz,Yz]
 by_cases c1:isW (t::ts) [[45]]=true
 ·rw [Tg c1,Tg c1];exact Stb.bind (Zhd h (t::ts)) fun v v' ts e=>Stb.ok (by simp only [erE,Zwd,e])
 rw [Tb c1,Tb c1]
 by_cases c2:isW (t::ts) [[126]]=true
 ·rw [Tg c2,Tg c2];exact Stb.bind (Zhd h (t::ts)) fun v v' ts e=>Stb.ok (by simp only [erE,Zwd,e])
 rw [Tb c2,Tb c2];exact ZmL hm (JC hm h 6 1) (ZkH aq 6 1) (t::ts)
def Zfi:∀d,∃r e,Ya d []=.err r e
 | 0=>ZcK _ _
 | d+1=>ZcK _ _
def UP (hm:W9 m):∀d,Ub erE m (Ya d)
 | 0=>Zhg hm (fun ts=>Stb.err) ⟨0,150,rfl⟩
 | d+1=>Zhg hm (UP hm d) (Zfi d)
def ZbL (hm:W9 m) (d:Nat):Ub erE m (Vl d):=JC hm (UP hm d) 6 1
def ZoI (d:Nat):∃r e,Vl d []=.err r e:=ZkH (Zfi d) 6 1
def JD (hm:W9 m):∀d,Ub erE m (Jv d)
 | 0=>fun ts=>Stb.err
 | d+1=>ZbL hm d
def Zfj:∀d,∃r e,Jv d []=.err r e
 | 0=>⟨0,150,rfl⟩
 | d+1=>ZoI d
def Zfk {t:T0} {ts:Ts}:∀(ws:List Bs) (i:Nat),Vw (t::ts++m) i ws=Vw (t::ts) i ws
 | [],i=>rfl
 | w::ws,i=>by rw [Vw,Vw,Zfk ws,Yz]
def ZdZ:∀(ws:List Bs) (i:Nat),Vw [] i ws=none
 | [],i=>rfl
 | w::ws,i=>by rw [Vw,Tb (by rw [YS];simp),ZdZ ws]
def ZkI (hm:W9 m):∀(ws:List Bs) (i:Nat),(∀w∈ws,w∈Zwf)->Vw m i ws=none
 | [],i,_=>rfl
 | w::ws,i,h=>by rw [Vw,Tb (by rw [hm w (h w sM)];simp),ZkI hm ws _ fun x hx=>h x (Tt _ hx)]
def ZkJ (hm:W9 m):Ub id m Vm:=fun ts=>by
 cases ts with
 | nil=>exact ZJ4 (r:=0) (e:=150) (by unfold Vm;rw [ZdZ];rfl)
 | cons t ts =>
 have ha:Vw (ts++m) 0 Z5=Vw ts 0 Z5:=by
  cases ts with
  | nil=>rw [Tu,ZdZ,ZkI hm _ _ dM]
  | cons t ts=>exact Zfk _ _
 unfold Vm
 rw [Zfk,show (t::ts++m).tail=ts++m from rfl,show (t::ts).tail=ts from rfl,ha]
 cases h:Vw (t::ts) 0 ZU with
 | none=>exact Stb.err
 | some k =>
 cases k with
 | zero =>
  simp only
  cases h2:Vw ts 0 Z5 with
  | none=>exact Stb.ok rfl
  | some j =>
  cases ts with
  | nil=>rw [ZdZ] at h2;cases h2
  | cons t ts=>exact Stb.ok rfl
 | succ k=>exact Stb.ok rfl
def Zfl (hm:W9 m) (d op a a':Nat) (ts:Ts):Stb erL m (W7 d op a ts) (W7 d op a' (ts++m)) :=
 Stb.binds (X7 ts) fun nm ts=>Stb.bind (ZbK hm (JD hm d) (Zfj d) _ _ sM ts) fun v v' ts e=>Stb.ok (by simp only [erL,JB,ZD8,e])
def Zhh (hm:W9 m) {d:Nat} {bd:Ts->R (List Li)} (h:Ub (List.map erL) m bd) (a a' op:Nat) {l l':List Ex} (hl:l'.map erE=l.map erE) (ts:Ts):Stb erL m (YV d bd a op l ts) (YV d bd a' op l' (ts++m)):=by
 unfold YV
 by_cases hc:9<=op
 ·rw [Tg hc,Tg hc];exact Stb.binds (Xb _ ts) fun _ ts=>Stb.bind (J1 sM (fun ts=>(h ts).weak) ts) fun v v' ts e=>Stb.ok (by simp only [erL,JB,ZmK,e,hl])
 rw [Tb hc,Tb hc];exact Stb.ok (by simp only [erL,JB,ZmK,hl])
def Zqz (hm:W9 m) {d:Nat} {bd:Ts->R (List Li)} (h:Ub (List.map erL) m bd):Ub erL m (U5 d bd):=fun t0=>by
 refine Stb.bind (ZbL hm d t0) fun v v' ts e=>Stb.binds (ZkJ hm ts) fun op ts=>?_
 by_cases hc:op=9
 ·rw [Tg hc,Tg hc];exact Zhh hm h _ _ _ (by simp [e]) ts
 rw [Tb hc,Tb hc];exact Stb.bind (ZbL hm d ts) fun g g' ts e2=>Zhh hm h _ _ _ (by simp [e,e2]) ts
def ZkK (hm:W9 m):¬((hd m).kind=4/\(hd m).text=[40]):=fun h=>by
 have:=hm [40] dM;unfold isW at this
 rw [h.1,h.2] at this;simp at this
def ZmM (d:Nat) (bd:Ts->R (List Li)):∃r e,Zbf d bd []=.err r e:=by
 obtain ⟨r,e,h⟩:=ZoI d;exact ⟨r,e,by unfold Zbf;rw [Tb (by rw [YS];simp),Tb (by simp [Zt,hd])];unfold U5;rw [h];rfl⟩
def ZiG (hm:W9 m) {d:Nat} {bd:Ts->R (List Li)} (h:Ub (List.map erL) m bd):Ub erL m (Zbf d bd):=fun t0=>by
 cases t0 with
 | nil=>obtain ⟨r,e,h⟩:=ZmM d bd;exact ZJ4 h
 | cons t ts =>
 unfold Zbf
 rw [Yz,show Zt (t::ts++m)=Zt (t::ts) from rfl,show (t::ts++m).tail=ts++m from rfl,show (t::ts).tail=ts from rfl]
 by_cases c1:isW (t::ts) [[33]]=true
 ·rw [Tg c1,Tg c1];exact Zfl hm _ _ _ _ ts
 rw [Tb c1,Tb c1];have hh:(Zt (t::ts)=true/\(hd (ts++m)).kind=4/\(hd (ts++m)).text=[40])↔(Zt (t::ts)=true/\(hd ts).kind=4/\(hd ts).text=[40]):=by
  exact mq115
 by_cases c2:Zt (t::ts)=true/\(hd ts).kind=4/\(hd ts).text=[40]
 ·rw [Tg c2,Tg (hh.2 c2)];exact Zfl hm _ _ _ _ (t::ts)
 rw [Tb c2,Tb (fun g=>c2 (hh.1 g))];exact Zqz hm h (t::ts)
def Zd0 (hm:W9 m):∀d,Ub (List.map erL) m (Zgu d)
 | 0=>ZbI hm dM (ZiG hm fun ts=>Stb.err) (fun _ _=>rfl) (ZmM _ _)
 | d+1=>ZbI hm dM (ZiG hm (Zd0 hm d)) (fun _ _=>rfl) (ZmM _ _)
def Zwi (hm:W9 m) (d:Nat) (bodies:Bool):Ub Ztd m (ZdE d bodies):=fun t0=>Stb.binds (X7 t0) fun nm ts=>Stb.bind (ZbK hm (JD hm d) (Zfj d) _ _ sM ts) fun v v' ts e=>by
 cases ts with
 | nil =>
  rw [Tb (fun g=>by have:=g.2;rw [YS] at this;cases this)];obtain ⟨r,e',h⟩:=ZoG [46] (fun _ ts=>R.ok (⟨nm,v,[],t0.length⟩:Ru) ts);exact ZJ4 h
 | cons t ts =>
 rw [Yz]
 by_cases hc:bodies=true/\isW (t::ts) [[58,45]]=true
 ·rw [Tg hc,Tg hc];exact Stb.bind (Zd0 hm d ts) fun b b' ts e2=>Stb.binds (Xb _ ts) fun _ ts=>Stb.ok (by simp only [Ztd,e,e2])
 rw [Tb hc,Tb hc];exact Stb.binds (Xb _ (t::ts)) fun _ ts=>Stb.ok (by simp only [Ztd,e])
def Un.app:Un->Un->Un
 | .mk a1 a2 a3 a4 a5 a6,.mk b1 b2 b3 b4 b5 b6=>.mk (a1++b1) (a2++b2) (a3++b3) (a4++b4) (a5++b5) (a6++b6)
def Un.le:Un->Un->Prop
 | .mk a1 a2 a3 a4 a5 a6,.mk b1 b2 b3 b4 b5 b6=>a1.length<=b1.length/\a2.length<=b2.length/\a3.length<=b3.length/\a4.length<=b4.length/\a5.length<=b5.length/\a6.length<=b6.length
def Un.le_refl:∀u:Un,Un.le u u | .mk ..=>⟨Tw _,Tw _,Tw _,Tw _,Tw _,Tw _⟩
def Un.le_trans:∀{u v w:Un},Un.le u v->Un.le v w->Un.le u w
 | .mk ..,.mk ..,.mk ..,⟨h1,h2,h3,h4,h5,h6⟩,⟨k1,k2,k3,k4,k5,k6⟩=>⟨oM,oM,oM,oM,oM,oM⟩
def Un.room:Un->Un->Prop
 | .mk a1 a2 a3 a4 a5 a6,.mk b1 b2 b3 b4 b5 b6=>a1.length+b1.length<=256/\a2.length+b2.length<=256/\a3.length+b3.length<=1024/\a4.length+b4.length<=64/\a5.length+b5.length<=256/\a6.length+b6.length<=256
end Go.PM.Lex
end

section
namespace Go.PM.Lex
open Go.Proofs
variable {w0:World} {nG:Nat}
def szS {α:Type} (f:α->Nat):List α->Nat
 | []=>0
 | x::l=>1+f x+szS f l
def Zo {α:Type} (f:α->Nat):∀(l:List α),l.length<=szS f l
 | []=>Tw _
 | x::l=>by have:=Zo f l;simp only [Te,szS];omega
def Zu {α:Type} (f:α->Nat):∀(l:List α) (i:Nat) (h:i<l.length),f l[i]<szS f l
 | x::l,0,h=>by simp only [List.getElem_cons_zero,szS];omega
 | x::l,i+1,h=>by have:=Zu f l i (by simpa using h);simp only [List.getElem_cons_succ,szS];omega
def Xw:∀(l:List Ex),Ztc l=szS szE l
 | []=>rfl
 | x::l=>by rw [Ztc,szS,Xw l]
def eqB (a b:Bs):Bool:=decide (a=b)
mutual
def szL:Li->Nat
 | .mk _ _ a b _=>1+szS szE a+ZD9 b
def ZD9:List Li->Nat
 | []=>0
 | x::l=>1+szL x+ZD9 l
end
def X2:∀(l:List Li),ZD9 l=szS szL l
 | []=>by rw [ZD9,szS]
 | x::l=>by rw [ZD9,szS,X2 l]
def Zdk (r:Ru):Nat:=1+szS szE r.args+szS szL r.body
def sz0 {α:Type} (_:α):Nat:=0
def ZlN (c:Ca):Nat:=1+szS sz0 c.fields
def ZqA (a:Ty):Nat:=1+szS sz0 a.fields+szS ZlN a.cases
def ZmN (a:Re):Nat:=1+szS sz0 a.fields
def ZJo (a:Ini):Nat:=1+szS sz0 a.types
mutual
def ZJp:Un->Nat
 | .mk a1 a2 a3 a4 a5 a6=>1+szS ZqA a1+szS ZmN a2+szS Zdk a3+Zth a4+szS ZJo a5+szS sz0 a6
def ZIG:Co->Nat
 | .mk _ p _ t u _=>1+szS sz0 p+szS sz0 t+ZJp u
def Zth:List Co->Nat
 | []=>0
 | x::l=>1+ZIG x+Zth l
end
def Vx:∀(l:List Co),Zth l=szS ZIG l
 | []=>by rw [Zth,szS]
 | x::l=>by rw [Zth,szS,Vx l]
def spB (sp:Nat->Zq) (n:Nat):Zq:=fun args σ K=>0<n/\sp (n - 1) args σ K
def ZoJ {sp:Nat->Zq} (h:∀n,ZL (sp n)) (n:Nat):ZL (spB sp n):=fun args σ K K' hK g=>⟨g.1,h _ _ _ _ _ hK g.2⟩
def ZV {g:FuncId} {sp:Nat->Zq} (h:VX (GG w0 nG).P g):PC w0 nG g (spB sp 0):=⟨h,fun args σ K hs=>absurd hs.1 oM⟩
def ZW {g:FuncId} {sp:Nat->Zq} {n:Nat} (h:PC w0 nG g (sp n)):PC w0 nG g (spB sp (n+1)):=h.weaken1 fun args σ K hs=>hs.2
def Zz6 {n len b0 b1 b2 b3 b1' b2' b3':Nat} (h1:1<n->b1'=b1) (h2:2<n->b2'=b2) (h3:3<n->b3'=b3) (hn:1<=n) (hd:(Lib.decodeN len b0 b1 b2 b3).2<=n) :
  Lib.decodeN (min n len) b0 b1' b2' b3'=Lib.decodeN len b0 b1 b2 b3:=by
 rcases Lib.decodeN_shape len b0 b1 b2 b3 with ⟨c,e⟩ | ⟨c1,c2,c3,cv,e⟩ | ⟨c1,c2,c3,c4,cv,cs,e⟩ | ⟨c1,c2,c3,c4,c5,cv,cw,e⟩ | e
 ·rw [e];unfold Lib.decodeN;rw [Tg c]
 ·rw [e] at hd |-;simp only at hd;rw [h1 (by omega)];unfold Lib.decodeN
  rw [Tb (by omega),Tg ⟨c1,by omega,c3⟩,Tg (by omega)]
 ·rw [e] at hd |-;simp only at hd;rw [h1 (by omega),h2 (by omega)];unfold Lib.decodeN
  rw [Tb (by omega),Tb (by omega),Tg ⟨c1,⟨by omega,c3⟩,by omega,c4⟩,Tg ⟨by omega,by omega⟩]
 ·rw [e] at hd |-;simp only at hd;rw [h1 (by omega),h2 (by omega),h3 (by omega)];unfold Lib.decodeN
  rw [Tb (by omega),Tb (by omega),Tb (by omega),Tg ⟨c1,⟨by omega,c3⟩,⟨by omega,c4⟩,by omega,c5⟩,Tg ⟨by omega,by omega⟩]
 rw [e];rcases Lib.decodeN_shape (min n len) b0 b1' b2' b3' with ⟨c,e'⟩ | ⟨c1,c2,c3,cv,e'⟩ | ⟨c1,c2,c3,c4,cv,cs,e'⟩ | ⟨c1,c2,c3,c4,c5,cv,cw,e'⟩ | e'
 ·unfold Lib.decodeN at e;rw [Tg c] at e;rw [e',<- e]
 ·rw [h1 (by omega)] at c3 cv;unfold Lib.decodeN at e
  rw [Tb (by omega),Tg ⟨c1,by omega,c3⟩,Tg (by omega)] at e;simp at e
 ·rw [h1 (by omega),h2 (by omega)] at *;unfold Lib.decodeN at e
  rw [Tb (by omega),Tb (by omega),Tg ⟨c1,⟨by omega,c3⟩,by omega,c4⟩,Tg ⟨by omega,by omega⟩] at e;simp at e
 ·rw [h1 (by omega),h2 (by omega),h3 (by omega)] at *;unfold Lib.decodeN at e
  rw [Tb (by omega),Tb (by omega),Tb (by omega),Tg ⟨c1,⟨by omega,c3⟩,⟨by omega,c4⟩,by omega,c5⟩,Tg ⟨by omega,by omega⟩] at e;simp at e
 exact e'
def ZbM (r:Bs) (n k:Nat):(r.take n).getD k 0=if k<n then r.getD k 0 else 0:=by
 simp only [T5,S0];split <;> simp
def Zwj {r:Bs} {n:Nat} (hn:1<=n) (hd:(Lib.decodeL r).2<=n):Lib.decodeL (r.take n)=Lib.decodeL r:=by
 rw [Lib.decodeL_N] at hd |-;rw [Lib.decodeL_N,SO,ZbM,ZbM,ZbM,ZbM,Tg (by omega)];exact Zz6 (fun h=>by rw [Tg h]) (fun h=>by rw [Tg h]) (fun h=>by rw [Tg h]) hn hd
def ZqB (f:Nat):YE f []=0:=by
 cases f with
 | zero=>rfl
 | succ f=>exact V6 (by simp [Zas]) (by simp [Zas];decide) (by simp [Zas];decide)
def Zti {c:Int} (h:Ze c=true\/Zk c=true):c≠-1:=fun h1=>by rw [h1,Jo,ZaO] at h;simp at h
abbrev ws:Bs:=[32,9,13,10]
def Zz7 {a b:UInt8}:Lib.hasPrefix [] [a,b]=false:=rfl
def ZmO (f:Nat):Zx (f+1) []=(true,0):=by simp [Zx,Lib.trimLeftS,Zz7]
def Va {f:Nat} {r:Bs} (h1:Lib.hasPrefix (Lib.trimLeftS r ws) [47,47]=false) (h2:Lib.hasPrefix (Lib.trimLeftS r ws) [47,42]=false):Zx (f+1) r=(true,r.length - (Lib.trimLeftS r ws).length):=by
 simp only [Zx,h1,h2,Tx,if_false]
def Vy {f:Nat} {r:Bs} (h1:Lib.hasPrefix (Lib.trimLeftS r ws) [47,47]=true) (n:Nat) (hn:n=if Lib.indexByte (Lib.trimLeftS r ws) 10<0 then (Lib.trimLeftS r ws).length else (Lib.indexByte (Lib.trimLeftS r ws) 10).toNat) :
  Zx (f+1) r=((Zx f ((Lib.trimLeftS r ws).drop n)).1,r.length - (Lib.trimLeftS r ws).length+n+(Zx f ((Lib.trimLeftS r ws).drop n)).2):=by
 subst hn;simp only [Zx,h1,if_true]
def Vz {f:Nat} {r:Bs} (h1:Lib.hasPrefix (Lib.trimLeftS r ws) [47,47]=false) (h2:Lib.hasPrefix (Lib.trimLeftS r ws) [47,42]=true) (h3:Lib.index ((Lib.trimLeftS r ws).drop 2) [42,47]<0):Zx (f+1) r=(false,r.length - (Lib.trimLeftS r ws).length):=by
 simp only [Zx,h1,h2,h3,if_true,Tx,if_false]
def UQ {f:Nat} {r:Bs} (h1:Lib.hasPrefix (Lib.trimLeftS r ws) [47,47]=false) (h2:Lib.hasPrefix (Lib.trimLeftS r ws) [47,42]=true) (i:Nat) (h3:Lib.index ((Lib.trimLeftS r ws).drop 2) [42,47]=i) :
  Zx (f+1) r=((Zx f ((Lib.trimLeftS r ws).drop (i+4))).1,r.length - (Lib.trimLeftS r ws).length+(i+4)+(Zx f ((Lib.trimLeftS r ws).drop (i+4))).2):=by
 simp only [Zx,h1,h2,h3,if_true,Tx,if_false];rw [Tb oM];simp
def Ztj (r:Bs):(Lib.trimLeftS r ws).length<=r.length:=(Vv (ws.contains ·) r).2
def ZqC:ZT []=(true,0):=ZmO 0
def ZEa {len len' b0 b1 b2 b3 b1' b2' b3':Nat} (hl:len<=len') (h1:1<len->b1'=b1) (h2:2<len->b2'=b2) (h3:3<len->b3'=b3) (hv:Lib.decodeN len b0 b1 b2 b3≠(65533,1)) :
  Lib.decodeN len' b0 b1' b2' b3'=Lib.decodeN len b0 b1 b2 b3:=by
 rcases Lib.decodeN_shape len b0 b1 b2 b3 with ⟨c,e⟩ | ⟨c1,c2,c3,cv,e⟩ | ⟨c1,c2,c3,c4,cv,cs,e⟩ | ⟨c1,c2,c3,c4,c5,cv,cw,e⟩ | e
 ·rw [e];unfold Lib.decodeN;rw [Tg c]
 ·rw [e,h1 oM];unfold Lib.decodeN
  rw [Tb oM,Tg ⟨c1,oM,c3⟩,Tg oM]
 ·rw [e,h1 oM,h2 oM];unfold Lib.decodeN
  rw [Tb oM,Tb oM,Tg ⟨c1,⟨oM,c3⟩,oM,c4⟩,Tg ⟨oM,oM⟩]
 ·rw [e,h1 oM,h2 oM,h3 oM];unfold Lib.decodeN
  rw [Tb oM,Tb oM,Tb oM,Tg ⟨c1,⟨oM,c3⟩,⟨oM,c4⟩,oM,c5⟩,Tg ⟨oM,oM⟩]
 exact absurd e hv
def VA (x y:Bs) (k:Nat) (h:k<x.length):(x++y).getD k 0=x.getD k 0:=by
 simp only [T5];rw [TP h]
def ZiH {x y:Bs} (hx:x≠[]) (hv:Lib.decodeL x≠(65533,1)):Lib.decodeL (x++y)=Lib.decodeL x:=by
 have ao:=Sf.2 hx;rw [Lib.decodeL_N] at hv |-;rw [Lib.decodeL_N,VA x y 0 ao];exact ZEa (by rw [Ta];omega) (fun h=>by rw [VA x y 1 h]) (fun h=>by rw [VA x y 2 h]) (fun h=>by rw [VA x y 3 h]) hv
def ZEb {x y:Bs} (h:(pk x).1≠-1):pk (x++y)=pk x:=by
 have hx:=(ZvK x h).2.2;unfold pk at h |-
 split at h
 ·exact absurd rfl h
 rename_i g
 rw [Tb g];simp only [not_or] at g;have e:=ZiH (y:=y) hx g.2;rw [e,Tb (by simp only [not_or];exact ⟨by simp [hx],g.2⟩)]
def Zhi {y:Bs}:∀(f:Nat) (x:Bs) (esc:Bool) (acc:Bs) (p:Nat) (t:Bs) (l:Nat),ZE f x esc acc p=.ok t l->∀f',x.length<f'->ZE f' (x++y) esc acc p=.ok t l
 | 0,x,esc,acc,p,t,l,h,f',hf=>by simp [ZE] at h
 | f+1,x,esc,acc,p,t,l,h,f',hf=>by
  obtain ⟨g,rfl⟩:∃g,f'=g+1:=⟨f' - 1,oM⟩
  unfold ZE at h
  split at h
  ·cases h
  rename_i aj
  have hd:=Lib.decodeL_le x aj;have hr:=ZcA x;have ol:¬x++y=[]:=by simp [aj]
  have ia:(x++y).drop (Lib.decodeL x).2=x.drop (Lib.decodeL x).2++y:=Ss hd;have low:(Lib.decodeL x).1<128->Lib.decodeL (x++y)=Lib.decodeL x:=fun h=>ZiH aj (fun g=>by rw [g] at h;simp at h)
  have rec':∀es ac,ZE f (x.drop (Lib.decodeL x).2) es ac (p+(Lib.decodeL x).2)=.ok t l->ZE g ((x++y).drop (Lib.decodeL x).2) es ac (p+(Lib.decodeL x).2)=.ok t l:=fun es ac h=>by
   rw [ia];exact Zhi f _ _ _ _ _ _ h g hD
  unfold ZE
  rw [Tb ol];split at h
  ·rename_i he
   rw [Tg he];split at h
   ·cases h
   rename_i b hb
   have jd:(Lib.decodeL x).1<128:=by
    unfold Zvc at hb
    repeat' split at hb
    all_goals first | omega | cases hb
   rw [low jd,hb];exact rec' _ _ h
  rename_i he
  rw [Tb he];split at h
  ·rename_i wr
   rw [low oM,Tg wr];exact h
  rename_i wr
  split at h
  ·rename_i h92
   rw [low oM,Tb wr,Tg h92];exact rec' _ _ h
  rename_i h92
  split at h
  ·cases h
  rename_i h32
  have hv:Lib.decodeL x≠(65533,1):=fun g=>by
   apply h32
   unfold pk;rw [Tg (.inr g)];decide
  have e:pk (x++y)=pk x:=ZEb oM;rw [ZiH aj hv,Tb wr,Tb h92,e,Tb h32];exact rec' _ _ h
def Zgx (c:Nat):Option UInt8:=if c=10 then some 110 else if c=9 then some 116 else if c=34 then some 34 else if c=92 then some 92 else none
def Vb:Nat->Bs->Bs->Option Bs
 | 0,_,_=>none
 | f+1,r,out=>if r=[] then some out else match Zgx (Lib.decodeL r).1 with
  | some b=>Vb f (r.drop (Lib.decodeL r).2) (out++[92,b])
  | none=>if (Lib.decodeL r).1<32 then none else Vb f (r.drop (Lib.decodeL r).2) (out++Lib.encodeRune (Lib.decodeL r).1)
def Uc (s:Bs):Option Bs:=if Lib.validD s=true then (Vb (s.length+1) s [34]).map (·++[34]) else none
def ZqD {c:Nat} {b:UInt8} (h:Zgx c=some b):Zvc b.toNat=some (UInt8.ofNat c)/\c<128/\b.toNat<128:=by
 unfold Zgx at h
 split at h;· rename_i g;cases h;subst g;decide
 split at h;· rename_i g;cases h;subst g;decide
 split at h;· rename_i g;cases h;subst g;decide
 split at h;· rename_i g;cases h;subst g;decide
 cases h
def ZqE {c:Nat} (h:Zgx c=none):c≠34/\c≠92:=by
 unfold Zgx at h
 split at h;· cases h
 split at h;· cases h
 split at h;· cases h
 split at h;· cases h
 exact ⟨by assumption,by assumption⟩
def ZmP (b:UInt8) (z:Bs) (h:b.toNat<128):Lib.decodeL (b::z)=(b.toNat,1):=by
 rw [Lib.decodeL_N];unfold Lib.decodeN;rw [Tg (by simpa using h)];simp
def Zz8 (f:Nat) (z acc:Bs) (p:Nat):ZE (f+1) (92::z) false acc p=ZE f z true acc (p+1):=by
 have h:Lib.decodeL (92::z)=(92,1):=ZmP 92 z dM;simp [ZE,h]
def Zz9 (f:Nat) (b x:UInt8) (z acc:Bs) (p:Nat) (hb:b.toNat<128) (hx:Zvc b.toNat=some x):ZE (f+1) (b::z) true acc p=ZE f z false (acc++[x]) (p+1):=by
 have h:=ZmP b z hb;simp [ZE,h,hx]
def ZiI:∀(f:Nat) (r out q:Bs),Vb f r out=some q->Lib.validGoD f r=true\/Lib.validGoD (f - 1) r=true->r.length<f->∃m,q=out++m/\∀(g:Nat) (acc:Bs) (p:Nat),m.length+1<g->ZE g (m++[34]) false acc p=.ok (acc++r) (p+m.length+1)
 | 0,r,out,q,h,hv,hf=>by simp [Vb] at h
 | f+1,r,out,q,h,hv,hf=>by
  unfold Vb at h
  split at h
  ·rename_i hr
   cases h
   refine ⟨[],sM,fun g acc p hg=>?_⟩;obtain ⟨g,rfl⟩:∃k,g=k+1:=⟨g - 1,oM⟩
   simp [ZE,ZmP 34 [] dM,hr]
  rename_i hr
  have ao:=Sf.2 hr;have hd:=Lib.decodeL_le r hr;have hrg:=ZcA r;have yz:¬((Lib.decodeL r).1=65533/\(Lib.decodeL r).2=1)/\(Lib.validGoD f (r.drop (Lib.decodeL r).2)=true\/Lib.validGoD (f - 1) (r.drop (Lib.decodeL r).2)=true):=by
   rcases hv with hv | hv
   ·unfold Lib.validGoD at hv
    rw [Tb hr] at hv;split at hv
    ·cases hv
    rename_i g;exact ⟨g,.inl hv⟩
   simp only [Nat.add_sub_cancel] at hv;obtain ⟨f2,rfl⟩:∃k,f=k+1:=⟨f - 1,oM⟩
   unfold Lib.validGoD at hv
   rw [Tb hr] at hv;split at hv
   ·cases hv
   rename_i g;exact ⟨g,.inr hv⟩
  have uz:=Lib.encode_decode r hr yz.1;have mc:r=r.take (Lib.decodeL r).2++r.drop (Lib.decodeL r).2:=(SF _ _).symm;split at h
  ·rename_i b hb
   obtain ⟨u1,u2,u3⟩:=ZqD hb;obtain ⟨m,e1,e2⟩:=ZiI f _ _ _ h yz.2 hD;refine ⟨[92,b]++m,by rw [e1];simp,fun g acc p hg=>?_⟩;obtain ⟨g,rfl⟩:∃k,g=k+2:=⟨g - 2,oM⟩
   simp only [Ta,Te,Th] at hg;have jc:r.take (Lib.decodeL r).2=[UInt8.ofNat (Lib.decodeL r).1]:=by
    rw [<- uz];unfold Lib.encodeRune
    rw [Lib.encodeRuneZ_one oM oM];simp
   have el:([92,b]++m++[34]:Bs)=92::b::(m++[34]):=sM;rw [el,show g+2=(g+1)+1 from rfl,Zz8,Zz9 _ _ _ _ _ _ u3 u1];rw [e2 g _ _ oM];rw [jc] at mc;simp only [Tj,Ta,Te,Th,TR.ok.injEq];refine ⟨?_,oM⟩
   congr 1
   exact mc.symm
  rename_i hb
  split at h
  ·cases h
  rename_i h32
  obtain ⟨n34,n92⟩:=ZqE hb;obtain ⟨m,e1,e2⟩:=ZiI f _ _ _ h yz.2 hD;refine ⟨Lib.encodeRune (Lib.decodeL r).1++m,by rw [e1];simp,fun g acc p hg=>?_⟩;obtain ⟨g,rfl⟩:∃k,g=k+1:=⟨g - 1,oM⟩
  rw [uz] at hg |-;have htl:(r.take (Lib.decodeL r).2).length=(Lib.decodeL r).2:=by rw [SO];omega
  have hdt:Lib.decodeL (r.take (Lib.decodeL r).2)=Lib.decodeL r:=Zwj oM (Tw _);have htn:r.take (Lib.decodeL r).2≠[]:=fun g=>by rw [g] at htl;simp at htl;omega
  have hda:Lib.decodeL (r.take (Lib.decodeL r).2++(m++[34]))=Lib.decodeL r:=by
   rw [ZiH htn (by rw [hdt];intro g;exact yz.1 ⟨by rw [g],by rw [g]⟩),hdt]
  rw [Tj];simp only [Ta] at hg;unfold ZE
  rw [Tb (by simp [htn]),Tb sM,hda,Tb n34,Tb n92];have eh:¬(pk (r.take (Lib.decodeL r).2++(m++[34]))).1<32:=by
   unfold pk
   rw [hda,Tb]
   ·simp only;omega
   simp only [not_or];exact ⟨by simp [htn],fun g=>yz.1 ⟨by rw [g],by rw [g]⟩⟩
  rw [Tb eh,uz];have iq:(r.take (Lib.decodeL r).2++(m++[34])).drop (Lib.decodeL r).2=m++[34]:=by
   conv=>lhs;arg 1;rw [<- htl]
   rw [List.drop_left]
  rw [iq,e2 g _ _ oM];simp only [Tj,Ta,TR.ok.injEq];refine ⟨?_,oM⟩
  congr 1
  exact mc.symm
def ZmQ:Zq:=fun args σ K=>match args with
 | [.d (.str s)]=>s.length<=9223372036854775807/\K (.ret (.d (.bool (Lib.validD s)))) σ
 | _=>False
def Zwk (h1:1<nG) (hT:Lib.Utf8Tabs 0 1 w0):PC w0 nG 203 ZmQ:=Y8 (Zg Tryz.func203 kR rfl) fun args σ K h e w vs hS ha=>by
 unfold ZmQ at h
 split at h
 ·rename_i s
  obtain ⟨u,rfl,hu⟩:=Zke ha
  cases hu.dstr
  have hT':Lib.Utf8Tabs 0 1 w:=by
   have g0:=hS.glob 0 (show 0<nG by omega);have g1:=hS.glob 1 h1;obtain ⟨a,b⟩:=hT;refine ⟨fun c hc=>?_,fun i hi=>?_⟩
   ·have:=a c hc;simpa [World.cell?,g0] using this
   have:=b i hi;simpa [World.cell?,g1] using this
  exact ⟨_,h.2,_,fun _ _=>.mkbool,(Any.utf8_ValidString Tryz.laysValid ⟨s.toArray⟩ w (show s.toArray.size<=_ by simpa using h.1) hT').mono fun en w' ⟨h1,h2⟩=>⟨h1,ZJ0 h2⟩⟩
 exact h.elim
def Zwl {n:Nat} (h:Zgx n=none):ZeU [10,9,34,92] n=-1:=by
 unfold Zgx at h
 split at h;· cases h
 split at h;· cases h
 split at h;· cases h
 split at h;· cases h
 rename_i h1 h2 h3 h4
 unfold ZeU
 split
 ·rename_i h5
  have hc:([10,9,34,92]:Bs).contains ((n:Int).toNat.toUInt8)=false:=by
   have b1:=Js (n:=n) (k:=10) oM oM h1;have b2:=Js (n:=n) (k:=9) oM oM h2;exact mq103
  rw [Lib.contains_iff_indexByte,decide_eq_false_iff_not] at hc;have:=Lib.indexByte_ge [10,9,34,92] ((n:Int).toNat.toUInt8);omega
 rfl
def Zwm {n:Nat} {b:UInt8} (h:Zgx n=some b):(ZeU [10,9,34,92] n=0/\b=110)\/(ZeU [10,9,34,92] n=1/\b=116)\/(ZeU [10,9,34,92] n=2/\b=34)\/(ZeU [10,9,34,92] n=3/\b=92):=by
 unfold Zgx at h
 exact mq61
def ZaY:Zq:=fun args σ K=>match args,σ with
 | [.d (.str s)],⟨[],[],0⟩=>s.length<4294967281/\(Uc s=none->K (.ret (.tuple [.d (.str []),.d (.bool false)])) ⟨[],[],0⟩)/\(∀q,Uc s=some q->K (.ret (.tuple [.d (.str q),.d (.bool true)])) ⟨[],[],0⟩)
 | _,_=>False
def ZkL:ZL ZaY:=fun args σ K K' hK h=>by
 unfold ZaY at h |-
 split at h
 ·exact ⟨h.1,fun g=>hK _ _ (h.2.1 g),fun q g=>hK _ _ (h.2.2 q g)⟩
 exact h.elim
def ZJq (B:Nat):List PV->St->Nat:=fun _ σ=>match σ.bx with | [_,.iter _ p]=>B - p | _=>0
def Zwo:OKw w0 nG [(203,ZmQ),(204,UF),(205,W6),(206,UG),(26,ZdW)] 167 ZaY:=by
 refine pwo Tryz.func167 fun args σ K h=>?_
 unfold ZaY at h
 split at h
 ·rename_i s
  obtain ⟨hs,dc,dw⟩:=h;refine pwv [(6,⟨[],[4,13],fun vs σ=>vs=[]/\∃(out:Bs) (i f:Nat),σ=⟨[.cells 86 [.ptr 0 0,.sl 0 5 (Zi out)],.iter s i],[0],1⟩/\(i<=s.length/\s.length<i+f/\out.length<=4 * i+1)/\Vb f (s.drop i) out=Vb (s.length+1) s [34],ZJq s.length⟩)] 0 false ?_;refine ⟨oM,wN ?_⟩;refine ZJY (fun h1=>wN ?_) (fun h1=>wN ?_)
  ·have hv:Lib.validD s=false:=by simpa using h1
   exact dc (by unfold Uc;rw [Tb (by rw [hv];simp)])
  have hv:Lib.validD s=true:=by simpa using h1
  have hq:Uc s=(Vb (s.length+1) s [34]).map (·++[34]):=by unfold Uc;rw [Tg hv]
  refine ⟨⟨.inl rfl,rfl,rfl,sM,sM⟩,wN ?_⟩;refine ⟨⟨rfl,[34],0,s.length+1,rfl,⟨oM,oM,sM⟩,by rw [Si]⟩,?_⟩;intro vs σ1 hI
  obtain ⟨rfl,out,i,f,rfl,⟨z6,af,hol⟩,ib⟩:=hI;obtain ⟨f,rfl⟩:∃g,f=g+1:=⟨f - 1,oM⟩
  have cq:=Zg2 out;have cm:=Zg3 out;have bo:=Zg0 s i;have ia:=ZcA (s.drop i);have j5:=Lib.decodeL_le (s.drop i);rw [TD] at j5;(conv=>whnf);refine ZJU (fun h2=>wN ?_) (fun h2=>wN ?_)
  ·have aj:s.drop i≠[]:=fun g=>by have:=congrArg List.length g;rw [TD] at this;simp at this;omega
   have g3:i+(decodeL s i).2<=s.length:=by rw [bo];have:=j5 aj;omega
   have qr:1<=(decodeL s i).2:=by rw [bo];omega
   refine ⟨⟨.inr rfl,oM,by rw [bo];omega⟩,wN ?_⟩;generalize hk:ZeU _ _=k;have mj:ZeU [10,9,34,92] ((Lib.decodeL (s.drop i)).1:Int)=k:=by rw [<- bo];exact hk
   cases hE:Zgx (Lib.decodeL (s.drop i)).1 with
   | some b =>
    have g1:Vb f (s.drop (i+(decodeL s i).2)) (out++[92,b])=Vb (s.length+1) s [34]:=by rw [<- ib,bo];simp [Vb,aj,hE,TU]
    rcases Zwm hE with ⟨e1,rfl⟩ | ⟨e1,rfl⟩ | ⟨e1,rfl⟩ | ⟨e1,rfl⟩
    all_goals (rw [e1] at mj;subst mj)
    all_goals (conv=>whnf)
    all_goals (refine ⟨⟨.inr rfl,rfl,rfl,cq,oM⟩,?_⟩)
    all_goals (conv=>whnf)
    all_goals (refine ⟨oM,by first | omega | (simp;done) | (simp;omega),?_⟩)
    all_goals (conv=>whnf)
    all_goals (refine ⟨⟨.inr rfl,rfl,rfl,fun r hr=>by (rcases T1.1 hr with hr | hr;exact cq r hr;simp at hr;subst hr;rfl),by rw [Ta];simp;omega⟩,?_⟩)
    all_goals (conv=>whnf)
    all_goals (refine ⟨⟨rfl,_,_,f,?_,⟨g3,oM,?_⟩,g1⟩,?_⟩)
    all_goals (first | (rw [V7,Tj];rfl) | (rw [Ta];simp;omega) | exact (show s.length - (i+(decodeL s i).2)<s.length - i by omega))
   | none =>
   rw [Zwl hE] at mj;subst mj;(conv=>whnf);refine ZJU (fun h5=>wN ?_) (fun h5=>wN ?_)
   ·have f8:(Lib.decodeL (s.drop i)).1<32:=by rw [bo] at h5;omega
    refine dc ?_;rw [hq,<- ib];simp [Vb,aj,hE,f8]
   have f8:¬(Lib.decodeL (s.drop i)).1<32:=by rw [bo] at h5;omega
   have g1:Vb f (s.drop (i+(decodeL s i).2)) (out++Lib.encodeRune ((decodeL s i).1:Int))=Vb (s.length+1) s [34]:=by rw [<- ib,bo];simp [Vb,aj,hE,f8,TU]
   have hen:=Zmu ((decodeL s i).1:Int);refine ⟨⟨.inr rfl,rfl,rfl,cq,oM,oM,by rw [bo];omega⟩,wN ?_⟩;refine ⟨⟨rfl,_,_,f,?_,⟨g3,oM,?_⟩,g1⟩,?_⟩
   ·rw [V7];rfl
   ·rw [Ta];omega
   exact (show s.length - (i+(decodeL s i).2)<s.length - i by omega)
  have aq:s.drop i=[]:=TA oM;have g1:Vb (s.length+1) s [34]=some out:=by rw [<- ib];simp [Vb,aq]
  refine ⟨⟨.inr rfl,rfl,rfl,cq,oM⟩,wN ?_⟩;refine ⟨out++[34],⟨by rw [ZaQ];rfl,rfl,rfl,.inr rfl,by rw [Ta];simp;omega⟩,wN ?_⟩;exact dw _ (by rw [hq,g1];rfl)
 exact h.elim
def Ud (s:Bs):Bool:=Ze (pk s).1 && decide (Vj s=s.length)
def ZiJ:Zq:=fun args σ K=>match args,σ with
 | [.d (.str s)],⟨[],[],0⟩=>s.length<4294967281/\K (.ret (.d (.bool (Ud s)))) ⟨[],[],0⟩
 | _,_=>False
def ZHB:OKw w0 nG [(159,Zdb),(160,JY),(161,Zkc)] 103 ZiJ:=by
 refine pwo Tryz.func103 fun args σ K h=>?_
 unfold ZiJ at h
 split at h
 ·rename_i s
  obtain ⟨hs,h⟩:=h;refine pwv [] 0 false ?_;have uq:=Vu (s.drop (Int.toNat 0));have hd:s.drop (Int.toNat 0)=s:=Si;refine ⟨⟨oM,oM⟩,wN ?_⟩;refine ⟨⟨uq.1,oM⟩,wN ?_⟩;refine ZJY (fun h1=>wN ?_) (fun h1=>wN ?_)
  ·have mz:Ze (pk s).1=true:=by rw [<- hd];exact h1
   refine ⟨⟨oM,oM,hs⟩,wN ?_⟩;refine Zn4 h ?_;rw [Ud,mz,T2,decide_eq_decide,hd];omega
  have mz:Ze (pk s).1=false:=by rw [<- hd];exact h1
  rw [Ud,mz] at h;exact h
 exact h.elim
def Yx (s:Bs):Bool:=Ud s && (!decide (s=[95]) && !ZeZ s)
def Zj (op:Nat):Nat:=if op=16 then 0 else if op=17 then 0 else if op=15 then 1 else if op=18 then 2 else if op=19 then 2 else if op=10 then 3 else if op=11 then 3 else if op=12 then 4 else if op=13 then 4 else if op=14 then 4
 else if op=8 then 5 else if op=9 then 5 else if op=20 then 6 else if op=21 then 6 else if op=22 then 6 else if op=23 then 6 else if op=24 then 6 else if op=25 then 6 else if op=6\/op=7 then 6 else if op=1\/op=2\/op=3\/op=4\/op=5 then 6 else 0
def ZD (op:Nat):Bs:=if op=16 then [98,111,114] else if op=17 then [98,120,111,114] else if op=15 then [98,97,110,100] else if op=18 then [115,104,108] else if op=19 then [115,104,114] else if op=10 then [43] else if op=11 then [45] else if op=12 then [42] else if op=13 then [47] else if op=14 then [37]
 else if op=8 then [45] else if op=9 then [126] else if op=20 then [99,97,116] else if op=21 then [115,116,114,108,101,110] else if op=22 then [115,117,98,115,116,114] else if op=23 then [99,111,100,101] else if op=24 then [115,116,114] else if op=25 then [110,117,109] else []
def Yg (op:Nat):Int:=if op=16 then 2 else if op=17 then 2 else if op=15 then 2 else if op=18 then 2 else if op=19 then 2 else if op=10 then 2 else if op=11 then 2 else if op=12 then 2 else if op=13 then 2 else if op=14 then 2
 else if op=8 then 1 else if op=9 then 1 else if op=20 then 2 else if op=21 then 1 else if op=22 then 3 else if op=23 then 1 else if op=24 then 1 else if op=25 then 1 else if op=6\/op=7 then -1 else if op=1\/op=2\/op=3\/op=4\/op=5 then 0 else -2
def WJ (op:Nat) (text:Bs):Bool:=if op=1\/op=7 then Yx text else if op=4 then (Uc text).isSome else decide (text=[])
mutual
def Yb:Ex->Bool
 | .mk op text n args _=>decide (-2<Yg op) && ((decide (Yg op<0) || decide ((args.length:Int)=Yg op)) && ((decide (n=0) || decide (op=3)) && (WJ op text && Ztk args)))
def Ztk:List Ex->Bool
 | []=>true
 | e::l=>Yb e && Ztk l
end
def Zz (l:List Ex):Ztk l=l.all Yb:=by induction l with | nil=>rfl | cons x l ih=>simp [Ztk,ih]
def Xk (op:Nat) (rel:Bs) (args body:Nat):Bool :=
 if op=1\/op=2 then Yx rel && !decide (0<body)
 else if 3<=op/\op<=8 then decide (rel=[]) && (decide (args=2) && !decide (0<body))
 else if op=9 then decide (rel=[]) && (decide (args=1) && decide (0<body))
 else if 9<op/\op<=12 then decide (rel=[]) && (decide (args=2) && decide (0<body)) else false
mutual
def YT:Li->Bool
 | .mk op rel args body _=>Xk op rel args.length body.length && (Ztk args && ZdG body)
def ZdG:List Li->Bool
 | []=>true
 | e::l=>YT e && ZdG l
end
def XM (l:List Li):ZdG l=l.all YT:=by induction l with | nil=>rfl | cons x l ih=>simp [ZdG,ih]
def YQ (r:Ru):Bool:=Yx r.head && (r.args.all Yb && r.body.all YT)
def YH (f:Fi):Bool:=Yx f.name && Yx f.typ
def Xp (c:Ca):Bool:=Yx c.name && c.fields.all YH
def Zdl (t:Ty):Bool:=if t.kind=1 then Yx t.base && (decide (t.fields.length=0) && decide (t.cases.length=0)) else if t.kind=2 then decide (t.base=[]) && decide (t.cases.length=0)
 else if t.kind=3 then decide (t.base=[]) && (decide (t.fields.length=0) && !decide (t.cases.length=0)) else false
def Yl (t:Ty):Bool:=Zdl t && (Yx t.name && (t.fields.all YH && t.cases.all Xp))
def Xx (d:Re):Bool:=Yx d.name && d.fields.all YH
def Vc (i:Ini):Bool:=Yx i.name && (Yx i.comp && i.types.all Yx)
def VK (o:Ov):Bool:=Yx o.rel
mutual
def ZbN:Un->Bool
 | .mk tys rels rules comps inits overs=>tys.all Yl && (rels.all Xx && (rules.all YQ && (ZoK comps && (inits.all Vc && overs.all VK))))
def Yy:Co->Bool
 | .mk nm ps base tys u _=>Yx nm && (ps.all Yx && (tys.all Yx && (((decide (base=[]) && decide (tys.length=0)) || Yx base) && ZbN u)))
def ZoK:List Co->Bool
 | []=>true
 | c::l=>Yy c && ZoK l
end
def Vd (l:List Co):ZoK l=l.all Yy:=by induction l with | nil=>rfl | cons x l ih=>simp [ZoK,ih]
def ZlO (d:Nat):UInt8:=if d<10 then UInt8.ofNat (48+d) else UInt8.ofNat (87+d)
def ZaZ (base:Nat):Nat->Nat->Bs
 | 0,_=>[]
 | f+1,n=>if n<base then [ZlO n] else ZaZ base f (n / base)++[ZlO (n % base)]
def Ym (base n:Nat):Bs:=ZaZ base (n+1) n
def Zfm (n:Int):Bs:=if n<0 then [48,120]++Ym 16 (n+18446744073709551616).toNat else Ym 10 n.toNat
def Ztl (s:Bs):Bs:=(Uc s).getD []
def Zf (sep:Bs):List Bs->Bs
 | []=>[]
 | [x]=>x
 | x::l=>x++(sep++Zf sep l)
def cmm:Bs:=[44,32]
def opE:Ex->Nat | .mk op _ _ _ _=>op
def Ztm (want:Nat) (p:Nat×Bs):Bs:=if p.1<want then [40]++(p.2++[41]) else p.2
def exA (w1 w2:Nat) (sep:Bs):List (Nat×Bs)->Bs
 | []=>[]
 | [a]=>Ztm w1 a
 | a::b::_=>Ztm w1 a++(sep++Ztm w2 b)
def exN (op:Nat) (text:Bs) (n:Int) (ps:List (Nat×Bs)):Bs :=
 if Zj op<5 then exA (Zj op) (Zj op+1) ([32]++(ZD op++[32])) ps
 else if Zj op=5 then ZD op++exA 5 5 [] ps
 else if ZD op≠[] then ZD op++([40]++(Zf cmm (ps.map Prod.snd)++[41]))
 else if op=6 then [91]++(Zf cmm (ps.map Prod.snd)++[93])
 else if op=7 then [36]++(text++(if ps.length=0 then [] else [40]++(Zf cmm (ps.map Prod.snd)++[41])))
 else if op=3 then Zfm n
 else if op=4 then Ztl text
 else if op=5 then [110,105,108]
 else if op=2 then [95]
 else text
mutual
def exT:Ex->Bs
 | .mk op text n args _=>exN op text n (ZoL args)
def ZoL:List Ex->List (Nat×Bs)
 | []=>[]
 | e::l=>(Zj (opE e),exT e)::ZoL l
end
def Ztn (l:List Ex):ZoL l=l.map fun e=>(Zj (opE e),exT e):=by induction l with | nil=>rfl | cons x l ih=>simp [ZoL,ih]
def Zd1 (l:List Ex):(ZoL l).length=l.length:=by rw [Ztn,Tf]
def exW (want:Nat) (e:Ex):Bs:=Ztm want (Zj (opE e),exT e)
def ZDm (l:List Ex):List Bs:=l.map exT
def J3 (l:List Ex):(ZoL l).map Prod.snd=ZDm l:=by rw [Ztn,TW];rfl
def argT (fr fin:Bs) (l:List Ex):Bs:=fr++(Zf cmm (ZDm l)++fin)
def Zto (op:Nat):Bs:=if op=3 then [32,61,32] else if op=4 then [32,33,61,32] else if op=5 then [32,60,32] else if op=6 then [32,60,61,32] else if op=7 then [32,62,32] else [32,62,61,32]
def JE (op:Nat):Bs:=if op=9 then [99,111,117,110,116] else if op=10 then [115,117,109] else if op=11 then [109,105,110] else [109,97,120]
def Ztp (l:List Ex):Bs:=(l.map fun e=>[32]++exT e).flatten
def ZmR:List Ex->Bs
 | []=>[]
 | e::_=>exT e
mutual
def liT:Li->Bs
 | .mk op rel args body _ =>
  if op=2 then [33]++(rel++argT [40] [41] args)
  else if op=1 then rel++argT [40] [41] args
  else if op<=8 then ZmR args++(Zto op++ZmR args.tail)
  else ZmR args++([32,61,32]++(JE op++(Ztp args.tail++([32,58,32,123,32]++(Zf cmm (ZoM body)++[32,125])))))
def ZoM:List Li->List Bs
 | []=>[]
 | e::l=>liT e::ZoM l
end
def Zfn (l:List Li):ZoM l=l.map liT:=by induction l with | nil=>rfl | cons x l ih=>simp [ZoM,ih]
def ruT (r:Ru):Bs:=r.head++(argT [40] [41] r.args++((if 0<r.body.length then [32,58,45,32]++Zf cmm (ZoM r.body) else [])++[46]))
def fiT (f:Fi):Bs:=f.name++([58,32]++f.typ)
def VL (fr:Bs) (l:List Fi) (fin:Bs):Bs:=fr++(Zf cmm (l.map fiT)++fin)
def ZEc (l:List Bs):Bs:=if l.length=0 then [] else [60]++(Zf cmm l++[62])
def caT (c:Ca):Bs:=VL (c.name++[32,123]) c.fields [125]
def tyT (t:Ty):Bs:=[116,121,112,101,32]++(t.name++((if t.kind=1 then [32,60,58,32]++t.base else if t.kind=2 then VL [32,61,32,91] t.fields [93] else [32,61,32]++Zf [32,124,32] (t.cases.map caT))++[10]))
def reT (d:Re):Bs:=VL ([100,101,99,108,32]++(d.name++[40])) d.fields [41]++((if d.inn then [32,105,110,112,117,116] else [])++((if d.out then [32,111,117,116,112,117,116] else [])++((if d.inl then [32,105,110,108,105,110,101] else [])++[10])))
def inT (i:Ini):Bs:=[105,110,105,116,32]++(i.name++([32,61,32]++(i.comp++(ZEc i.types++[10]))))
def ovT (o:Ov):Bs:=[111,118,101,114,114,105,100,101,32]++(o.rel++[10])
mutual
def unT:Un->Bs
 | .mk tys rels rules comps inits overs=>(tys.map tyT).flatten++((rels.map reT).flatten++((ZAa comps).flatten++((inits.map inT).flatten++((overs.map ovT).flatten++(rules.map fun r=>ruT r++[10]).flatten))))
def coT:Co->Bs
 | .mk nm ps base tys u _=>[99,111,109,112,32]++(nm++(ZEc ps++((if base=[] then [] else [32,58,32]++(base++ZEc tys))++([32,123,10]++(unT u++[125,10])))))
def ZAa:List Co->List Bs
 | []=>[]
 | c::l=>coT c::ZAa l
end
def noC:Un->Prop
 | .mk _ _ _ c i o=>c=[]/\i=[]/\o=[]
mutual
def wE:Ex->Nat
 | .mk _ t _ args _=>1+t.length+wEs args
def wEs:List Ex->Nat
 | []=>0
 | x::l=>1+wE x+wEs l
end
def Zav:∀(l:List Ex),wEs l=szS wE l
 | []=>by rw [wEs,szS]
 | x::l=>by rw [wEs,szS,Zav l]
mutual
def wL:Li->Nat
 | .mk _ r a b _=>1+r.length+szS wE a+wLs b
def wLs:List Li->Nat
 | []=>0
 | x::l=>1+wL x+wLs l
end
def JF:∀(l:List Li),wLs l=szS wL l
 | []=>by rw [wLs,szS]
 | x::l=>by rw [wLs,szS,JF l]
def wRu (r:Ru):Nat:=1+r.head.length+szS wE r.args+szS wL r.body
def wFi (f:Fi):Nat:=1+f.name.length+f.typ.length
def wCa (c:Ca):Nat:=1+c.name.length+szS wFi c.fields
def wTy (t:Ty):Nat:=1+t.name.length+t.base.length+szS wFi t.fields+szS wCa t.cases
def wRe (d:Re):Nat:=1+d.name.length+szS wFi d.fields
def wBs (s:Bs):Nat:=1+s.length
def wIn (i:Ini):Nat:=1+i.name.length+i.comp.length+szS wBs i.types
def wOv (o:Ov):Nat:=1+o.rel.length
mutual
def wUn:Un->Nat
 | .mk a1 a2 a3 a4 a5 a6=>1+szS wTy a1+szS wRe a2+szS wRu a3+Zyk a4+szS wIn a5+szS wOv a6
def wCo:Co->Nat
 | .mk n p b t u _=>1+n.length+szS wBs p+b.length+szS wBs t+wUn u
def Zyk:List Co->Nat
 | []=>0
 | x::l=>1+wCo x+Zyk l
end
def UR:∀(l:List Co),Zyk l=szS wCo l
 | []=>by rw [Zyk,szS]
 | x::l=>by rw [Zyk,szS,UR l]
abbrev Y3 {α:Type} (enc:Pl->α->List D):Pl->α->PV:=fun pl x=>.agg ((enc pl x).map .d)
abbrev ZlP:Pl->Bs->PV:=fun _ s=>.d (.str s)
def Xh {α:Type} (val:Pl->α->PV) (p:α->Bool) (w:α->Nat) (n:Nat):Zq:=fun args σ K=>match args,σ with
 | [v],⟨[],[],0⟩=>∃pl x,v=val pl x/\(w x<=n/\n<=1073741824)/\∀b,p x=b->K (.ret (.d (.bool b))) ⟨[],[],0⟩
 | _,_=>False
def Zae {α:Type} (h0:FuncId) (val:Pl->α->PV) (p:α->Bool) (w:α->Nat) (n:Nat):Zq:=fun args σ K=>match args,σ with
 | [v,.ptr 0 0],⟨[.cells t [.func h' [] []]],[],0⟩=>∃pl x,v=val pl x/\(h'=h0/\w x<=n/\n<=1073741824)/\∀b,(!p x)=b->K (.ret (.d (.bool b))) ⟨[.cells t [.func h' [] []]],[],0⟩
 | _,_=>False
def Zaf {α:Type} (g0 h0:FuncId) (enc:Pl->α->List D) (p:α->Bool) (w:α->Nat) (n:Nat):Zq:=fun args σ K=>match args,σ with
 | [.d (.sl r),.func g' [] [.ptr 0 0]],⟨[.cells t [.func h' [] []]],[],0⟩=>∃pl l,r=l.map (enc pl)/\(g'=g0/\h'=h0/\szS w l<=n/\n<=1073741824)/\∀r:Int,(r<0↔l.all p=true)->K (.ret (.d (.int .i64 r))) ⟨[.cells t [.func h' [] []]],[],0⟩
 | _,_=>False
def Zag {α:Type} (g0 h0:FuncId) (enc:Pl->α->List D) (p:α->Bool) (w:α->Nat) (n:Nat):Zq:=fun args σ K=>match args,σ with
 | [.d (.sl r),.func g' [] [.ptr 0 0]],⟨[.cells t [.func h' [] []]],[],0⟩=>∃pl l,r=l.map (enc pl)/\(g'=g0/\h'=h0/\szS w l<=n/\n<=1073741824)/\∀b,(!l.all p)=b->K (.ret (.d (.bool b))) ⟨[.cells t [.func h' [] []]],[],0⟩
 | _,_=>False
def X3 {α:Type} (h0:FuncId) (enc:Pl->α->List D) (p:α->Bool) (w:α->Nat) (n:Nat):Zq:=fun args σ K=>match args,σ with
 | [.d (.sl r),.func h' [] []],⟨[],[],0⟩=>∃pl l,r=l.map (enc pl)/\(h'=h0/\szS w l<=n/\n<=1073741824)/\∀b,l.all p=b->K (.ret (.d (.bool b))) ⟨[],[],0⟩
 | _,_=>False
def XN {α:Type} (p:α->Bool) {l:List α} {i:Nat} (h:i<l.length):(l.drop i).all p=(p l[i] && (l.drop (i+1)).all p):=by rw [Tq h,List.all_cons]
def Ve {α:Type} (p:α->Bool) {l:List α} {i:Nat} (h:l.length<=i):(l.drop i).all p=true:=by rw [TA h];rfl
def ZEe {n:Nat}:OKw w0 nG [(109,Xh (Y3 Z7) Yb wE n)] 165 (Zae 109 (Y3 Z7) Yb wE n):=by
 refine pwo Tryz.func165 fun args σ K h=>?_
 exact mq79
def ZEg {n:Nat}:OKw w0 nG [(165,Zae 109 (Y3 Z7) Yb wE n)] 202 (Zaf 165 109 Z7 Yb wE n):=by
 refine pwo Tryz.func202 fun args σ K h=>?_
 unfold Zaf at h
 split at h
 ·obtain ⟨pl,l,rfl,⟨rfl,rfl,hz,hn⟩,h⟩:=h
  rename_i t
  have aa:(l.map (Z7 pl)).length=l.length:=Tf ..;have hsz:=Zo wE l;refine pwv [(2,⟨[8],[0,1,7],fun vs σ=>∃i:Nat,vs=[.d (.int .i64 i)]/\σ=⟨[.cells t [.func 109 [] []]],[],0⟩/\i<=l.length/\l.all Yb=(l.drop i).all Yb,mu1 l.length⟩)] 1 false ?_;refine ⟨⟨0,rfl,rfl,oM,rfl⟩,?_⟩;intro vs σ hI
  obtain ⟨i,rfl,rfl,hi,hs⟩:=hI;(conv=>whnf);refine ZJU (fun af=>wN ?_) (fun af=>wN ?_)
  ·have af:i<l.length:=lzI aa af;have hg:=Zu wE l i af;rw [XN _ af] at hs;obtain ⟨eA,hA⟩:∃e,l[i]=e:=⟨_,rfl⟩
   obtain ⟨a1,a2,a3,a4,a5⟩:=eA;have bj:(l.map (Z7 pl))[((i:Nat):Int).toNat]?=some (Z7 pl (.mk a1 a2 a3 a4 a5)):=by simp [af,hA]
   rw [hA] at hs hg;refine ⟨_,oM,bj,wN ?_⟩;refine ⟨pl,(.mk a1 a2 a3 a4 a5),rfl,⟨rfl,oM,oM⟩,fun b hb=>?_⟩
   cases b with
   | true =>
    have hp:Yb (.mk a1 a2 a3 a4 a5)=false:=by simpa using hb
    exact mq42
   | false =>
   have hp:Yb (.mk a1 a2 a3 a4 a5)=true:=by simpa using hb
   exact mq25
  exact mq29
 exact h.elim
def ZEi {n:Nat}:OKw w0 nG [(202,Zaf 165 109 Z7 Yb wE n)] 164 (Zag 165 109 Z7 Yb wE n):=by
 refine pwo Tryz.func164 fun args σ K h=>?_
 unfold Zag at h
 split at h
 ·obtain ⟨pl,l,rfl,⟨rfl,rfl,hz,hn⟩,h⟩:=h;refine pwv [] 1 false ?_;refine ⟨pl,l,rfl,⟨rfl,rfl,hz,hn⟩,fun r hr=>wN ?_⟩;refine h _ ?_
  cases hb:l.all Yb with
  | true=>rw [hb] at hr;have:=hr.2 rfl;simp;omega
  | false=>rw [hb] at hr;have:¬r<0:=fun g=>(by have:=hr.1 g;cases this);simp;omega
 exact h.elim
def ZEk {n:Nat}:OKw w0 nG [(164,Zag 165 109 Z7 Yb wE n)] 108 (X3 109 Z7 Yb wE n):=by
 refine pwo Tryz.func108 fun args σ K h=>?_
 exact mq7
def ZGQ {n:Nat} (h:PC w0 nG 109 (Xh (Y3 Z7) Yb wE n)):PC w0 nG 108 (X3 109 Z7 Yb wE n) :=
 ZEk ⟨ZEi ⟨ZEg ⟨ZEe ⟨h,trivial⟩,trivial⟩,trivial⟩,trivial⟩
def ZEm {n:Nat}:OKw w0 nG [(111,Xh (Y3 XD) YT wL n)] 169 (Zae 111 (Y3 XD) YT wL n):=by
 refine pwo Tryz.func169 fun args σ K h=>?_
 exact mq79
def ZEo {n:Nat}:OKw w0 nG [(169,Zae 111 (Y3 XD) YT wL n)] 207 (Zaf 169 111 XD YT wL n):=by
 refine pwo Tryz.func207 fun args σ K h=>?_
 unfold Zaf at h
 split at h
 ·obtain ⟨pl,l,rfl,⟨rfl,rfl,hz,hn⟩,h⟩:=h
  rename_i t
  have aa:(l.map (XD pl)).length=l.length:=Tf ..;have hsz:=Zo wL l;refine pwv [(2,⟨[8],[0,1,7],fun vs σ=>∃i:Nat,vs=[.d (.int .i64 i)]/\σ=⟨[.cells t [.func 111 [] []]],[],0⟩/\i<=l.length/\l.all YT=(l.drop i).all YT,mu1 l.length⟩)] 1 false ?_;refine ⟨⟨0,rfl,rfl,oM,rfl⟩,?_⟩;intro vs σ hI
  obtain ⟨i,rfl,rfl,hi,hs⟩:=hI;(conv=>whnf);refine ZJU (fun af=>wN ?_) (fun af=>wN ?_)
  ·have af:i<l.length:=lzI aa af;have hg:=Zu wL l i af;rw [XN _ af] at hs;obtain ⟨eA,hA⟩:∃e,l[i]=e:=⟨_,rfl⟩
   obtain ⟨a1,a2,a3,a4,a5⟩:=eA;have bj:(l.map (XD pl))[((i:Nat):Int).toNat]?=some (XD pl (.mk a1 a2 a3 a4 a5)):=by simp [af,hA]
   rw [hA] at hs hg;refine ⟨_,oM,bj,wN ?_⟩;refine ⟨pl,(.mk a1 a2 a3 a4 a5),rfl,⟨rfl,oM,oM⟩,fun b hb=>?_⟩
   cases b with
   | true =>
    have hp:YT (.mk a1 a2 a3 a4 a5)=false:=by simpa using hb
    exact mq42
   | false =>
   have hp:YT (.mk a1 a2 a3 a4 a5)=true:=by simpa using hb
   exact mq25
  exact mq29
 exact h.elim
def ZEq {n:Nat}:OKw w0 nG [(207,Zaf 169 111 XD YT wL n)] 168 (Zag 169 111 XD YT wL n):=by
 refine pwo Tryz.func168 fun args σ K h=>?_
 unfold Zag at h
 split at h
 ·obtain ⟨pl,l,rfl,⟨rfl,rfl,hz,hn⟩,h⟩:=h;refine pwv [] 1 false ?_;refine ⟨pl,l,rfl,⟨rfl,rfl,hz,hn⟩,fun r hr=>wN ?_⟩;refine h _ ?_
  cases hb:l.all YT with
  | true=>rw [hb] at hr;have:=hr.2 rfl;simp;omega
  | false=>rw [hb] at hr;have:¬r<0:=fun g=>(by have:=hr.1 g;cases this);simp;omega
 exact h.elim
def ZEs {n:Nat}:OKw w0 nG [(168,Zag 169 111 XD YT wL n)] 110 (X3 111 XD YT wL n):=by
 refine pwo Tryz.func110 fun args σ K h=>?_
 exact mq7
def ZIH {n:Nat} (h:PC w0 nG 111 (Xh (Y3 XD) YT wL n)):PC w0 nG 110 (X3 111 XD YT wL n) :=
 ZEs ⟨ZEq ⟨ZEo ⟨ZEm ⟨h,trivial⟩,trivial⟩,trivial⟩,trivial⟩
def ZAc {n:Nat}:OKw w0 nG [(56,Xh (Y3 ZH) YQ wRu n)] 107 (Zae 56 (Y3 ZH) YQ wRu n):=by
 refine pwo Tryz.func107 fun args σ K h=>?_
 exact mq83
def ZAe {n:Nat}:OKw w0 nG [(107,Zae 56 (Y3 ZH) YQ wRu n)] 163 (Zaf 107 56 ZH YQ wRu n):=by
 refine pwo Tryz.func163 fun args σ K h=>?_
 unfold Zaf at h
 split at h
 ·obtain ⟨pl,l,rfl,⟨rfl,rfl,hz,hn⟩,h⟩:=h
  rename_i t
  have aa:(l.map (ZH pl)).length=l.length:=Tf ..;have hsz:=Zo wRu l;refine pwv [(2,⟨[8],[0,1,7],fun vs σ=>∃i:Nat,vs=[.d (.int .i64 i)]/\σ=⟨[.cells t [.func 56 [] []]],[],0⟩/\i<=l.length/\l.all YQ=(l.drop i).all YQ,mu1 l.length⟩)] 1 false ?_;refine ⟨⟨0,rfl,rfl,oM,rfl⟩,?_⟩;intro vs σ hI
  obtain ⟨i,rfl,rfl,hi,hs⟩:=hI;(conv=>whnf);refine ZJU (fun af=>wN ?_) (fun af=>wN ?_)
  ·have af:i<l.length:=lzI aa af;have hg:=Zu wRu l i af;rw [XN _ af] at hs;obtain ⟨eA,hA⟩:∃e,l[i]=e:=⟨_,rfl⟩
   obtain ⟨a1,a2,a3,a4⟩:=eA;have bj:(l.map (ZH pl))[((i:Nat):Int).toNat]?=some (ZH pl ⟨a1,a2,a3,a4⟩):=by simp [af,hA]
   rw [hA] at hs hg;refine ⟨_,oM,bj,wN ?_⟩;refine ⟨pl,⟨a1,a2,a3,a4⟩,rfl,⟨rfl,oM,oM⟩,fun b hb=>?_⟩
   cases b with
   | true =>
    have hp:YQ ⟨a1,a2,a3,a4⟩=false:=by simpa using hb
    exact mq42
   | false =>
   have hp:YQ ⟨a1,a2,a3,a4⟩=true:=by simpa using hb
   exact mq25
  exact mq29
 exact h.elim
def ZAg {n:Nat}:OKw w0 nG [(163,Zaf 107 56 ZH YQ wRu n)] 106 (Zag 107 56 ZH YQ wRu n):=by
 refine pwo Tryz.func106 fun args σ K h=>?_
 unfold Zag at h
 split at h
 ·obtain ⟨pl,l,rfl,⟨rfl,rfl,hz,hn⟩,h⟩:=h;refine pwv [] 1 false ?_;refine ⟨pl,l,rfl,⟨rfl,rfl,hz,hn⟩,fun r hr=>wN ?_⟩;refine h _ ?_
  cases hb:l.all YQ with
  | true=>rw [hb] at hr;have:=hr.2 rfl;simp;omega
  | false=>rw [hb] at hr;have:¬r<0:=fun g=>(by have:=hr.1 g;cases this);simp;omega
 exact h.elim
def ZAi {n:Nat}:OKw w0 nG [(106,Zag 107 56 ZH YQ wRu n)] 55 (X3 56 ZH YQ wRu n):=by
 refine pwo Tryz.func55 fun args σ K h=>?_
 exact mq7
def ZEt {n:Nat} (h:PC w0 nG 56 (Xh (Y3 ZH) YQ wRu n)):PC w0 nG 55 (X3 56 ZH YQ wRu n) :=
 ZAi ⟨ZAg ⟨ZAe ⟨ZAc ⟨h,trivial⟩,trivial⟩,trivial⟩,trivial⟩
def ZAk {n:Nat}:OKw w0 nG [(54,Xh (Y3 (fun _=>Zn)) YH wFi n)] 105 (Zae 54 (Y3 (fun _=>Zn)) YH wFi n):=by
 refine pwo Tryz.func105 fun args σ K h=>?_
 exact mq49
def ZAm {n:Nat}:OKw w0 nG [(105,Zae 54 (Y3 (fun _=>Zn)) YH wFi n)] 140 (Zaf 105 54 (fun _=>Zn) YH wFi n):=by
 refine pwo Tryz.func140 fun args σ K h=>?_
 unfold Zaf at h
 split at h
 ·obtain ⟨pl,l,rfl,⟨rfl,rfl,hz,hn⟩,h⟩:=h
  rename_i t
  have aa:(l.map ((fun _=>Zn) pl)).length=l.length:=Tf ..;have hsz:=Zo wFi l;refine pwv [(2,⟨[8],[0,1,7],fun vs σ=>∃i:Nat,vs=[.d (.int .i64 i)]/\σ=⟨[.cells t [.func 54 [] []]],[],0⟩/\i<=l.length/\l.all YH=(l.drop i).all YH,mu1 l.length⟩)] 1 false ?_;refine ⟨⟨0,rfl,rfl,oM,rfl⟩,?_⟩;intro vs σ hI
  obtain ⟨i,rfl,rfl,hi,hs⟩:=hI;(conv=>whnf);refine ZJU (fun af=>wN ?_) (fun af=>wN ?_)
  ·have af:i<l.length:=lzI aa af;have hg:=Zu wFi l i af;rw [XN _ af] at hs;obtain ⟨eA,hA⟩:∃e,l[i]=e:=⟨_,rfl⟩
   obtain ⟨a1,a2⟩:=eA;have bj:(l.map ((fun _=>Zn) pl))[((i:Nat):Int).toNat]?=some ((fun _=>Zn) pl ⟨a1,a2⟩):=by simp [af,hA]
   rw [hA] at hs hg;refine ⟨_,oM,bj,wN ?_⟩;refine ⟨pl,⟨a1,a2⟩,rfl,⟨rfl,oM,oM⟩,fun b hb=>?_⟩
   cases b with
   | true =>
    have hp:YH ⟨a1,a2⟩=false:=by simpa using hb
    exact mq42
   | false =>
   have hp:YH ⟨a1,a2⟩=true:=by simpa using hb
   exact mq25
  exact mq29
 exact h.elim
def ZAo {n:Nat}:OKw w0 nG [(140,Zaf 105 54 (fun _=>Zn) YH wFi n)] 74 (Zag 105 54 (fun _=>Zn) YH wFi n):=by
 refine pwo Tryz.func74 fun args σ K h=>?_
 unfold Zag at h
 split at h
 ·obtain ⟨pl,l,rfl,⟨rfl,rfl,hz,hn⟩,h⟩:=h;refine pwv [] 1 false ?_;refine ⟨pl,l,rfl,⟨rfl,rfl,hz,hn⟩,fun r hr=>wN ?_⟩;refine h _ ?_
  cases hb:l.all YH with
  | true=>rw [hb] at hr;have:=hr.2 rfl;simp;omega
  | false=>rw [hb] at hr;have:¬r<0:=fun g=>(by have:=hr.1 g;cases this);simp;omega
 exact h.elim
def ZAq {n:Nat}:OKw w0 nG [(74,Zag 105 54 (fun _=>Zn) YH wFi n)] 53 (X3 54 (fun _=>Zn) YH wFi n):=by
 refine pwo Tryz.func53 fun args σ K h=>?_
 exact mq7
def ZHC {n:Nat} (h:PC w0 nG 54 (Xh (Y3 (fun _=>Zn)) YH wFi n)):PC w0 nG 53 (X3 54 (fun _=>Zn) YH wFi n) :=
 ZAq ⟨ZAo ⟨ZAm ⟨ZAk ⟨h,trivial⟩,trivial⟩,trivial⟩,trivial⟩
def ZAs {n:Nat}:OKw w0 nG [(100,Xh (Y3 (fun _=>Zy)) Xp wCa n)] 157 (Zae 100 (Y3 (fun _=>Zy)) Xp wCa n):=by
 refine pwo Tryz.func157 fun args σ K h=>?_
 exact mq49
def ZAu {n:Nat}:OKw w0 nG [(157,Zae 100 (Y3 (fun _=>Zy)) Xp wCa n)] 73 (Zaf 157 100 (fun _=>Zy) Xp wCa n):=by
 refine pwo Tryz.func73 fun args σ K h=>?_
 unfold Zaf at h
 split at h
 ·obtain ⟨pl,l,rfl,⟨rfl,rfl,hz,hn⟩,h⟩:=h
  rename_i t
  have aa:(l.map ((fun _=>Zy) pl)).length=l.length:=Tf ..;have hsz:=Zo wCa l;refine pwv [(2,⟨[8],[0,1,7],fun vs σ=>∃i:Nat,vs=[.d (.int .i64 i)]/\σ=⟨[.cells t [.func 100 [] []]],[],0⟩/\i<=l.length/\l.all Xp=(l.drop i).all Xp,mu1 l.length⟩)] 1 false ?_;refine ⟨⟨0,rfl,rfl,oM,rfl⟩,?_⟩;intro vs σ hI
  obtain ⟨i,rfl,rfl,hi,hs⟩:=hI;(conv=>whnf);refine ZJU (fun af=>wN ?_) (fun af=>wN ?_)
  ·have af:i<l.length:=lzI aa af;have hg:=Zu wCa l i af;rw [XN _ af] at hs;obtain ⟨eA,hA⟩:∃e,l[i]=e:=⟨_,rfl⟩
   obtain ⟨a1,a2⟩:=eA;have bj:(l.map ((fun _=>Zy) pl))[((i:Nat):Int).toNat]?=some ((fun _=>Zy) pl ⟨a1,a2⟩):=by simp [af,hA]
   rw [hA] at hs hg;refine ⟨_,oM,bj,wN ?_⟩;refine ⟨pl,⟨a1,a2⟩,rfl,⟨rfl,oM,oM⟩,fun b hb=>?_⟩
   cases b with
   | true =>
    have hp:Xp ⟨a1,a2⟩=false:=by simpa using hb
    exact mq42
   | false =>
   have hp:Xp ⟨a1,a2⟩=true:=by simpa using hb
   exact mq25
  exact mq29
 exact h.elim
def ZAw {n:Nat}:OKw w0 nG [(73,Zaf 157 100 (fun _=>Zy) Xp wCa n)] 32 (Zag 157 100 (fun _=>Zy) Xp wCa n):=by
 refine pwo Tryz.func32 fun args σ K h=>?_
 unfold Zag at h
 split at h
 ·obtain ⟨pl,l,rfl,⟨rfl,rfl,hz,hn⟩,h⟩:=h;refine pwv [] 1 false ?_;refine ⟨pl,l,rfl,⟨rfl,rfl,hz,hn⟩,fun r hr=>wN ?_⟩;refine h _ ?_
  cases hb:l.all Xp with
  | true=>rw [hb] at hr;have:=hr.2 rfl;simp;omega
  | false=>rw [hb] at hr;have:¬r<0:=fun g=>(by have:=hr.1 g;cases this);simp;omega
 exact h.elim
def ZAy {n:Nat}:OKw w0 nG [(32,Zag 157 100 (fun _=>Zy) Xp wCa n)] 99 (X3 100 (fun _=>Zy) Xp wCa n):=by
 refine pwo Tryz.func99 fun args σ K h=>?_
 exact mq7
def ZHD {n:Nat} (h:PC w0 nG 100 (Xh (Y3 (fun _=>Zy)) Xp wCa n)):PC w0 nG 99 (X3 100 (fun _=>Zy) Xp wCa n) :=
 ZAy ⟨ZAw ⟨ZAu ⟨ZAs ⟨h,trivial⟩,trivial⟩,trivial⟩,trivial⟩
def ZAA {n:Nat}:OKw w0 nG [(49,Xh (Y3 Zv) Yl wTy n)] 98 (Zae 49 (Y3 Zv) Yl wTy n):=by
 refine pwo Tryz.func98 fun args σ K h=>?_
 exact mq76
def ZAC {n:Nat}:OKw w0 nG [(98,Zae 49 (Y3 Zv) Yl wTy n)] 156 (Zaf 98 49 Zv Yl wTy n):=by
 refine pwo Tryz.func156 fun args σ K h=>?_
 unfold Zaf at h
 split at h
 ·obtain ⟨pl,l,rfl,⟨rfl,rfl,hz,hn⟩,h⟩:=h
  rename_i t
  have aa:(l.map (Zv pl)).length=l.length:=Tf ..;have hsz:=Zo wTy l;refine pwv [(2,⟨[8],[0,1,7],fun vs σ=>∃i:Nat,vs=[.d (.int .i64 i)]/\σ=⟨[.cells t [.func 49 [] []]],[],0⟩/\i<=l.length/\l.all Yl=(l.drop i).all Yl,mu1 l.length⟩)] 1 false ?_;refine ⟨⟨0,rfl,rfl,oM,rfl⟩,?_⟩;intro vs σ hI
  obtain ⟨i,rfl,rfl,hi,hs⟩:=hI;(conv=>whnf);refine ZJU (fun af=>wN ?_) (fun af=>wN ?_)
  ·have af:i<l.length:=lzI aa af;have hg:=Zu wTy l i af;rw [XN _ af] at hs;obtain ⟨eA,hA⟩:∃e,l[i]=e:=⟨_,rfl⟩
   obtain ⟨a1,a2,a3,a4,a5,a6⟩:=eA;have bj:(l.map (Zv pl))[((i:Nat):Int).toNat]?=some (Zv pl ⟨a1,a2,a3,a4,a5,a6⟩):=by simp [af,hA]
   rw [hA] at hs hg;refine ⟨_,oM,bj,wN ?_⟩;refine ⟨pl,⟨a1,a2,a3,a4,a5,a6⟩,rfl,⟨rfl,oM,oM⟩,fun b hb=>?_⟩
   cases b with
   | true =>
    have hp:Yl ⟨a1,a2,a3,a4,a5,a6⟩=false:=by simpa using hb
    exact mq42
   | false =>
   have hp:Yl ⟨a1,a2,a3,a4,a5,a6⟩=true:=by simpa using hb
   exact mq25
  exact mq29
 exact h.elim
def ZAE {n:Nat}:OKw w0 nG [(156,Zaf 98 49 Zv Yl wTy n)] 97 (Zag 98 49 Zv Yl wTy n):=by
 refine pwo Tryz.func97 fun args σ K h=>?_
 unfold Zag at h
 split at h
 ·obtain ⟨pl,l,rfl,⟨rfl,rfl,hz,hn⟩,h⟩:=h;refine pwv [] 1 false ?_;refine ⟨pl,l,rfl,⟨rfl,rfl,hz,hn⟩,fun r hr=>wN ?_⟩;refine h _ ?_
  cases hb:l.all Yl with
  | true=>rw [hb] at hr;have:=hr.2 rfl;simp;omega
  | false=>rw [hb] at hr;have:¬r<0:=fun g=>(by have:=hr.1 g;cases this);simp;omega
 exact h.elim
def ZAG {n:Nat}:OKw w0 nG [(97,Zag 98 49 Zv Yl wTy n)] 48 (X3 49 Zv Yl wTy n):=by
 refine pwo Tryz.func48 fun args σ K h=>?_
 exact mq7
def ZEu {n:Nat} (h:PC w0 nG 49 (Xh (Y3 Zv) Yl wTy n)):PC w0 nG 48 (X3 49 Zv Yl wTy n) :=
 ZAG ⟨ZAE ⟨ZAC ⟨ZAA ⟨h,trivial⟩,trivial⟩,trivial⟩,trivial⟩
def ZAI {n:Nat}:OKw w0 nG [(51,Xh (Y3 ZO) Xx wRe n)] 102 (Zae 51 (Y3 ZO) Xx wRe n):=by
 refine pwo Tryz.func102 fun args σ K h=>?_
 exact mq76
def ZAK {n:Nat}:OKw w0 nG [(102,Zae 51 (Y3 ZO) Xx wRe n)] 158 (Zaf 102 51 ZO Xx wRe n):=by
 refine pwo Tryz.func158 fun args σ K h=>?_
 unfold Zaf at h
 split at h
 ·obtain ⟨pl,l,rfl,⟨rfl,rfl,hz,hn⟩,h⟩:=h
  rename_i t
  have aa:(l.map (ZO pl)).length=l.length:=Tf ..;have hsz:=Zo wRe l;refine pwv [(2,⟨[8],[0,1,7],fun vs σ=>∃i:Nat,vs=[.d (.int .i64 i)]/\σ=⟨[.cells t [.func 51 [] []]],[],0⟩/\i<=l.length/\l.all Xx=(l.drop i).all Xx,mu1 l.length⟩)] 1 false ?_;refine ⟨⟨0,rfl,rfl,oM,rfl⟩,?_⟩;intro vs σ hI
  obtain ⟨i,rfl,rfl,hi,hs⟩:=hI;(conv=>whnf);refine ZJU (fun af=>wN ?_) (fun af=>wN ?_)
  ·have af:i<l.length:=lzI aa af;have hg:=Zu wRe l i af;rw [XN _ af] at hs;obtain ⟨eA,hA⟩:∃e,l[i]=e:=⟨_,rfl⟩
   obtain ⟨a1,a2,a3,a4,a5,a6⟩:=eA;have bj:(l.map (ZO pl))[((i:Nat):Int).toNat]?=some (ZO pl ⟨a1,a2,a3,a4,a5,a6⟩):=by simp [af,hA]
   rw [hA] at hs hg;refine ⟨_,oM,bj,wN ?_⟩;refine ⟨pl,⟨a1,a2,a3,a4,a5,a6⟩,rfl,⟨rfl,oM,oM⟩,fun b hb=>?_⟩
   cases b with
   | true =>
    have hp:Xx ⟨a1,a2,a3,a4,a5,a6⟩=false:=by simpa using hb
    exact mq42
   | false =>
   have hp:Xx ⟨a1,a2,a3,a4,a5,a6⟩=true:=by simpa using hb
   exact mq25
  exact mq29
 exact h.elim
def ZAM {n:Nat}:OKw w0 nG [(158,Zaf 102 51 ZO Xx wRe n)] 101 (Zag 102 51 ZO Xx wRe n):=by
 refine pwo Tryz.func101 fun args σ K h=>?_
 unfold Zag at h
 split at h
 ·obtain ⟨pl,l,rfl,⟨rfl,rfl,hz,hn⟩,h⟩:=h;refine pwv [] 1 false ?_;refine ⟨pl,l,rfl,⟨rfl,rfl,hz,hn⟩,fun r hr=>wN ?_⟩;refine h _ ?_
  cases hb:l.all Xx with
  | true=>rw [hb] at hr;have:=hr.2 rfl;simp;omega
  | false=>rw [hb] at hr;have:¬r<0:=fun g=>(by have:=hr.1 g;cases this);simp;omega
 exact h.elim
def ZAO {n:Nat}:OKw w0 nG [(101,Zag 102 51 ZO Xx wRe n)] 50 (X3 51 ZO Xx wRe n):=by
 refine pwo Tryz.func50 fun args σ K h=>?_
 exact mq7
def ZEv {n:Nat} (h:PC w0 nG 51 (Xh (Y3 ZO) Xx wRe n)):PC w0 nG 50 (X3 51 ZO Xx wRe n) :=
 ZAO ⟨ZAM ⟨ZAK ⟨ZAI ⟨h,trivial⟩,trivial⟩,trivial⟩,trivial⟩
def ZAQ {n:Nat}:OKw w0 nG [(58,Xh (Y3 Wi) Yy wCo n)] 113 (Zae 58 (Y3 Wi) Yy wCo n):=by
 refine pwo Tryz.func113 fun args σ K h=>?_
 unfold Zae at h
 split at h
 ·obtain ⟨pl,⟨a1,a2,a3,a4,⟨u1,u2,u3,u4,u5,u6⟩,a6⟩,rfl,⟨rfl,hz,hn⟩,h⟩:=h;refine pwv [] 1 false ?_;refine ⟨pl,(.mk a1 a2 a3 a4 (.mk u1 u2 u3 u4 u5 u6) a6),rfl,⟨hz,hn⟩,fun b hb=>wN ?_⟩;exact h _ (by rw [hb])
 exact h.elim
def ZAS {n:Nat}:OKw w0 nG [(113,Zae 58 (Y3 Wi) Yy wCo n)] 170 (Zaf 113 58 Wi Yy wCo n):=by
 refine pwo Tryz.func170 fun args σ K h=>?_
 unfold Zaf at h
 split at h
 ·obtain ⟨pl,l,rfl,⟨rfl,rfl,hz,hn⟩,h⟩:=h
  rename_i t
  have aa:(l.map (Wi pl)).length=l.length:=Tf ..;have hsz:=Zo wCo l;refine pwv [(2,⟨[8],[0,1,7],fun vs σ=>∃i:Nat,vs=[.d (.int .i64 i)]/\σ=⟨[.cells t [.func 58 [] []]],[],0⟩/\i<=l.length/\l.all Yy=(l.drop i).all Yy,mu1 l.length⟩)] 1 false ?_;refine ⟨⟨0,rfl,rfl,oM,rfl⟩,?_⟩;intro vs σ hI
  obtain ⟨i,rfl,rfl,hi,hs⟩:=hI;(conv=>whnf);refine ZJU (fun af=>?_) (fun af=>wN ?_)
  ·have af:i<l.length:=lzI aa af;have hg:=Zu wCo l i af;rw [XN _ af] at hs;obtain ⟨eA,hA⟩:∃e,l[i]=e:=⟨_,rfl⟩
   obtain ⟨a1,a2,a3,a4,⟨u1,u2,u3,u4,u5,u6⟩,a6⟩:=eA;have bj:(l.map (Wi pl))[((i:Nat):Int).toNat]?=some (Wi pl (.mk a1 a2 a3 a4 (.mk u1 u2 u3 u4 u5 u6) a6)):=by simp [af,hA]
   rw [hA] at hs hg;(conv=>whnf);refine ⟨_,oM,bj,wN ?_⟩;refine ⟨pl,(.mk a1 a2 a3 a4 (.mk u1 u2 u3 u4 u5 u6) a6),rfl,⟨rfl,oM,oM⟩,fun b hb=>?_⟩
   cases b with
   | true =>
    have hp:Yy (.mk a1 a2 a3 a4 (.mk u1 u2 u3 u4 u5 u6) a6)=false:=by simpa using hb
    exact mq42
   | false =>
   have hp:Yy (.mk a1 a2 a3 a4 (.mk u1 u2 u3 u4 u5 u6) a6)=true:=by simpa using hb
   exact mq25
  exact mq29
 exact h.elim
def ZAU {n:Nat}:OKw w0 nG [(170,Zaf 113 58 Wi Yy wCo n)] 112 (Zag 113 58 Wi Yy wCo n):=by
 refine pwo Tryz.func112 fun args σ K h=>?_
 unfold Zag at h
 split at h
 ·obtain ⟨pl,l,rfl,⟨rfl,rfl,hz,hn⟩,h⟩:=h;refine pwv [] 1 false ?_;refine ⟨pl,l,rfl,⟨rfl,rfl,hz,hn⟩,fun r hr=>wN ?_⟩;refine h _ ?_
  cases hb:l.all Yy with
  | true=>rw [hb] at hr;have:=hr.2 rfl;simp;omega
  | false=>rw [hb] at hr;have:¬r<0:=fun g=>(by have:=hr.1 g;cases this);simp;omega
 exact h.elim
def ZAW {n:Nat}:OKw w0 nG [(112,Zag 113 58 Wi Yy wCo n)] 57 (X3 58 Wi Yy wCo n):=by
 refine pwo Tryz.func57 fun args σ K h=>?_
 exact mq7
def ZHE {n:Nat} (h:PC w0 nG 58 (Xh (Y3 Wi) Yy wCo n)):PC w0 nG 57 (X3 58 Wi Yy wCo n) :=
 ZAW ⟨ZAU ⟨ZAS ⟨ZAQ ⟨h,trivial⟩,trivial⟩,trivial⟩,trivial⟩
def ZAY {n:Nat}:OKw w0 nG [(61,Xh (Y3 WG) Vc wIn n)] 116 (Zae 61 (Y3 WG) Vc wIn n):=by
 refine pwo Tryz.func116 fun args σ K h=>?_
 exact mq83
def ZA0 {n:Nat}:OKw w0 nG [(116,Zae 61 (Y3 WG) Vc wIn n)] 171 (Zaf 116 61 WG Vc wIn n):=by
 refine pwo Tryz.func171 fun args σ K h=>?_
 unfold Zaf at h
 split at h
 ·obtain ⟨pl,l,rfl,⟨rfl,rfl,hz,hn⟩,h⟩:=h
  rename_i t
  have aa:(l.map (WG pl)).length=l.length:=Tf ..;have hsz:=Zo wIn l;refine pwv [(2,⟨[8],[0,1,7],fun vs σ=>∃i:Nat,vs=[.d (.int .i64 i)]/\σ=⟨[.cells t [.func 61 [] []]],[],0⟩/\i<=l.length/\l.all Vc=(l.drop i).all Vc,mu1 l.length⟩)] 1 false ?_;refine ⟨⟨0,rfl,rfl,oM,rfl⟩,?_⟩;intro vs σ hI
  obtain ⟨i,rfl,rfl,hi,hs⟩:=hI;(conv=>whnf);refine ZJU (fun af=>wN ?_) (fun af=>wN ?_)
  ·have af:i<l.length:=lzI aa af;have hg:=Zu wIn l i af;rw [XN _ af] at hs;obtain ⟨eA,hA⟩:∃e,l[i]=e:=⟨_,rfl⟩
   obtain ⟨a1,a2,a3,a4⟩:=eA;have bj:(l.map (WG pl))[((i:Nat):Int).toNat]?=some (WG pl ⟨a1,a2,a3,a4⟩):=by simp [af,hA]
   rw [hA] at hs hg;refine ⟨_,oM,bj,wN ?_⟩;refine ⟨pl,⟨a1,a2,a3,a4⟩,rfl,⟨rfl,oM,oM⟩,fun b hb=>?_⟩
   cases b with
   | true =>
    have hp:Vc ⟨a1,a2,a3,a4⟩=false:=by simpa using hb
    exact mq42
   | false =>
   have hp:Vc ⟨a1,a2,a3,a4⟩=true:=by simpa using hb
   exact mq25
  exact mq29
 exact h.elim
def ZA2 {n:Nat}:OKw w0 nG [(171,Zaf 116 61 WG Vc wIn n)] 115 (Zag 116 61 WG Vc wIn n):=by
 refine pwo Tryz.func115 fun args σ K h=>?_
 unfold Zag at h
 split at h
 ·obtain ⟨pl,l,rfl,⟨rfl,rfl,hz,hn⟩,h⟩:=h;refine pwv [] 1 false ?_;refine ⟨pl,l,rfl,⟨rfl,rfl,hz,hn⟩,fun r hr=>wN ?_⟩;refine h _ ?_
  cases hb:l.all Vc with
  | true=>rw [hb] at hr;have:=hr.2 rfl;simp;omega
  | false=>rw [hb] at hr;have:¬r<0:=fun g=>(by have:=hr.1 g;cases this);simp;omega
 exact h.elim
def ZA4 {n:Nat}:OKw w0 nG [(115,Zag 116 61 WG Vc wIn n)] 60 (X3 61 WG Vc wIn n):=by
 refine pwo Tryz.func60 fun args σ K h=>?_
 exact mq7
def ZEw {n:Nat} (h:PC w0 nG 61 (Xh (Y3 WG) Vc wIn n)):PC w0 nG 60 (X3 61 WG Vc wIn n) :=
 ZA4 ⟨ZA2 ⟨ZA0 ⟨ZAY ⟨h,trivial⟩,trivial⟩,trivial⟩,trivial⟩
def ZA6 {n:Nat}:OKw w0 nG [(63,Xh (Y3 WH) VK wOv n)] 118 (Zae 63 (Y3 WH) VK wOv n):=by
 refine pwo Tryz.func118 fun args σ K h=>?_
 exact mq49
def ZA8 {n:Nat}:OKw w0 nG [(118,Zae 63 (Y3 WH) VK wOv n)] 172 (Zaf 118 63 WH VK wOv n):=by
 refine pwo Tryz.func172 fun args σ K h=>?_
 unfold Zaf at h
 split at h
 ·obtain ⟨pl,l,rfl,⟨rfl,rfl,hz,hn⟩,h⟩:=h
  rename_i t
  have aa:(l.map (WH pl)).length=l.length:=Tf ..;have hsz:=Zo wOv l;refine pwv [(2,⟨[8],[0,1,7],fun vs σ=>∃i:Nat,vs=[.d (.int .i64 i)]/\σ=⟨[.cells t [.func 63 [] []]],[],0⟩/\i<=l.length/\l.all VK=(l.drop i).all VK,mu1 l.length⟩)] 1 false ?_;refine ⟨⟨0,rfl,rfl,oM,rfl⟩,?_⟩;intro vs σ hI
  obtain ⟨i,rfl,rfl,hi,hs⟩:=hI;(conv=>whnf);refine ZJU (fun af=>wN ?_) (fun af=>wN ?_)
  ·have af:i<l.length:=lzI aa af;have hg:=Zu wOv l i af;rw [XN _ af] at hs;obtain ⟨eA,hA⟩:∃e,l[i]=e:=⟨_,rfl⟩
   obtain ⟨a1,a2⟩:=eA;have bj:(l.map (WH pl))[((i:Nat):Int).toNat]?=some (WH pl ⟨a1,a2⟩):=by simp [af,hA]
   rw [hA] at hs hg;refine ⟨_,oM,bj,wN ?_⟩;refine ⟨pl,⟨a1,a2⟩,rfl,⟨rfl,oM,oM⟩,fun b hb=>?_⟩
   cases b with
   | true =>
    have hp:VK ⟨a1,a2⟩=false:=by simpa using hb
    exact mq42
   | false =>
   have hp:VK ⟨a1,a2⟩=true:=by simpa using hb
   exact mq25
  exact mq29
 exact h.elim
def ZBa {n:Nat}:OKw w0 nG [(172,Zaf 118 63 WH VK wOv n)] 117 (Zag 118 63 WH VK wOv n):=by
 refine pwo Tryz.func117 fun args σ K h=>?_
 unfold Zag at h
 split at h
 ·obtain ⟨pl,l,rfl,⟨rfl,rfl,hz,hn⟩,h⟩:=h;refine pwv [] 1 false ?_;refine ⟨pl,l,rfl,⟨rfl,rfl,hz,hn⟩,fun r hr=>wN ?_⟩;refine h _ ?_
  cases hb:l.all VK with
  | true=>rw [hb] at hr;have:=hr.2 rfl;simp;omega
  | false=>rw [hb] at hr;have:¬r<0:=fun g=>(by have:=hr.1 g;cases this);simp;omega
 exact h.elim
def ZBc {n:Nat}:OKw w0 nG [(117,Zag 118 63 WH VK wOv n)] 62 (X3 63 WH VK wOv n):=by
 refine pwo Tryz.func62 fun args σ K h=>?_
 exact mq7
def ZEx {n:Nat} (h:PC w0 nG 63 (Xh (Y3 WH) VK wOv n)):PC w0 nG 62 (X3 63 WH VK wOv n) :=
 ZBc ⟨ZBa ⟨ZA8 ⟨ZA6 ⟨h,trivial⟩,trivial⟩,trivial⟩,trivial⟩
def ZBe {n:Nat}:OKw w0 nG [(52,Xh ZlP Yx wBs n)] 114 (Zae 52 ZlP Yx wBs n):=by
 refine pwo Tryz.func114 fun args σ K h=>?_
 unfold Zae at h
 split at h
 ·obtain ⟨pl,x,rfl,⟨rfl,hz,hn⟩,h⟩:=h;refine pwv [] 1 false ?_;refine ⟨pl,x,rfl,⟨hz,hn⟩,fun b hb=>wN ?_⟩;exact h _ (by rw [hb])
 exact h.elim
def ZBg {n:Nat}:OKw w0 nG [(114,Zae 52 ZlP Yx wBs n)] 144 (Zaf 114 52 (fun _=>YF) Yx wBs n):=by
 refine pwo Tryz.func144 fun args σ K h=>?_
 unfold Zaf at h
 split at h
 ·obtain ⟨pl,l,rfl,⟨rfl,rfl,hz,hn⟩,h⟩:=h
  rename_i t
  have aa:(l.map ((fun _=>YF) pl)).length=l.length:=Tf ..;have hsz:=Zo wBs l;refine pwv [(2,⟨[8],[0,1,7],fun vs σ=>∃i:Nat,vs=[.d (.int .i64 i)]/\σ=⟨[.cells t [.func 52 [] []]],[],0⟩/\i<=l.length/\l.all Yx=(l.drop i).all Yx,mu1 l.length⟩)] 1 false ?_;refine ⟨⟨0,rfl,rfl,oM,rfl⟩,?_⟩;intro vs σ hI
  obtain ⟨i,rfl,rfl,hi,hs⟩:=hI;(conv=>whnf);refine ZJU (fun af=>wN ?_) (fun af=>wN ?_)
  ·have af:i<l.length:=lzI aa af;have hg:=Zu wBs l i af;rw [XN _ af] at hs;obtain ⟨eA,hA⟩:∃e,l[i]=e:=⟨_,rfl⟩
   have bj:(l.map ((fun _=>YF) pl))[((i:Nat):Int).toNat]?=some ((fun _=>YF) pl eA):=by simp [af,hA]
   rw [hA] at hs hg;refine ⟨_,oM,bj,wN ?_⟩;refine ⟨pl,eA,rfl,⟨rfl,oM,oM⟩,fun b hb=>?_⟩
   cases b with
   | true =>
    have hp:Yx eA=false:=by simpa using hb
    exact mq42
   | false =>
   have hp:Yx eA=true:=by simpa using hb
   exact mq25
  exact mq29
 exact h.elim
def ZBi {n:Nat}:OKw w0 nG [(144,Zaf 114 52 (fun _=>YF) Yx wBs n)] 84 (Zag 114 52 (fun _=>YF) Yx wBs n):=by
 refine pwo Tryz.func84 fun args σ K h=>?_
 unfold Zag at h
 split at h
 ·obtain ⟨pl,l,rfl,⟨rfl,rfl,hz,hn⟩,h⟩:=h;refine pwv [] 1 false ?_;refine ⟨pl,l,rfl,⟨rfl,rfl,hz,hn⟩,fun r hr=>wN ?_⟩;refine h _ ?_
  cases hb:l.all Yx with
  | true=>rw [hb] at hr;have:=hr.2 rfl;simp;omega
  | false=>rw [hb] at hr;have:¬r<0:=fun g=>(by have:=hr.1 g;cases this);simp;omega
 exact h.elim
def ZBk {n:Nat}:OKw w0 nG [(84,Zag 114 52 (fun _=>YF) Yx wBs n)] 59 (X3 52 (fun _=>YF) Yx wBs n):=by
 refine pwo Tryz.func59 fun args σ K h=>?_
 exact mq7
def ZHF {n:Nat} (h:PC w0 nG 52 (Xh ZlP Yx wBs n)):PC w0 nG 59 (X3 52 (fun _=>YF) Yx wBs n) :=
 ZBk ⟨ZBi ⟨ZBg ⟨ZBe ⟨h,trivial⟩,trivial⟩,trivial⟩,trivial⟩
def ZDn:Zq:=fun args σ K=>match args,σ with
 | [.d (.int .u8 op)],⟨[],[],0⟩=>∃o:Nat,op=o/\∀l w a,(Zj o:Int)=l->ZD o=w->Yg o=a->K (.ret (.agg [.d (.int .i64 l),.d (.str w),.d (.int .i64 a)])) ⟨[],[],0⟩
 | _,_=>False
def Ztq:ZL ZDn:=fun args σ K K' hK h=>by
 unfold ZDn at h |-
 split at h
 ·obtain ⟨o,h1,h2⟩:=h;exact ⟨o,h1,fun l w a e1 e2 e3=>hK _ _ (h2 l w a e1 e2 e3)⟩
 exact h.elim
def Zwp:PC w0 nG 166 ZDn:=by
 refine pwe Tryz.func166 fun args σ K h=>?_
 unfold ZDn at h
 split at h
 ·obtain ⟨o,rfl,h⟩:=h;refine pwu [] 0 false ?_
  repeat' ((conv=>whnf);refine ZJU (fun hc=>?_) (fun hc=>?_))
  all_goals (conv=>whnf)
  all_goals first
  | (have e : o = 16 := by omega
     subst e;exact h _ _ _ rfl rfl rfl)
  | (have e : o = 17 := by omega
     subst e;exact h _ _ _ rfl rfl rfl)
  | (have e : o = 15 := by omega
     subst e;exact h _ _ _ rfl rfl rfl)
  | (have e : o = 18 := by omega
     subst e;exact h _ _ _ rfl rfl rfl)
  | (have e : o = 19 := by omega
     subst e;exact h _ _ _ rfl rfl rfl)
  | (have e : o = 10 := by omega
     subst e;exact h _ _ _ rfl rfl rfl)
  | (have e : o = 11 := by omega
     subst e;exact h _ _ _ rfl rfl rfl)
  | (have e : o = 12 := by omega
     subst e;exact h _ _ _ rfl rfl rfl)
  | (have e : o = 13 := by omega
     subst e;exact h _ _ _ rfl rfl rfl)
  | (have e : o = 14 := by omega
     subst e;exact h _ _ _ rfl rfl rfl)
  | (have e : o = 8 := by omega
     subst e;exact h _ _ _ rfl rfl rfl)
  | (have e : o = 9 := by omega
     subst e;exact h _ _ _ rfl rfl rfl)
  | (have e : o = 20 := by omega
     subst e;exact h _ _ _ rfl rfl rfl)
  | (have e : o = 21 := by omega
     subst e;exact h _ _ _ rfl rfl rfl)
  | (have e : o = 22 := by omega
     subst e;exact h _ _ _ rfl rfl rfl)
  | (have e : o = 23 := by omega
     subst e;exact h _ _ _ rfl rfl rfl)
  | (have e : o = 24 := by omega
     subst e;exact h _ _ _ rfl rfl rfl)
  | (have e : o = 25 := by omega
     subst e;exact h _ _ _ rfl rfl rfl)
  | (have e : o = 6 := by omega
     subst e;exact h _ _ _ rfl rfl rfl)
  | (have e : o = 7 := by omega
     subst e;exact h _ _ _ rfl rfl rfl)
  | (have e : o = 1 := by omega
     subst e;exact h _ _ _ rfl rfl rfl)
  | (have e : o = 2 := by omega
     subst e;exact h _ _ _ rfl rfl rfl)
  | (have e : o = 3 := by omega
     subst e;exact h _ _ _ rfl rfl rfl)
  | (have e : o = 4 := by omega
     subst e;exact h _ _ _ rfl rfl rfl)
  | (have e : o = 5 := by omega
     subst e;exact h _ _ _ rfl rfl rfl)
  | (refine h _ _ _ ?_ ?_ ?_
     ·unfold Zj;(repeat rw [Tb oM]);rfl
     ·unfold ZD;(repeat rw [Tb oM])
     unfold Yg;(repeat rw [Tb oM]))
 exact h.elim
def ZEz {n:Nat}:OKw w0 nG [(103,ZiJ),(104,Zkr)] 52 (Xh ZlP Yx wBs n):=by
 refine pwo Tryz.func52 fun args σ K h=>?_
 unfold Xh at h
 split at h
 ·obtain ⟨pl,s,rfl,⟨hz,hn⟩,h⟩:=h;unfold wBs at hz
  refine pwv [] 0 false ?_;refine ⟨oM,wN ?_⟩;refine ZJY (fun jg=>?_) (fun jg=>?_);rotate_left
  ·(conv=>whnf);exact h _ (by simp [Yx,jg])
  conv=>whnf
  refine ZJX (fun dg=>?_) (fun dg=>?_);rotate_left
  ·(conv=>whnf);exact h _ (by simp only [Yx,jg,dg];decide)
  conv=>whnf
  refine fun b hb=>wN ?_
  exact h _ (by rw [Yx,jg,hb,decide_eq_false dg];simp)
 exact h.elim
def ZEB {n:Nat}:OKw w0 nG [(52,Xh ZlP Yx wBs n)] 54 (Xh (Y3 (fun _=>Zn)) YH wFi n):=by
 refine pwo Tryz.func54 fun args σ K h=>?_
 unfold Xh at h
 split at h
 ·obtain ⟨pl,⟨a1,a2⟩,rfl,⟨hz,hn⟩,h⟩:=h;simp only [wFi] at hz;refine pwv [] 0 false ?_;refine ⟨fun _=>0,a1,rfl,⟨by simp only [wBs];omega,oM⟩,fun b dl=>?_⟩
  cases b with
  | false =>
   conv=>whnf
   exact h _ (by simp [YH,dl])
  | true =>
  conv=>whnf
  refine ⟨fun _=>0,a2,rfl,⟨by simp only [wBs];omega,oM⟩,fun b fe=>wN ?_⟩;exact h _ (by simp [YH,dl,fe])
 exact h.elim
def ZED {n:Nat}:OKw w0 nG [(52,Xh ZlP Yx wBs n),(53,X3 54 (fun _=>Zn) YH wFi n)] 100 (Xh (Y3 (fun _=>Zy)) Xp wCa n):=by
 refine pwo Tryz.func100 fun args σ K h=>?_
 unfold Xh at h
 split at h
 ·obtain ⟨pl,⟨a1,a2⟩,rfl,⟨hz,hn⟩,h⟩:=h;simp only [wCa] at hz;refine pwv [] 0 false ?_;refine ⟨fun _=>0,a1,rfl,⟨by simp only [wBs];omega,oM⟩,fun b dl=>?_⟩
  cases b with
  | false =>
   conv=>whnf
   exact h _ (by simp [Xp,dl])
  | true =>
  conv=>whnf
  refine ⟨pl,a2,rfl,⟨rfl,oM,oM⟩,fun b ic=>wN ?_⟩;exact h _ (by simp [Xp,dl,ic])
 exact h.elim
def ZEF {n:Nat}:OKw w0 nG [(52,Xh ZlP Yx wBs n),(53,X3 54 (fun _=>Zn) YH wFi n)] 51 (Xh (Y3 ZO) Xx wRe n):=by
 refine pwo Tryz.func51 fun args σ K h=>?_
 unfold Xh at h
 split at h
 ·obtain ⟨pl,⟨a1,a2,a3,a4,a5,a6⟩,rfl,⟨hz,hn⟩,h⟩:=h;simp only [wRe] at hz;refine pwv [] 0 false ?_;refine ⟨fun _=>0,a1,rfl,⟨by simp only [wBs];omega,oM⟩,fun b dl=>?_⟩
  cases b with
  | false =>
   conv=>whnf
   exact h _ (by simp [Xx,dl])
  | true =>
  conv=>whnf
  refine ⟨pl,a2,rfl,⟨rfl,oM,oM⟩,fun b ic=>wN ?_⟩;exact h _ (by simp [Xx,dl,ic])
 exact h.elim
def ZEH {n:Nat}:OKw w0 nG [(52,Xh ZlP Yx wBs n),(59,X3 52 (fun _=>YF) Yx wBs n)] 61 (Xh (Y3 WG) Vc wIn n):=by
 refine pwo Tryz.func61 fun args σ K h=>?_
 unfold Xh at h
 split at h
 ·obtain ⟨pl,⟨a1,a2,a3,a4⟩,rfl,⟨hz,hn⟩,h⟩:=h;simp only [wIn] at hz;refine pwv [] 0 false ?_;refine ⟨fun _=>0,a1,rfl,⟨by simp only [wBs];omega,oM⟩,fun b dl=>?_⟩
  cases b with
  | false =>
   conv=>whnf
   exact h _ (by simp [Vc,dl])
  | true =>
  conv=>whnf
  refine ⟨fun _=>0,a2,rfl,⟨by simp only [wBs];omega,oM⟩,fun b fe=>?_⟩
  cases b with
  | false =>
   conv=>whnf
   exact h _ (by simp [Vc,dl,fe])
  | true =>
  conv=>whnf
  refine ⟨pl,a3,rfl,⟨rfl,oM,oM⟩,fun b gz=>wN ?_⟩;exact h _ (by simp [Vc,dl,fe,gz])
 exact h.elim
def ZEJ {n:Nat}:OKw w0 nG [(52,Xh ZlP Yx wBs n)] 63 (Xh (Y3 WH) VK wOv n):=by
 refine pwo Tryz.func63 fun args σ K h=>?_
 unfold Xh at h
 split at h
 ·obtain ⟨pl,⟨a1,a2⟩,rfl,⟨hz,hn⟩,h⟩:=h;simp only [wOv] at hz;refine pwv [] 0 false ?_;refine ⟨fun _=>0,a1,rfl,⟨by simp only [wBs];omega,oM⟩,fun b dl=>wN ?_⟩;exact h _ (by simp [VK,dl])
 exact h.elim
def ZEL {n:Nat}:OKw w0 nG [(52,Xh ZlP Yx wBs n),(108,X3 109 Z7 Yb wE n),(110,X3 111 XD YT wL n)] 56 (Xh (Y3 ZH) YQ wRu n):=by
 refine pwo Tryz.func56 fun args σ K h=>?_
 unfold Xh at h
 split at h
 ·obtain ⟨pl,⟨a1,a2,a3,a4⟩,rfl,⟨hz,hn⟩,h⟩:=h;simp only [wRu] at hz;refine pwv [] 0 false ?_;refine ⟨fun _=>0,a1,rfl,⟨by simp only [wBs];omega,oM⟩,fun b dl=>?_⟩
  cases b with
  | false =>
   conv=>whnf
   exact h _ (by simp [YQ,dl])
  | true =>
  conv=>whnf
  refine ⟨pl,a2,Zd _ _,⟨rfl,oM,oM⟩,fun b ic=>?_⟩
  cases b with
  | false =>
   conv=>whnf
   exact h _ (by simp [YQ,dl,ic])
  | true =>
  conv=>whnf
  refine ⟨pl,a3,Zp _ _,⟨rfl,oM,oM⟩,fun b gz=>wN ?_⟩;exact h _ (by simp [YQ,dl,ic,gz])
 exact h.elim
def ZEM {n:Nat}:OKw w0 nG [(166,ZDn),(52,Xh ZlP Yx wBs n),(167,ZaY),(108,spB (X3 109 Z7 Yb wE) n)] 109 (Xh (Y3 Z7) Yb wE n):=by
 refine pwo Tryz.func109 fun args σ K h=>?_
 unfold Xh at h
 split at h
 ·obtain ⟨pl,⟨a1,a2,a3,a4,a5⟩,rfl,⟨hz,hn⟩,h⟩:=h;simp only [wE,Zav] at hz;refine pwv [] 0 false ?_;have ir:(Zs pl a4).length=a4.length:=by rw [Zd,Tf]
  refine ⟨a1,rfl,fun l w a hl hw ha=>wN ?_⟩;refine ZJU (fun fp=>wN ?_) (fun fp=>wN ?_)
  ·have u7:=fp;have fp:a1=1:=oM;refine ZJU (fun _=>wN ?_) (fun hx=>absurd u7 hx);exact mq167
  refine ZJU (fun vb=>wN ?_) (fun vb=>wN ?_)
  ·have fp:a1=7:=by omega
   exact mq167
  have fp:¬a1=1:=oM;have vb:¬a1=7:=oM;refine ZJU (fun nk=>wN ?_) (fun nk=>wN ?_)
  ·have nk:a1=4:=by omega
   refine ⟨oM,fun hq=>wN ?_,fun q hq=>wN ?_⟩
   ·have me:WJ a1 a2=false:=by simp [WJ,nk,hq]
    exact mq6
   have me:WJ a1 a2=true:=by simp [WJ,nk,hq]
   exact mq4
  have nk:¬a1=4:=oM;have me:WJ a1 a2=decide (a2=[]):=by simp [WJ,fp,vb,nk]
  refine ZJU (fun h1=>?_) (fun h1=>?_);rotate_left
  ·exact mq197
  conv=>whnf
  refine ZJU (fun h2=>wN ?_) (fun h2=>wN ?_)
  ·refine ZJU (fun h3=>wN ?_) (fun h3=>wN ?_)
   ·refine ZJU (fun h4=>?_) (fun h4=>?_);rotate_left
    ·exact mq151
    rw [Sj h4] at me;(conv=>whnf);exact mq194
   refine ZJU (fun h5=>?_) (fun h5=>?_);rotate_left
   ·exact mq165
   have h5:a1=3:=oM;have i5:(decide (a3=0) || decide (a1=3))=true:=by simp [h5]
   conv=>whnf
   refine ZJU (fun h4=>?_) (fun h4=>?_);rotate_left
   ·exact mq151
   rw [Sj h4] at me;exact mq189
  refine ZJU (fun h6=>?_) (fun h6=>?_);rotate_left
  ·exact mq169
  have h6:(a4.length:Int)=a:=by rw [<- ir];exact h6
  conv=>whnf
  refine ZJU (fun h3=>wN ?_) (fun h3=>wN ?_)
  ·refine ZJU (fun h4=>?_) (fun h4=>?_);rotate_left
   ·exact mq151
   rw [Sj h4] at me;(conv=>whnf);exact mq193
  refine ZJU (fun h5=>?_) (fun h5=>?_);rotate_left
  ·exact mq165
  have h5:a1=3:=oM;have i5:(decide (a3=0) || decide (a1=3))=true:=by simp [h5]
  conv=>whnf
  refine ZJU (fun h4=>?_) (fun h4=>?_);rotate_left
  ·exact mq151
  rw [Sj h4] at me;exact mq188
 exact h.elim
def ZEN {n:Nat}:OKw w0 nG [(52,Xh ZlP Yx wBs n),(108,X3 109 Z7 Yb wE n),(110,spB (X3 111 XD YT wL) n)] 111 (Xh (Y3 XD) YT wL n):=by
 refine pwo Tryz.func111 fun args σ K h=>?_
 unfold Xh at h
 split at h
 ·obtain ⟨pl,⟨a1,a2,a3,a4,a5⟩,rfl,⟨hz,hn⟩,h⟩:=h;simp only [wL,JF] at hz;refine pwv [] 0 false ?_;have mb:(Zs pl a3).length=a3.length:=by rw [Zd,Tf]
  have ir:(XL pl a4).length=a4.length:=by rw [Zp,Tf]
  have sm:((0:Int)<((XL pl a4).length:Int))↔0<a4.length:=by rw [ir];omega
  refine ZJU (fun fp=>wN ?_) (fun fp=>wN ?_)
  ·have u7:=fp;have fp:a1=1:=oM;refine ZJU (fun _=>wN ?_) (fun hx=>absurd u7 hx);exact mq158
  refine ZJU (fun uy=>wN ?_) (fun uy=>wN ?_)
  ·have fp:a1=2:=by omega
   exact mq158
  have kc:¬(a1=1\/a1=2):=oM;refine ZJU (fun acw=>wN ?_) (fun acw=>wN ?_)
  ·refine ZJU (fun acx=>wN ?_) (fun acx=>wN ?_)
   ·have h38:3<=a1/\a1<=8:=by omega
    refine ZJU (fun hr=>?_) (fun hr=>?_);rotate_left
    ·have ko:Xk a1 a2 a3.length a4.length=false:=by simp [Xk,kc,h38,hr]
     conv=>whnf
     exact mq53
    conv=>whnf
    refine ZJU (fun hA=>?_) (fun hA=>?_);rotate_left
    ·have hA:¬a3.length=2:=fun g=>hA (by show ((Zs pl a3).length:Int)=2;rw [mb,g];rfl)
     have ko:Xk a1 a2 a3.length a4.length=false:=by simp [Xk,kc,h38,hA]
     conv=>whnf
     exact mq53
    have hA:a3.length=2:=by have hA:((Zs pl a3).length:Int)=2:=hA;rw [mb] at hA;omega
    conv=>whnf
    refine ZJX (fun hB=>wN ?_) (fun hB=>wN ?_)
    ·have hB:¬0<a4.length:=fun g=>hB (sm.2 g)
     have ko:Xk a1 a2 a3.length a4.length=true:=by simp only [Xk,kc,h38,hr,hA,decide_eq_false hB];simp
     exact mq8
    have hB:=sm.1 hB;have ko:Xk a1 a2 a3.length a4.length=false:=by simp [Xk,kc,h38,hr,hA,hB]
    exact mq53
   exact mq3
  exact mq3
 exact h.elim
end Go.PM.Lex
end

section
namespace Go.PM.Lex
open Go.Proofs
variable {w0:World} {nG:Nat}
def ZEP {n:Nat}:OKw w0 nG [(52,Xh ZlP Yx wBs n),(53,X3 54 (fun _=>Zn) YH wFi n),(99,X3 100 (fun _=>Zy) Xp wCa n)] 49 (Xh (Y3 Zv) Yl wTy n):=by
 refine pwo Tryz.func49 fun args σ K h=>?_
 unfold Xh at h
 split at h
 ·obtain ⟨pl,⟨a1,a2,a3,a4,a5,a6⟩,rfl,⟨hz,hn⟩,h⟩:=h;simp only [wTy] at hz;refine pwv [] 0 false ?_;have ir:(a4.map Zn).length=a4.length:=Tf ..;have vd:(a5.map Zy).length=a5.length:=Tf ..;have nd:(((a4.map Zn).length:Int)=0)↔a4.length=0:=by rw [ir];omega
  have wt:(((a5.map Zy).length:Int)=0)↔a5.length=0:=by rw [vd];omega
  refine ZJU (fun hk=>?_) (fun hk=>wN ?_)
  ·(try dsimp only at hk)
   have hk:a1=1:=oM;(conv=>whnf);refine ⟨fun _=>0,a3,rfl,⟨by simp only [wBs];omega,oM⟩,fun b ew=>?_⟩
   cases b with
   | false =>
    conv=>whnf
    have mf:Zdl (⟨a1,a2,a3,a4,a5,a6⟩:Ty)=false:=by simp [Zdl,hk,ew]
    conv=>whnf
    exact mq120
   | true =>
   conv=>whnf
   refine ZJU (fun h4=>wN ?_) (fun h4=>wN ?_)
   ·have h4:=nd.1 h4;refine ZJU (fun h5=>wN ?_) (fun h5=>wN ?_)
    ·have h5:=wt.1 h5;have mf:Zdl (⟨a1,a2,a3,a4,a5,a6⟩:Ty)=true:=by simp [Zdl,hk,ew,h4,h5]
     exact mq23
    have h5:¬a5.length=0:=fun g=>h5 (wt.2 g)
    have mf:Zdl (⟨a1,a2,a3,a4,a5,a6⟩:Ty)=false:=by simp [Zdl,hk,ew,h4,h5]
    exact mq120
   have h4:¬a4.length=0:=fun g=>h4 (nd.2 g)
   have mf:Zdl (⟨a1,a2,a3,a4,a5,a6⟩:Ty)=false:=by simp [Zdl,hk,ew,h4]
   exact mq120
  refine ZJU (fun bm=>?_) (fun bm=>wN ?_)
  ·(try dsimp only at bm)
   have bm:a1=2:=oM;(conv=>whnf);refine ZJU (fun ew=>?_) (fun ew=>?_);rotate_left
   ·have mf:Zdl (⟨a1,a2,a3,a4,a5,a6⟩:Ty)=false:=by simp [Zdl,bm,ew]
    conv=>whnf
    exact mq120
   (try dsimp only at ew)
   conv=>whnf
   refine ZJU (fun h5=>wN ?_) (fun h5=>wN ?_)
   ·have h5:=wt.1 h5;have mf:Zdl (⟨a1,a2,a3,a4,a5,a6⟩:Ty)=true:=by simp [Zdl,bm,ew,h5]
    exact mq23
   have h5:¬a5.length=0:=fun g=>h5 (wt.2 g)
   have mf:Zdl (⟨a1,a2,a3,a4,a5,a6⟩:Ty)=false:=by simp [Zdl,bm,ew,h5]
   exact mq120
  refine ZJU (fun gc=>?_) (fun gc=>?_)
  ·(try dsimp only at gc)
   have gc:a1=3:=oM;(conv=>whnf);refine ZJU (fun ew=>?_) (fun ew=>?_);rotate_left
   ·have mf:Zdl (⟨a1,a2,a3,a4,a5,a6⟩:Ty)=false:=by simp [Zdl,gc,ew]
    conv=>whnf
    exact mq120
   (try dsimp only at ew)
   conv=>whnf
   refine ZJU (fun h4=>wN ?_) (fun h4=>wN ?_)
   ·have h4:=nd.1 h4;refine ZJX (fun h5=>wN ?_) (fun h5=>wN ?_)
    ·have h5:¬a5.length=0:=fun g=>h5 (wt.2 g)
     have mf:Zdl (⟨a1,a2,a3,a4,a5,a6⟩:Ty)=true:=by simp [Zdl,gc,ew,h4,h5]
     exact mq23
    have h5:=wt.1 h5;have mf:Zdl (⟨a1,a2,a3,a4,a5,a6⟩:Ty)=false:=by simp [Zdl,gc,ew,h4,h5]
    exact mq120
   have h4:¬a4.length=0:=fun g=>h4 (nd.2 g)
   have mf:Zdl (⟨a1,a2,a3,a4,a5,a6⟩:Ty)=false:=by simp [Zdl,gc,ew,h4]
   exact mq120
  (try dsimp only at hk bm gc)
  have hk:¬a1=1:=oM;have bm:¬a1=2:=oM;have gc:¬a1=3:=oM;have mf:Zdl (⟨a1,a2,a3,a4,a5,a6⟩:Ty)=false:=by simp [Zdl,hk,bm,gc]
  conv=>whnf
  exact mq120
 exact h.elim
def ZER {n:Nat}:OKw w0 nG [(52,Xh ZlP Yx wBs n),(59,X3 52 (fun _=>YF) Yx wBs n),(23,Xh (Y3 WI) ZbN wUn n)] 58 (Xh (Y3 Wi) Yy wCo n):=by
 refine pwo Tryz.func58 fun args σ K h=>?_
 unfold Xh at h
 split at h
 ·obtain ⟨pl,⟨a1,a2,a3,a4,⟨u1,u2,u3,u4,u5,u6⟩,a6⟩,rfl,⟨hz,hn⟩,h⟩:=h;simp only [wCo] at hz;refine pwv [] 0 false ?_;have ir:(a4.map YF).length=a4.length:=Tf ..;have nd:(((a4.map YF).length:Int)=0)↔a4.length=0:=by rw [ir];omega
  refine ZJU (fun hb=>wN ?_) (fun hb=>wN ?_)
  ·refine ZJU (fun h4=>wN ?_) (fun h4=>wN ?_)
   ·have h4:=nd.1 h4;have lu:((decide (a3=[]) && decide (a4.length=0)) || Yx a3)=true:=by simp [hb,h4]
    exact mq14
   have h4:¬a4.length=0:=fun g=>h4 (nd.2 g)
   refine ⟨fun _=>0,a3,rfl,⟨by simp only [wBs];omega,oM⟩,fun b ew=>?_⟩
   cases b with
   | false =>
    have lu:((decide (a3=[]) && decide (a4.length=0)) || Yx a3)=false:=by simp [h4,ew]
    exact mq39
   | true =>
   have lu:((decide (a3=[]) && decide (a4.length=0)) || Yx a3)=true:=by simp [h4,ew]
   conv=>whnf
   exact mq14
  refine ⟨fun _=>0,a3,rfl,⟨by simp only [wBs];omega,oM⟩,fun b ew=>?_⟩
  cases b with
  | false =>
   have lu:((decide (a3=[]) && decide (a4.length=0)) || Yx a3)=false:=by simp [hb,ew]
   exact mq39
  | true =>
  have lu:((decide (a3=[]) && decide (a4.length=0)) || Yx a3)=true:=by simp [hb,ew]
  conv=>whnf
  exact mq14
 exact h.elim
def Zyl {n:Nat}:OKw w0 nG [(48,X3 49 Zv Yl wTy n),(50,X3 51 ZO Xx wRe n),(55,X3 56 ZH YQ wRu n),(57,spB (X3 58 Wi Yy wCo) n),(60,X3 61 WG Vc wIn n),(62,X3 63 WH VK wOv n)] 23 (Xh (Y3 WI) ZbN wUn n):=by
 refine pwo Tryz.func23 fun args σ K h=>?_
 unfold Xh at h
 split at h
 ·obtain ⟨pl,⟨a1,a2,a3,a4,a5,a6⟩,rfl,⟨hz,hn⟩,h⟩:=h;simp only [wUn,UR] at hz;refine pwv [] 0 false ?_;refine ⟨pl,a1,rfl,⟨rfl,oM,oM⟩,fun b lp=>?_⟩
  cases b with
  | false =>
   conv=>whnf
   exact h _ (by simp [ZbN,Vd,lp])
  | true =>
  conv=>whnf
  refine ⟨pl,a2,rfl,⟨rfl,oM,oM⟩,fun b ic=>?_⟩
  cases b with
  | false =>
   conv=>whnf
   exact h _ (by simp [ZbN,Vd,lp,ic])
  | true =>
  conv=>whnf
  refine ⟨pl,a3,rfl,⟨rfl,oM,oM⟩,fun b gz=>?_⟩
  cases b with
  | false =>
   conv=>whnf
   exact h _ (by simp [ZbN,Vd,lp,ic,gz])
  | true =>
  conv=>whnf
  refine ⟨oM,pl,a4,Xo _ _,⟨rfl,oM,oM⟩,fun b ha3=>?_⟩
  cases b with
  | false =>
   conv=>whnf
   exact h _ (by simp [ZbN,Vd,lp,ic,gz,ha3])
  | true =>
  conv=>whnf
  refine ⟨pl,a5,rfl,⟨rfl,oM,oM⟩,fun b wu=>?_⟩
  cases b with
  | false =>
   conv=>whnf
   exact h _ (by simp [ZbN,Vd,lp,ic,gz,ha3,wu])
  | true =>
  conv=>whnf
  refine ⟨pl,a6,rfl,⟨rfl,oM,oM⟩,fun b ha5=>wN ?_⟩;exact h _ (by simp [ZbN,Vd,lp,ic,gz,ha3,wu,ha5])
 exact h.elim
structure LexC (w0:World) (nG:Nat):Prop where
 name:PC w0 nG 103 ZiJ
 quote:PC w0 nG 167 ZaY
variable (hL:LexC w0 nG)
include hL
def ZqF (n:Nat):PC w0 nG 52 (Xh ZlP Yx wBs n):=ZEz ⟨hL.name,Zmz,trivial⟩
def cHE:∀n,PC w0 nG 109 (Xh (Y3 Z7) Yb wE n)
 | 0=>ZEM ⟨Zwp,ZqF hL _,hL.quote,ZV (Zg Tryz.func108 kR rfl),trivial⟩
 | n+1=>ZEM ⟨Zwp,ZqF hL _,hL.quote,ZW (sp:=X3 109 Z7 Yb wE) (ZGQ (cHE n)),trivial⟩
def cHL:∀n,PC w0 nG 111 (Xh (Y3 XD) YT wL n)
 | 0=>ZEN ⟨ZqF hL _,ZGQ (cHE hL 0),ZV (Zg Tryz.func110 kR rfl),trivial⟩
 | n+1=>ZEN ⟨ZqF hL _,ZGQ (cHE hL _),ZW (sp:=X3 111 XD YT wL) (ZIH (cHL n)),trivial⟩
def ZII (n:Nat):PC w0 nG 56 (Xh (Y3 ZH) YQ wRu n):=ZEL ⟨ZqF hL _,ZGQ (cHE hL _),ZIH (cHL hL _),trivial⟩
def ZHI (n:Nat):PC w0 nG 53 (X3 54 (fun _=>Zn) YH wFi n):=ZHC (ZEB ⟨ZqF hL _,trivial⟩)
def ZIJ (n:Nat):PC w0 nG 49 (Xh (Y3 Zv) Yl wTy n):=ZEP ⟨ZqF hL _,ZHI hL n,ZHD (ZED ⟨ZqF hL _,ZHI hL n,trivial⟩),trivial⟩
def ZIK (n:Nat):PC w0 nG 51 (Xh (Y3 ZO) Xx wRe n):=ZEF ⟨ZqF hL _,ZHI hL n,trivial⟩
def ZIL (n:Nat):PC w0 nG 59 (X3 52 (fun _=>YF) Yx wBs n):=ZHF (ZqF hL n)
def ZIM (n:Nat):PC w0 nG 61 (Xh (Y3 WG) Vc wIn n):=ZEH ⟨ZqF hL _,ZIL hL n,trivial⟩
def ZIN (n:Nat):PC w0 nG 63 (Xh (Y3 WH) VK wOv n):=ZEJ ⟨ZqF hL _,trivial⟩
def ZIO:∀n,PC w0 nG 23 (Xh (Y3 WI) ZbN wUn n)
 | 0=>Zyl ⟨ZEu (ZIJ hL _),ZEv (ZIK hL _),ZEt (ZII hL _),ZV (Zg Tryz.func57 kR rfl),ZEw (ZIM hL _),ZEx (ZIN hL _),trivial⟩
 | n+1=>Zyl ⟨ZEu (ZIJ hL _),ZEv (ZIK hL _),ZEt (ZII hL _),ZW (sp:=X3 58 Wi Yy wCo) (ZHE (ZER ⟨ZqF hL _,ZIL hL _,ZIO n,trivial⟩)),ZEw (ZIM hL _),ZEx (ZIN hL _),trivial⟩
end Go.PM.Lex
end

section
namespace Go.PM.Lex
open Go.Proofs Go.Shelf Go.RowKit
variable {w0:World} {nG:Nat}
def ZHJ:liesAt Tryz.prog Tryz.prog.depth 88 (2 / Tryz.prog.cellsOf 88) 0 86 1=true:=kR
def ZmS (b:Nat) (w:World) (h0:w.cell? ⟨b,0,none⟩=some (.pointer none)) (kl:w.shape? b=some (88,2)) (kg:w.frozen? ⟨b,0,none⟩=false) :
  Calls Tryz.prog 173 #[.pointer (some ⟨b,0,none⟩)] w fun e w'=>e=.returned (.tuple #[])/\w'=w.setCell ⟨b,0,none⟩ (.pointer (some ⟨b,0,none⟩)):=by
 obtain ⟨j,hj,s4⟩:=i53
 go_enter Tryz.func173,Tryz.ntmps173
 go_wp2
 rw [Go.Lib.run_to_unsafe w ⟨b,0,none⟩ u50 u95 hj (by rw [s4];decide) kl (Nat.zero_lt_succ 1)];simp only [Result.andThen];rw [Oper.upon_value]
 go_wp2
 rw [run_callFunc_extern Tryz.func208 kR kR kR (e:=Extern.AbiNoEscape.same) kR];rw [Go.Lib.run_noEscape];simp only [Result.andThen];rw [Oper.upon_value]
 go_wp2
 rw [Go.Lib.run_from_unsafe w ⟨b,0,none⟩ u95 u50 hj kl ZHJ];simp only [Result.andThen];rw [Oper.upon_value]
 go_wp2
 go_end0
 exact ⟨rfl,rfl⟩
def JG:Zq:=fun args σ K=>match args,σ with
 | [.ptr 0 0],⟨[.cells t [p,q]],tk,nx⟩=>((p=.d .nilp\/p=.ptr 0 0)/\t=88)/\K (.ret (.tuple [])) ⟨[.cells t [.ptr 0 0,q]],tk,nx⟩
 | _,_=>False
def ZiK:PC w0 nG 173 JG:=UH (Zg Tryz.func173 kR rfl) fun args σ K h e w vs hS ha=>by
 unfold JG at h
 split at h
 ·rename_i t p q tk nx
  obtain ⟨⟨hp,rfl⟩,hK⟩:=h;obtain ⟨u,rfl,hu⟩:=Zke ha;obtain ⟨cv,dg,bw,j8⟩:=hS.box 0 _ rfl;have dk:cv.size=2:=bw;obtain ⟨x0,ji⟩:∃x,cv[0]?=some x:=⟨cv[0]'oM,by simp [dk]⟩
  have lv:=(j8 0 p x0 rfl ji).1
  cases hu with
  | ptr b off hb =>
  refine ⟨_,_,.tuple #[],hK,?_⟩;rcases hp with rfl | rfl
  ·cases lv with
   | d _ _ hd =>
   cases hd
   refine Calls.mono (ZmS (e.β 0) w ?_ ?_ ?_) fun en w' ⟨h1,h2⟩=>?_
   ·simp [World.cell?,dg,ji]
   ·simp only [World.shape?,dg,dk]
   ·simp [World.frozen?,dg]
   have hst:=ZeV (G:=GG w0 nG) (T:=ZaM) ZR hS (t:=83) (b:=0) (off:=0) (x:=.ptr 0 0) (v:=.pointer (some ⟨e.β 0,0,none⟩)) (l:=[.ptr 0 0]) (cs:=[.d .nilp,q]) (ty:=88) rfl (.ptr 0 0 hb) rfl rfl sM (by intro h;cases h);rw [h2];exact ⟨h1,.tuple [] #[] rfl (fun i x u hx=>by simp at hx),hst.2,hst.1.toLater⟩
  exact mq84
 exact h.elim
def ZqG {ty:TypeId} {P:Program} {ρ:Ren} (L:Lays.n169 P ρ) (X:Builder.Extra P ρ) (b g cap:Nat) (p:Value) (cur:Array Value) (fz:Nat×Nat) (l:Bs) (w:World) (h0:l≠[])
  (pr:w.heap[b]?=some (.cells #[p,.slice (some ⟨g,0,none⟩) l.length cap] ty (0,0))) (hg:w.heap[g]?=some (.cells cur (ρ.t 5) fz)) (hn:l.length<=cur.size) (hcap:cap≠0) (cy:l.length<=9223372036854775807)
  (bf:∀j x,l[j]?=some x->w.cell? ⟨g,j,none⟩=some (.int .u8 x.toNat)) :
  Calls P (ρ.f 169) #[.pointer (some ⟨b,0,none⟩)] w fun e w'=>e=.returned (.string ⟨l.toArray⟩)/\w'=w.drew.freeze ⟨g,0,none⟩ l.length:=by
 have c1:w.drew.cell? ⟨b,1,none⟩=some (.slice (some ⟨g,0,none⟩) l.length cap):=by
  have:w.drew.heap[b]?=some (.cells #[p,.slice (some ⟨g,0,none⟩) l.length cap] ty (0,0)):=pr;rw [Go.Lib.cell_of_heap this];rfl
 have hSD:(Builtin.unsafeSliceData_ #[(ρ.t 37)] (ρ.t 127) #[.slice (some ⟨g,0,none⟩) l.length cap]).run P w.drew=.ok (.pointer (some ⟨g,0,none⟩)) w.drew :=
  Go.Lib.run_unsafeSliceData_row _ _ _ _ _ _ hcap
 have hUS:(Builtin.unsafeString_ #[(ρ.t 127),(ρ.t 3)] (ρ.t 9) #[.pointer (some ⟨g,0,none⟩),.int .i64 l.length]).run P w.drew=.ok (.string ⟨l.toArray⟩) (w.drew.freeze ⟨g,0,none⟩ l.length):=by
  exact mq67
 have mixed:=L.mixed;have t72:=L.t72;have a72:=L.a72;have z72:=L.z72;have v72:=L.v72;have u72:=run_underlying L.t72;have t70:=L.t70;have a70:=L.a70;have z70:=L.z70;have v70:=L.v70;have u70:=run_underlying L.t70;have t37:=L.t37;have a37:=L.a37;have z37:=L.z37;have v37:=L.v37;have u37:=run_underlying L.t37;have t127:=L.t127;have a127:=L.a127;have z127:=L.z127;have v127:=L.v127;have u127:=run_underlying L.t127;have t3:=L.t3;have a3:=L.a3;have z3:=L.z3;have v3:=L.v3;have u3:=run_underlying L.t3;have t9:=L.t9;have a9:=L.a9;have z9:=L.z9;have v9:=L.v9;have u9:=run_underlying L.t9;have t5:=X.t5;have a5:=X.a5;have z5:=X.z5;have v5:=X.v5;have u5:=run_underlying X.t5
 go_enter L.f169,Body.n169_ntmps ρ
 go_wp2
 go_region_o
 all_goals (go_wp2;go_ret;exact ⟨rfl,rfl⟩)
def Zwq {ty:TypeId} {P:Program} {ρ:Ren} (L:Lays.n169 P ρ) (X:Builder.Extra P ρ) (B b:Nat) (p:Value) (w:World) (pr:w.heap[b]?=some (.cells #[p,.slice none 0 0] ty (0,0))) :
  Calls P (ρ.f 169) #[.pointer (some ⟨b,0,none⟩)] w fun e w'=>e=.returned (.string ⟨#[]⟩)/\Below B w w':=by
 have hUS:=Any.unsafeString_none L X;have c1:w.drew.cell? ⟨b,1,none⟩=some (.slice none 0 0):=by
  have:w.drew.heap[b]?=some (.cells #[p,.slice none 0 0] ty (0,0)):=pr;rw [Lib.cell_of_heap this];rfl
 have hSD:(Builtin.unsafeSliceData_ #[(ρ.t 37)] (ρ.t 127) #[.slice none 0 0]).run P w.drew=.ok (.pointer none) w.drew:=rfl;have mixed:=L.mixed;have t72:=L.t72;have a72:=L.a72;have z72:=L.z72;have v72:=L.v72;have u72:=run_underlying L.t72;have t70:=L.t70;have a70:=L.a70;have z70:=L.z70;have v70:=L.v70;have u70:=run_underlying L.t70;have t37:=L.t37;have a37:=L.a37;have z37:=L.z37;have v37:=L.v37;have u37:=run_underlying L.t37;have t127:=L.t127;have a127:=L.a127;have z127:=L.z127;have v127:=L.v127;have u127:=run_underlying L.t127;have t3:=L.t3;have a3:=L.a3;have z3:=L.z3;have v3:=L.v3;have u3:=run_underlying L.t3;have t9:=L.t9;have a9:=L.a9;have z9:=L.z9;have v9:=L.v9;have u9:=run_underlying L.t9;have t5:=X.t5;have a5:=X.a5;have z5:=X.z5;have v5:=X.v5;have u5:=run_underlying X.t5
 go_enter L.f169,Body.n169_ntmps ρ
 go_wp2
 go_region_o
 all_goals (go_wp2;go_ret;exact ⟨rfl,Below.drew (Below.refl B w)⟩)
def Ztr {ty:TypeId} {P:Program} {ρ:Ren} (L:Lays.n169 P ρ) (X:Builder.Extra P ρ) (B b g cap:Nat) (p:Value) (w:World) (jg:cap≠0) (pr:w.heap[b]?=some (.cells #[p,.slice (some ⟨g,0,none⟩) 0 cap] ty (0,0))) :
  Calls P (ρ.f 169) #[.pointer (some ⟨b,0,none⟩)] w fun e w'=>e=.returned (.string ⟨#[]⟩)/\Below B w w':=by
 have hUS:=Any.unsafeString_none L X;have c1:w.drew.cell? ⟨b,1,none⟩=some (.slice (some ⟨g,0,none⟩) 0 cap):=by
  have:w.drew.heap[b]?=some (.cells #[p,.slice (some ⟨g,0,none⟩) 0 cap] ty (0,0)):=pr;rw [Lib.cell_of_heap this];rfl
 have hSD:(Builtin.unsafeSliceData_ #[(ρ.t 37)] (ρ.t 127) #[.slice (some ⟨g,0,none⟩) 0 cap]).run P w.drew=.ok (.pointer (some ⟨g,0,none⟩)) w.drew:=Go.Lib.run_unsafeSliceData_row _ _ _ _ _ _ jg
 clear jg
 have mixed:=L.mixed;have t72:=L.t72;have a72:=L.a72;have z72:=L.z72;have v72:=L.v72;have u72:=run_underlying L.t72;have t70:=L.t70;have a70:=L.a70;have z70:=L.z70;have v70:=L.v70;have u70:=run_underlying L.t70;have t37:=L.t37;have a37:=L.a37;have z37:=L.z37;have v37:=L.v37;have u37:=run_underlying L.t37;have t127:=L.t127;have a127:=L.a127;have z127:=L.z127;have v127:=L.v127;have u127:=run_underlying L.t127;have t3:=L.t3;have a3:=L.a3;have z3:=L.z3;have v3:=L.v3;have u3:=run_underlying L.t3;have t9:=L.t9;have a9:=L.a9;have z9:=L.z9;have v9:=L.v9;have u9:=run_underlying L.t9;have t5:=X.t5;have a5:=X.a5;have z5:=X.z5;have v5:=X.v5;have u5:=run_underlying X.t5
 go_enter L.f169,Body.n169_ntmps ρ
 go_wp2
 go_region_o
 all_goals (go_wp2;go_ret;exact ⟨rfl,Below.drew (Below.refl B w)⟩)
end Go.PM.Lex
end

section
namespace Go.PM.Lex
open Go.Proofs
variable {w0:World} {nG:Nat}
def wk {rows:List (List D)} {p:PV} {t t1 e e1:Nat} {B:Bs->Prop} {F:Bs->Bs->Prop} (l txt:Bs) (b:B txt) (k:F l txt) (h1:rows=Zi l:=by rfl) (h2:p=.d .nilp\/p=.ptr 0 0:=by first | exact .inl rfl | exact .inr rfl) (h3:t=t1:=by rfl) (h4:e=e1:=by rfl) (h5:l.length+txt.length<70368744177664:=by (try simp only [Ta,Te,Th]);omega):∃l txt,rows=Zi l/\((p=.d .nilp\/p=.ptr 0 0)/\t=t1/\e=e1)/\B txt/\l.length+txt.length<70368744177664/\F l txt:=⟨l,txt,h1,⟨h2,h3,h4⟩,b,h5,k⟩
def ZlQ (r:PV) (body:List PV->Bs->Prop):Zq:=fun args σ K=>match args,σ with
 | .ptr 0 0::rest,⟨[.cells t [p,.sl 0 e rows]],[0],1⟩=>∃l txt,rows=Zi l/\((p=.d .nilp\/p=.ptr 0 0)/\t=88/\e=5)/\body rest txt/\l.length+txt.length<70368744177664 /\
   K (.ret r) ⟨[.cells t [.ptr 0 0,.sl 0 e (Zi (l++txt))]],[0],1⟩
 | _,_=>False
def ZbO (r:PV) (body:List PV->Bs->Prop):ZL (ZlQ r body):=fun args σ K K' hK h=>by
 unfold ZlQ at h |-
 split at h
 ·obtain ⟨l,txt,h1,h2,h3,h4,h5⟩:=h;exact ⟨l,txt,h1,h2,h3,h4,hK _ _ h5⟩
 exact h.elim
def ZiL {α:Type} (val:Pl->α->PV) (may:α->Bool) (txt:α->Bs) (w:α->Nat) (n:Nat):Zq:=fun args σ K=>match args,σ with
 | [v,.ptr 0 0],⟨[.cells tp [.ptr 1 0],.cells t [.ptr 1 0,.sl 0 e rows]],[0],1⟩=>∃l pl x,rows=Zi l/\v=val pl x/\(t=88/\e=5)/\(may x=true/\w x<=n/\n<=1073741824)/\l.length+(txt x).length<70368744177664 /\
   K (.ret (.tuple [])) ⟨[.cells tp [.ptr 1 0],.cells t [.ptr 1 0,.sl 0 e (Zi (l++txt x))]],[0],1⟩
 | _,_=>False
def Zts {α:Type} (g0:FuncId) (enc:Pl->α->List D) (may:α->Bool) (txt:α->Bs) (w:α->Nat) (n:Nat):Zq:=fun args σ K=>match args,σ with
 | [.ptr 0 0,.d (.sl r),.d (.str bt),.func g [] [.ptr 1 0]],⟨[.cells t [.ptr 0 0,.sl 0 e rows],.cells tp [.ptr 0 0]],[0],1⟩=>∃l pl xs,rows=Zi l/\r=xs.map (enc pl)/\(t=88/\e=5/\g=g0)/\(xs.all may=true/\szS w xs<=n/\n<=1073741824)/\l.length+(Zf bt (xs.map txt)).length<70368744177664 /\
   K (.ret (.tuple [])) ⟨[.cells t [.ptr 0 0,.sl 0 e (Zi (l++Zf bt (xs.map txt)))],.cells tp [.ptr 0 0]],[0],1⟩
 | _,_=>False
def ZIP (s:Bs):Zq:=ZlQ (.tuple [.d (.int .i64 s.length),.d .nili]) fun rest txt=>rest=[.d (.str s)]/\txt=s
def ZiM:Zq:=fun args σ K=>match args with
 | [.ptr 0 0,.d (.str s)]=>ZIP s args σ K
 | _=>False
def ZqH:ZL ZiM:=fun args σ K K' hK h=>by
 unfold ZiM at h |-
 split at h
 ·exact ZbO _ _ _ _ _ _ hK h
 exact h.elim
def ZET:Tbl:=[(173,JG)]
def Ztt:PC w0 nG 119 ZiM:=by
 refine pwt (tbl:=ZET) ⟨ZiK,trivial⟩ Tryz.func119 fun args σ K h=>?_
 unfold ZiM at h
 split at h
 ·rename_i s
  unfold ZIP ZlQ at h
  split at h
  ·rename_i rest t p e rows ah
   obtain ⟨l,txt,rfl,⟨hp,rfl,rfl⟩,⟨au,rfl⟩,aa,h⟩:=h;simp only [List.cons.injEq,true_and] at ah;have hb:∀x:Bs,(Zi x).length=x.length:=fun x=>by simp [Zi]
   rw [V7] at h;refine pwu [] 1 true ?_;rcases hp with rfl | rfl
   all_goals
    conv=>whnf
    first | refine ⟨⟨.inl rfl,rfl⟩,?_⟩ | refine ⟨⟨.inr rfl,rfl⟩,?_⟩
    conv=>whnf
    refine ⟨fun r hr=>?_,?_,?_,?_⟩
    ·obtain ⟨b,_,rfl⟩:=Sh.1 hr;rfl
    ·show ((Zi l).length+(Zi txt).length) * 1<=2 ^ 47;rw [hb,hb];omega
    ·show (Zi l).length+(Zi txt).length<=2 ^ 47;rw [hb,hb];omega
    exact mq52
  exact h.elim
 exact h.elim
def Zgy:Zq:=ZlQ (.tuple []) fun rest txt=>∃ps:List Bs,rest=[.d (.sl (ps.map YF))]/\ps≠[]/\ps.length<=1073741824/\txt=ps.flatten
def ZqI:ZL Zgy:=ZbO _ _
def Ztu:Tbl:=[(119,ZiM)]
def ZkM:TO w0 nG Ztu:=⟨Ztt,trivial⟩
def ZbP:PC w0 nG 64 Zgy:=by
 refine pwt (tbl:=Ztu) ZkM Tryz.func64 fun args σ K h=>?_
 unfold Zgy ZlQ at h
 split at h
 ·rename_i rest t p e rows
  obtain ⟨l,txt,rfl,⟨hp,rfl,rfl⟩,⟨ps,rfl,aj,jr,rfl⟩,aa,h⟩:=h;have du:(ps.map YF).length=ps.length:=Tf ..;refine pwu [(1,⟨[8],[0,6,7],fun vs σ=>∃(i:Nat) (P:PV),vs=[.d (.int .i64 i)]/\σ=⟨[.cells 88 [P,.sl 0 5 (Zi (l++(ps.take i).flatten))]],[0],1⟩/\(P=.d .nilp\/P=.ptr 0 0)/\(0<i->P=.ptr 0 0)/\i<=ps.length,mu1 ps.length⟩)] 1 true ?_;rcases hp with rfl | rfl
  all_goals
   conv=>whnf
   refine ⟨⟨0,_,rfl,(by simp only [Sr,SP,TL];rfl),iM,fun g=>absurd g oM,oM⟩,?_⟩;intro vs σ hI
   obtain ⟨i,P,rfl,rfl,hP,hP0,hi⟩:=hI;(conv=>whnf);refine ZJU (fun af=>?_) (fun af=>?_)
   ·have af:i<ps.length:=lzI du af;obtain ⟨s,hs⟩:∃s,ps[i]=s:=⟨_,rfl⟩
    have bj:(ps.map YF)[((i:Nat):Int).toNat]?=some (YF s):=by simp [af,hs]
    have cp:(ps.take (i+1)).flatten=(ps.take i).flatten++s:=by rw [List.take_succ_eq_append_getElem af,List.flatten_append,hs];simp
    have am:(ps.take (i+1)).flatten.length<=ps.flatten.length:=by
     have e:ps.flatten=(ps.take (i+1)).flatten++(ps.drop (i+1)).flatten:=by rw [<- List.flatten_append,SF]
     rw [e,Ta];omega
    rw [cp,Ta] at am;rcases hP with rfl | rfl
    all_goals
     conv=>whnf
     refine ⟨_,oM,bj,wN ?_⟩;refine ⟨l++(ps.take i).flatten,s,rfl,⟨iM,rfl,rfl⟩,⟨rfl,rfl⟩,by rw [Ta];omega,?_⟩;(conv=>whnf);refine Zl ?_;refine ⟨⟨i+1,_,rfl,(by rw [cp,Tj];rfl),.inr rfl,fun _=>rfl,oM⟩,?_⟩;exact lzM oM
   have af:i=ps.length:=lzE du oM af;subst af;obtain rfl:=hP0 (Sf.2 aj);rw [Sp];exact mq52
 exact h.elim
def Zfo (bt:Bs):∀(l:List Bs) (x:Bs),Zf bt (l++[x])=if l=[] then x else Zf bt l++(bt++x)
 | [],x=>rfl
 | [y],x=>by simp [Zf]
 | y::z::l,x=>by
  have ih:=Zfo bt (z::l) x;simp only [Tp] at ih |-;rw [Zf,ih] <;> simp [Zf]
def US {α:Type} (bt:Bs) (f:α->Bs) {xs:List α} {i:Nat} (h:i<xs.length):Zf bt ((xs.take (i+1)).map f)=if i=0 then f xs[i] else Zf bt ((xs.take i).map f)++(bt++f xs[i]):=by
 rw [List.take_succ_eq_append_getElem h,Su,Tz,TN,Zfo];have e:((xs.take i).map f=[])↔i=0:=by
  rw [<- Sq,Tf,SO];omega
 by_cases h0:i=0
 ·rw [Tg (e.2 h0),Tg h0]
 rw [Tb (fun g=>h0 (e.1 g)),Tb h0]
def ZbQ (bt:Bs):∀(l m:List Bs),(Zf bt l).length<=(Zf bt (l++m)).length
 | [],m=>Sl _
 | [x],[]=>Tw _
 | [x],y::m=>by simp only [Tp,Tu,Zf,Ta];omega
 | x::y::l,m=>by
  have ih:=ZbQ bt (y::l) m;simp only [Tp,Zf,Ta] at ih |-;omega
def ZbR {α:Type} (bt:Bs) (f:α->Bs) (xs:List α) (i:Nat):(Zf bt ((xs.take i).map f)).length<=(Zf bt (xs.map f)).length:=by
 have h:=ZbQ bt ((xs.take i).map f) ((xs.drop i).map f)
 rwa [<- Su,SF] at h
def ZBm {n:Nat}:OKw w0 nG [(119,ZiM),(121,ZiL (Y3 (fun _=>Zn)) YH fiT wFi n)] 120 (Zts 121 (fun _=>Zn) YH fiT wFi n):=by
 refine pwo Tryz.func120 fun args σ K h=>?_
 unfold Zts at h
 split at h
 ·rename_i r bt g t e rows tp
  obtain ⟨l,pl,xs,rfl,rfl,⟨rfl,rfl,rfl⟩,⟨bv,hz,hn⟩,aa,h⟩:=h;have du:(xs.map ((fun _=>Zn) pl)).length=xs.length:=Tf ..;have hsz:=Zo wFi xs;refine pwv [(1,⟨[12],[0,1,2,3,10,11],fun vs σ=>∃i:Nat,vs=[.d (.int .i64 i)]/\σ=⟨[.cells 88 [.ptr 0 0,.sl 0 5 (Zi (l++Zf bt ((xs.take i).map fiT)))],.cells tp [.ptr 0 0]],[0],1⟩/\i<=xs.length,mu1 xs.length⟩)] 2 true ?_;refine ⟨⟨0,rfl,(by simp only [Sr,TN,Zf,TL];rfl),oM⟩,?_⟩;intro vs σ hI
  obtain ⟨i,rfl,rfl,hi⟩:=hI;(conv=>whnf);refine ZJU (fun af=>wN ?_) (fun af=>?_)
  ·have af:i<xs.length:=lzI du af;have hg:=Zu wFi xs i af;have iu:YH xs[i]=true:=To.1 bv _ (TM af);have cp:=US bt fiT af;have am:=ZbR bt fiT xs (i+1);obtain ⟨eA,hA⟩:∃x,xs[i]=x:=⟨_,rfl⟩
   obtain ⟨a1,a2⟩:=eA;rw [hA] at hg iu cp;have bj:(xs.map ((fun _=>Zn) pl))[((i:Nat):Int).toNat]?=some ((fun _=>Zn) pl ⟨a1,a2⟩):=by simp [af,hA]
   refine ⟨_,oM,bj,wN ?_⟩;refine ZJU (fun h0=>wN ?_) (fun h0=>?_)
   ·have h0:0<i:=by omega
    rw [Tb oM] at cp;rw [cp] at am;simp only [Ta] at am;refine wk _ bt ⟨rfl,rfl⟩ (wN ?_);refine ⟨l++Zf bt ((xs.take i).map fiT)++bt,pl,⟨a1,a2⟩,rfl,rfl,⟨rfl,rfl⟩,⟨iu,oM,oM⟩,by simp only [Ta];omega,wN ?_⟩;exact mq69
   obtain rfl:i=0:=by omega
   rw [Tg rfl] at cp;rw [cp] at am;(conv=>whnf);refine ⟨l++Zf bt ((xs.take 0).map fiT),pl,⟨a1,a2⟩,rfl,rfl,⟨rfl,rfl⟩,⟨iu,oM,oM⟩,by simp only [Sr,TN,Zf,Ta,Th];omega,wN ?_⟩;exact mq65
  exact mq176
 exact h.elim
def ZBo {n:Nat}:OKw w0 nG [(119,ZiM),(67,ZiL (Y3 (fun _=>Zy)) Xp caT wCa n)] 66 (Zts 67 (fun _=>Zy) Xp caT wCa n):=by
 refine pwo Tryz.func66 fun args σ K h=>?_
 unfold Zts at h
 split at h
 ·rename_i r bt g t e rows tp
  obtain ⟨l,pl,xs,rfl,rfl,⟨rfl,rfl,rfl⟩,⟨bv,hz,hn⟩,aa,h⟩:=h;have du:(xs.map ((fun _=>Zy) pl)).length=xs.length:=Tf ..;have hsz:=Zo wCa xs;refine pwv [(1,⟨[12],[0,1,2,3,10,11],fun vs σ=>∃i:Nat,vs=[.d (.int .i64 i)]/\σ=⟨[.cells 88 [.ptr 0 0,.sl 0 5 (Zi (l++Zf bt ((xs.take i).map caT)))],.cells tp [.ptr 0 0]],[0],1⟩/\i<=xs.length,mu1 xs.length⟩)] 2 true ?_;refine ⟨⟨0,rfl,(by simp only [Sr,TN,Zf,TL];rfl),oM⟩,?_⟩;intro vs σ hI
  obtain ⟨i,rfl,rfl,hi⟩:=hI;(conv=>whnf);refine ZJU (fun af=>wN ?_) (fun af=>?_)
  ·have af:i<xs.length:=lzI du af;have hg:=Zu wCa xs i af;have iu:Xp xs[i]=true:=To.1 bv _ (TM af);have cp:=US bt caT af;have am:=ZbR bt caT xs (i+1);obtain ⟨eA,hA⟩:∃x,xs[i]=x:=⟨_,rfl⟩
   obtain ⟨a1,a2⟩:=eA;rw [hA] at hg iu cp;have bj:(xs.map ((fun _=>Zy) pl))[((i:Nat):Int).toNat]?=some ((fun _=>Zy) pl ⟨a1,a2⟩):=by simp [af,hA]
   refine ⟨_,oM,bj,wN ?_⟩;refine ZJU (fun h0=>wN ?_) (fun h0=>?_)
   ·have h0:0<i:=by omega
    rw [Tb oM] at cp;rw [cp] at am;simp only [Ta] at am;refine wk _ bt ⟨rfl,rfl⟩ (wN ?_);refine ⟨l++Zf bt ((xs.take i).map caT)++bt,pl,⟨a1,a2⟩,rfl,rfl,⟨rfl,rfl⟩,⟨iu,oM,oM⟩,by simp only [Ta];omega,wN ?_⟩;exact mq69
   obtain rfl:i=0:=by omega
   rw [Tg rfl] at cp;rw [cp] at am;(conv=>whnf);refine ⟨l++Zf bt ((xs.take 0).map caT),pl,⟨a1,a2⟩,rfl,rfl,⟨rfl,rfl⟩,⟨iu,oM,oM⟩,by simp only [Sr,TN,Zf,Ta,Th];omega,wN ?_⟩;exact mq65
  exact mq176
 exact h.elim
def ZHK:Tab:=(.node (.node (.node (.node .leaf 3 ⟨1,8,.int .i64,[.d (.int .i64 (0))],true⟩ .leaf) 4 ⟨1,1,.bool,[.d (.bool false)],false⟩ .leaf) 5 ⟨1,1,.int .u8,[.d (.int .u8 (0))],true⟩ (.node .leaf 9 ⟨1,16,.string,[.d (.str [])],false⟩ .leaf)) 27 ⟨1,8,.int .u64,[.d (.int .u64 (0))],true⟩ (.node (.node .leaf 84 ⟨1,24,.slice 5,[.nils 5],false⟩ .leaf) 282 ⟨1,8,.int .u64,[.d (.int .u64 (0))],true⟩ (.node .leaf 322 ⟨65,65,.array 65 5,[.d (.int .u8 (0)),.d (.int .u8 (0)),.d (.int .u8 (0)),.d (.int .u8 (0)),.d (.int .u8 (0)),.d (.int .u8 (0)),.d (.int .u8 (0)),.d (.int .u8 (0)),.d (.int .u8 (0)),.d (.int .u8 (0)),.d (.int .u8 (0)),.d (.int .u8 (0)),.d (.int .u8 (0)),.d (.int .u8 (0)),.d (.int .u8 (0)),.d (.int .u8 (0)),.d (.int .u8 (0)),.d (.int .u8 (0)),.d (.int .u8 (0)),.d (.int .u8 (0)),.d (.int .u8 (0)),.d (.int .u8 (0)),.d (.int .u8 (0)),.d (.int .u8 (0)),.d (.int .u8 (0)),.d (.int .u8 (0)),.d (.int .u8 (0)),.d (.int .u8 (0)),.d (.int .u8 (0)),.d (.int .u8 (0)),.d (.int .u8 (0)),.d (.int .u8 (0)),.d (.int .u8 (0)),.d (.int .u8 (0)),.d (.int .u8 (0)),.d (.int .u8 (0)),.d (.int .u8 (0)),.d (.int .u8 (0)),.d (.int .u8 (0)),.d (.int .u8 (0)),.d (.int .u8 (0)),.d (.int .u8 (0)),.d (.int .u8 (0)),.d (.int .u8 (0)),.d (.int .u8 (0)),.d (.int .u8 (0)),.d (.int .u8 (0)),.d (.int .u8 (0)),.d (.int .u8 (0)),.d (.int .u8 (0)),.d (.int .u8 (0)),.d (.int .u8 (0)),.d (.int .u8 (0)),.d (.int .u8 (0)),.d (.int .u8 (0)),.d (.int .u8 (0)),.d (.int .u8 (0)),.d (.int .u8 (0)),.d (.int .u8 (0)),.d (.int .u8 (0)),.d (.int .u8 (0)),.d (.int .u8 (0)),.d (.int .u8 (0)),.d (.int .u8 (0)),.d (.int .u8 (0))],false⟩ .leaf)))
def Zwr:TabOK ZHK Tryz.prog:=by unfold TabOK;kernel_rfl
end Go.PM.Lex
end

section
namespace Go.PM.Lex
open Go.Proofs Go.Shelf Go.RowKit
variable {w0:World} {nG:Nat}
structure NumOK (w0:World) (nG:Nat):Prop where
 big:7<nG
 pow : Lib.TabIs Tryz.prog w0 "internal/strconv.uint64pow10" .u64 Lib.pow10Tab
 bru:w0.cell? ⟨5,15,none⟩=some (.int .u8 4)
def ZEU:IntKind.u64.wrap (bits BinOp.and IntKind.u64 (16:Int) (IntKind.u64.wrap (-(16:Int))) * 285870213051353865) / 288230376151711744=(15:Int):=by decide +kernel
def ZBp (w:World) (bf:w.cell? ⟨5,15,none⟩=some (.int .u8 4)):Calls Tryz.prog 284 #[.int .u64 16] w fun e w'=>e=.returned (.int .i64 4)/\w'=w:=by
 go_enter Tryz.func284,Tryz.ntmps284
 go_wp2_with (simp only [ZEU])
 go_ret
 exact ⟨rfl,rfl⟩
def Zdm:∀(f n:Nat),n<f->Lib.decDigits n=ZaZ 10 f n
 | 0,n,h=>oM
 | f+1,n,h=>by
  rw [Lib.decDigits,ZaZ]
  by_cases c:n<10
  ·rw [dif_pos c,Tg c,ZlO,Tg c]
  rw [dif_neg c,Tb c,Zdm f (n / 10) oM,ZlO,Tg oM]
def Ztv {n:Int} (h:0<=n):Lib.itoa n=Zfm n:=by
 rw [Lib.itoa,Tb oM,Zfm,Tb oM,Ym];exact Zdm _ _ oM
def Zws {e:Env} {σ:St} {w:World} {name:String} {k:IntKind} {zs:List Int} {g:Nat} (hS:SRel (GG w0 nG) e σ w) (h:Lib.TabIs Tryz.prog w0 name k zs) (hg:Tryz.prog.globalNamed name=some g) (ab:g<nG):Lib.TabIs Tryz.prog w name k zs:=by
 unfold Lib.TabIs World.var? at h |-
 rw [hg] at h |-;simp only [Option.bind_some] at h |-;rw [hS.glob g ab];exact h
def ZBq {e:Env} {σ:St} {w:World} {k i:Nat} {u:Value} (hS:SRel (GG w0 nG) e σ w) (hk:k<nG) (h:w0.cell? ⟨k,i,none⟩=some u):w.cell? ⟨k,i,none⟩=some u:=by
 have:=hS.glob k hk;simpa [World.cell?,this] using h
def ZkN:Zq:=fun args σ K=>match args,σ with
 | [.d (.int .i64 n),.d (.int .i64 b)],⟨[],[],0⟩=>(b=10/\0<=n/\n<9223372036854775808)/\K (.ret (.d (.str (Zfm n)))) ⟨[],[],0⟩
 | _,_=>False
def ZmT:ZL ZkN:=fun args σ K K' hK h=>by
 unfold ZkN at h |-;split at h <;> first | exact ⟨h.1,hK _ _ h.2⟩ | exact h.elim
def Ztw (hN:NumOK w0 nG):PC w0 nG 211 ZkN:=Y8 (Zg Tryz.func211 kR rfl) fun args σ K h e w vs hS ha=>by
 unfold ZkN at h
 split at h
 ·rename_i n b
  obtain ⟨⟨rfl,h0,h1⟩,h⟩:=h;obtain ⟨u,v,rfl,hu,hv⟩:=Zmp ha
  cases hu.dint;cases hv.dint
  have ht:=Zws hS hN.pow (g:=3) kR (by have:=hN.big;omega);have hc:=Tryz.strconv_FormatInt_10 n oM oM w ht;rw [Ztv h0] at hc;exact ⟨_,h,_,fun _ _=>.mkstr,hc.mono fun en w' ⟨h1,k,os,h2⟩=>⟨h1,ZJ0 (by rw [h2];exact Lib.below_grow w.heap.size w (Tw _) k os)⟩⟩
 exact h.elim
def ZDo:Zq:=fun args σ K=>match args,σ with
 | [.d (.int .u64 n)],⟨[],[],0⟩=>n=16/\K (.ret (.d (.int .i64 4))) ⟨[],[],0⟩
 | _,_=>False
def ZBr (hN:NumOK w0 nG):PC w0 nG 284 ZDo:=Y8 (Zg Tryz.func284 kR rfl) fun args σ K h e w vs hS ha=>by
 unfold ZDo at h
 split at h
 ·rename_i n
  obtain ⟨rfl,h⟩:=h;obtain ⟨u,rfl,hu⟩:=Zke ha
  cases hu.dint
  exact ⟨_,h,_,fun _ _=>.d _ _ (.int _ _),(ZBp w (ZBq hS (k:=5) (by have:=hN.big;omega) hN.bru)).mono fun en w' ⟨h1,h2⟩=>⟨h1,by rw [h2];exact Grows.refl _⟩⟩
 exact h.elim
def ZHL:Tbl:=[(284,ZDo)]
def ZHM (hN:NumOK w0 nG):PC w0 nG 274 ZDo:=by
 refine pwt (tbl:=ZHL) ⟨ZBr hN,trivial⟩ Tryz.func274 fun args σ K h=>?_
 unfold ZDo at h
 split at h
 ·obtain ⟨rfl,h⟩:=h;refine pwv [] 0 false ?_;refine ⟨rfl,wN ?_⟩;exact h
 exact h.elim
def ZBs:Zq:=fun args σ K=>match args,σ with
 | [.d (.int .i64 n)],⟨[],[],0⟩=>n=16/\K (.ret (.d (.bool true))) ⟨[],[],0⟩
 | _,_=>False
def ZBt:Zh .and .i64 16 15=0:=by rw [YB];decide +kernel
def ZEV:PC w0 nG 273 ZBs:=by
 refine pwe Tryz.func273 fun args σ K h=>?_
 unfold ZBs at h
 split at h
 ·obtain ⟨rfl,h⟩:=h;refine pwv [] 0 false ?_;refine Zl ?_;have e:(Zh .and .i64 16 (16 - 1))=0:=ZBt;rw [e];exact h
 exact h.elim
def Zwt {n:Nat} (h:16<=n):Ym 16 n=Ym 16 (n / 16)++[ZlO (n % 16)]:=by
 have key:∀(f g m:Nat),m<f->m<g->ZaZ 16 f m=ZaZ 16 g m:=by
  intro f
  induction f with
  | zero=>intro g m h;omega
  | succ f ih =>
  intro g m h1 h2
  obtain ⟨g,rfl⟩:∃k,g=k+1:=⟨g - 1,oM⟩
  rw [ZaZ,ZaZ];split
  ·rfl
  rw [ih g (m / 16) oM oM]
 rw [Ym,ZaZ,Tb oM,Ym,key n (n / 16+1) (n / 16) oM oM]
def Zwu {n:Nat} (h:n<16):Ym 16 n=[ZlO n]:=by rw [Ym,ZaZ,Tg h]
def digs36:Bs:=[48,49,50,51,52,53,54,55,56,57,97,98,99,100,101,102,103,104,105,106,107,108,109,110,111,112,113,114,115,116,117,118,119,120,121,122]
def Ztx:∀d:Fin 16,digs36.getD d.val 0=ZlO d.val:=by decide +kernel
def ZBu {u:Nat} (h:u<18446744073709551616):Zh .and .u64 (u:Int) 15=((u % 16:Nat):Int):=by
 have e:Zh .and .u64 (u:Int) 15=bits .and .u64 (u:Int) ((15:Nat):Int):=by rw [YB];rfl
 rw [e,bits_and_u64_nat u 15 h dM];have:u &&& 15=u % 16:=Nat.and_two_pow_sub_one_eq_mod u 4;rw [this]
def sh4 (n:Int):Int:=n.fdiv (2 ^ (min (Int.toNat 4) (IntKind.bits .u64)))
def ZBv (u:Nat):sh4 (u:Int)=((u / 16:Nat):Int):=by
 show (u:Int).fdiv ((2:Int) ^ 4)=_;rw [show ((2:Int) ^ 4)=((16:Nat):Int) by decide,Int.fdiv_eq_ediv_of_nonneg _ dM];omega
def Zwv {u:Nat} (h:u<18446744073709551616):digs36.getD (Zh .and .u64 (u:Int) 15).toNat 0=ZlO (u % 16):=by
 rw [ZBu h,Tn];exact Ztx ⟨u % 16,Nat.mod_lt _ dM⟩
def Zww {u:Nat} (h:u<16):digs36.getD (u:Int).toNat 0=ZlO u:=by
 rw [Tn];exact Ztx ⟨u,h⟩
def Zwx {u:Nat} (h:u<18446744073709551616):0<=Zh .and .u64 (u:Int) 15:=by rw [ZBu h];omega
def Zwy {u:Nat} (h:u<18446744073709551616):Zh .and .u64 (u:Int) 15<36:=by rw [ZBu h];omega
def shN:Nat->Int->Int
 | 0,n=>n
 | j+1,n=>sh4 (shN j n)
def ZEW:Nat->Int->Bs
 | 0,_=>[]
 | j+1,n=>digs36.getD (Zh .and .u64 (shN j n) 15).toNat 0::ZEW j n
def ZcL (u:Nat):∀j,shN j (u:Int)=((u / 16 ^ j:Nat):Int)
 | 0=>by rw [shN,Nat.pow_zero,Nat.div_one]
 | j+1=>by rw [shN,ZcL u j,ZBv,Nat.div_div_eq_div_mul,Nat.pow_succ]
def Zty {u:Nat} (hu:u<18446744073709551616) (j:Nat):u / 16 ^ j<18446744073709551616:=Nat.lt_of_le_of_lt (Nat.div_le_self _ _) hu
def ZIQ {u:Nat} (hu:u<18446744073709551616):∀j,(∀k,k<j->16<=u / 16 ^ k)->Ym 16 u=Ym 16 (u / 16 ^ j)++ZEW j (u:Int)
 | 0,_=>by rw [ZEW,Nat.pow_zero,Nat.div_one,TL]
 | j+1,h=>by
  rw [ZIQ hu j fun k hk=>h k oM,Zwt (h j oM),ZEW,ZcL,Zwv (Zty hu j),Tj,Nat.div_div_eq_div_mul,Nat.pow_succ];rfl
def ZIR {u j:Nat} (G:∀k,k<j->16<=u / 16 ^ k) (g:(16:Int)<=shN j (u:Int)):∀k,k<j+1->16<=u / 16 ^ k:=fun k hk=>by
 rw [ZcL] at g
 by_cases c:k=j
 ·subst c;omega
 exact G k oM
def ZIS {u j:Nat} (hu:u<18446744073709551616) (G:∀k,k<j->16<=u / 16 ^ k) (g:¬(16:Int)<=shN j (u:Int)):Ym 16 u=digs36.getD (shN j (u:Int)).toNat 0::ZEW j (u:Int):=by
 rw [ZcL] at g |-;rw [ZIQ hu j G,Zwu oM,Zww oM];rfl
def ZJr {u j:Nat} (hu:u<18446744073709551616) (G:∀k,k<j->16<=u / 16 ^ k):0<=Zh .and .u64 (shN j (u:Int)) 15/\Zh .and .u64 (shN j (u:Int)) 15<36:=by
 rw [ZcL];exact ⟨Zwx (Zty hu j),Zwy (Zty hu j)⟩
def ZIT {u j:Nat} (G:∀k,k<j->16<=u / 16 ^ k) (g:¬(16:Int)<=shN j (u:Int)):0<=shN j (u:Int)/\shN j (u:Int)<36:=by
 rw [ZcL] at g |-;generalize u / 16 ^ j=v at g |-;omega
def ZHN:Zq:=fun args σ K=>match args,σ with
 | [.sl 0 e [],.d (.int .u64 n),.d (.int .i64 b),.d (.bool ng),.d (.bool ap)],⟨[],[0],1⟩=>(b=16/\ng=false/\ap=false/\0<=n/\n<18446744073709551616)/\K (.ret (.tuple [.d (.sl []),.d (.str (Ym 16 n.toNat))])) ⟨[],[],0⟩
 | _,_=>False
def ZHO:Tbl:=[(273,ZBs),(274,ZDo)]
def ZHP (hN:NumOK w0 nG):PC w0 nG 259 ZHN:=by
 refine Zmn Zwr mixed (tbl:=ZHO) ⟨ZEV,ZHM hN,trivial⟩ Tryz.func259 rfl kR kR ?_;intro args σ K h
 unfold ZHN at h
 split at h
 all_goals first | exact h.elim | skip
 all_goals
  obtain ⟨⟨rfl,rfl,rfl,h0,h1⟩,h⟩:=h
  rename_i e n
  obtain ⟨u0,rfl⟩:∃u:Nat,n=u:=⟨n.toNat,oM⟩
  rw [Tn] at h;have xb:u0<18446744073709551616:=oM;refine ⟨Zr [],Wk [(11,17)],YG [],YG [101],YG [],0,false,sM,Td rfl,wN ?_⟩;refine ⟨rfl,wN ?_⟩;refine ZeQ ?_;refine ⟨rfl,wN ?_⟩;refine ZeQ ?_;refine ZeQ ?_;refine ZeQ ?_;refine ZeQ ?_;have G:∀k,k<0->16<=u0 / 16 ^ k:=fun k hk=>oM
  iterate 15
   refine ZJU (fun g=>?_) (fun g=>?_);rotate_left
   ·have hb:=ZIS xb G g;have B:=ZIT G g;rw [hb] at h;(conv=>whnf);exact mq179
   have B:=ZJr xb G;have G:=ZIR G g;(conv=>whnf);refine V5 ?_;refine ⟨B.1,B.2,wN ?_⟩;refine ⟨dM,dM,wN ?_⟩;refine ⟨dM,wN ?_⟩
  refine ZJU (fun g=>?_) (fun g=>wN ?_)
  ·exact absurd (ZIR G g 15 dM) oM
  have hb:=ZIS xb G g;have B:=ZIT G g;rw [hb] at h;exact mq179
def Zdn:Zq:=fun args σ K=>match args,σ with
 | [.d (.int .u64 n),.d (.int .i64 b)],⟨[],[],0⟩=>(b=16/\0<=n/\n<18446744073709551616)/\K (.ret (.d (.str (Ym 16 n.toNat)))) ⟨[],[],0⟩
 | _,_=>False
def ZmU:ZL Zdn:=fun args σ K K' hK h=>by
 unfold Zdn at h |-;split at h <;> first | exact ⟨h.1,hK _ _ h.2⟩ | exact h.elim
def ZHQ:Tbl:=[(259,ZHN)]
def ZHR (hN:NumOK w0 nG):PC w0 nG 241 Zdn:=by
 refine pwt (tbl:=ZHQ) ⟨ZHP hN,trivial⟩ Tryz.func241 fun args σ K h=>?_
 unfold Zdn at h
 split at h
 ·obtain ⟨⟨rfl,h0,h1⟩,h⟩:=h;refine pwv [] 0 false ?_;refine ⟨⟨rfl,rfl,rfl,h0,h1⟩,wN ?_⟩;exact h
 exact h.elim
def ZBw:Tbl:=[(241,Zdn)]
def Ztz (hN:NumOK w0 nG):PC w0 nG 210 Zdn:=by
 refine pwt (tbl:=ZBw) ⟨ZHR hN,trivial⟩ Tryz.func210 fun args σ K h=>?_
 unfold Zdn at h
 split at h
 ·rename_i n b
  obtain ⟨⟨rfl,h0,h1⟩,h⟩:=h;refine pwv [] 0 false ?_;refine ⟨⟨rfl,h0,h1⟩,?_⟩;generalize Ym 16 n.toNat=T at h |-;exact mq52
 exact h.elim
def ZoN {n:Int} (h:n<0) (h0:-9223372036854775808<=n):0<=IntKind.u64.wrap n/\IntKind.u64.wrap n<18446744073709551616/\Zfm n=[48,120]++Ym 16 (IntKind.u64.wrap n).toNat:=by
 have e:IntKind.u64.wrap n=n+18446744073709551616:=by
  exact mq148
 refine ⟨oM,oM,?_⟩;rw [Zfm,Tg h,e]
end Go.PM.Lex
end

section
namespace Go.PM.Lex
def ZGR (n:Int):Bool:=decide (-9223372036854775808<=n) && decide (n<9223372036854775808)
mutual
def ZiN:Ex->Bool
 | .mk _ _ n l _=>ZGR n && ZmV l
def ZmV:List Ex->Bool
 | []=>true
 | x::l=>ZiN x && ZmV l
end
def UT (l:List Ex):ZmV l=l.all ZiN:=by induction l with | nil=>rfl | cons x l ih=>simp [ZmV,ih]
def ZcM {op:Nat} {t:Bs} {n:Int} {l:List Ex} {a:Nat} (h:ZiN (.mk op t n l a)=true):(-9223372036854775808<=n/\n<9223372036854775808)/\∀x∈l,ZiN x=true:=by
 simp only [ZiN,UT,ZGR,Tm,TV] at h;exact ⟨h.1,To.1 h.2⟩
mutual
def ZmW:Li->Bool
 | .mk _ _ args body _=>ZmV args && ZqJ body
def ZqJ:List Li->Bool
 | []=>true
 | x::l=>ZmW x && ZqJ l
end
def J4 (l:List Li):ZqJ l=l.all ZmW:=by induction l with | nil=>rfl | cons x l ih=>simp [ZqJ,ih]
def ZmX {op:Nat} {rel:Bs} {args:List Ex} {body:List Li} {a:Nat} (h:ZmW (.mk op rel args body a)=true):(∀x∈args,ZiN x=true)/\∀x∈body,ZmW x=true:=by
 simp only [ZmW,UT,J4,Tm] at h;exact ⟨To.1 h.1,To.1 h.2⟩
def Zfp (r:Ru):Bool:=r.args.all ZiN && r.body.all ZmW
mutual
def ZiO:Un->Bool
 | .mk _ _ rules comps _ _=>rules.all Zfp && Zfq comps
def ZtA:Co->Bool
 | .mk _ _ _ _ u _=>ZiO u
def Zfq:List Co->Bool
 | []=>true
 | c::l=>ZtA c && Zfq l
end
def ZbS (l:List Co):Zfq l=l.all ZtA:=by induction l with | nil=>rfl | cons x l ih=>simp [Zfq,ih]
open Go.Proofs
variable {w0:World} {nG:Nat}
def ZmY (e:Ex):Bool:=Yb e && ZiN e
def ZBx {op:Nat} {t:Bs} {n:Int} {l:List Ex} {a:Nat} (h:ZmY (.mk op t n l a)=true):-2<Yg op/\(Yg op<0\/(l.length:Int)=Yg op)/\WJ op t=true/\(-9223372036854775808<=n/\n<9223372036854775808)/\l.all ZmY=true:=by
 simp only [ZmY,Tm] at h;obtain ⟨h1,h2⟩:=h;obtain ⟨r1,r2⟩:=ZcM h2;simp only [Yb,Zz,Tm,SB,TV] at h1;obtain ⟨h1,h3,h4,h5,h6⟩:=h1;refine ⟨h1,h3,h5,r1,?_⟩;rw [To] at h6 |-;exact fun x hx=>by rw [ZmY,h6 x hx,r2 x hx];rfl
def Zwz {op:Nat} (h:-2<Yg op):op<26:=by
 by_cases hc:op<26
 ·exact hc
 unfold Yg at h
 (repeat rw [Tb oM] at h)
 omega
def ZBy {op:Nat} (h:-2<Yg op):(Zj op<5->Yg op=2)/\(Zj op=5->Yg op=1)/\Zj op<=6/\(op=5->Yg op=0):=by
 have hk:∀o:Fin 26,-2<Yg o.val->(Zj o.val<5->Yg o.val=2)/\(Zj o.val=5->Yg o.val=1)/\Zj o.val<=6/\(o.val=5->Yg o.val=0):=dM;exact hk ⟨op,Zwz h⟩ h
def ZwA (n:Nat):Zq:=ZlQ (.tuple []) fun rest txt=>∃pl e want,rest=[Y3 Z7 pl e,.d (.int .i64 want)]/\(ZmY e=true/\wE e<=n/\n<=1073741824/\0<=want/\want<=6)/\txt=exW want.toNat e
def ZtB (n:Nat):ZL (ZwA n):=ZbO _ _
def ZwB (n:Nat):Zq:=ZlQ (.tuple []) fun rest txt=>∃fr fin pl xs,rest=[.d (.str fr),.d (.sl (Zs pl xs)),.d (.str fin)]/\(xs.all ZmY=true/\szS wE xs<=n/\n<=1073741824)/\txt=argT fr fin xs
def ZtC (n:Nat):ZL (ZwB n):=ZbO _ _
def Ue (e:Ex):exW 0 e=exT e:=by rw [exW,Ztm,Tb sM]
def ZEY {n:Nat}:OKw w0 nG [(177,ZwA n)] 176 (ZiL (Y3 Z7) ZmY exT wE n):=by
 refine pwo Tryz.func176 fun args σ K h=>?_
 unfold ZiL at h
 split at h
 ·obtain ⟨l,pl,⟨op,tx,nn,xs,at'⟩,rfl,rfl,⟨rfl,rfl⟩,⟨bv,hz,hn⟩,aa,h⟩:=h;refine pwv [] 2 true ?_;refine ⟨l,exT (.mk op tx nn xs at'),rfl,⟨.inr rfl,rfl,rfl⟩,⟨pl,.mk op tx nn xs at',0,rfl,⟨bv,hz,hn,oM,oM⟩,(Ue _).symm⟩,aa,wN ?_⟩;exact h
 exact h.elim
def ZHT {n:Nat}:OKw w0 nG [(64,Zgy),(175,Zts 176 Z7 ZmY exT wE n)] 123 (ZwB n):=by
 refine pwo Tryz.func123 fun args σ K h=>?_
 unfold ZwB ZlQ at h
 split at h
 ·rename_i rest t p e rows
  obtain ⟨l,txt,rfl,⟨hp,rfl,rfl⟩,⟨fr,fin,pl,xs,rfl,⟨bv,hz,hn⟩,rfl⟩,aa,h⟩:=h;have key:l++argT fr fin xs=l++fr++Zf cmm (xs.map exT)++fin:=by simp only [argT,ZDm,Tj]
  rw [key] at h;have aa:l.length+(fr.length+((Zf cmm (xs.map exT)).length+fin.length))<70368744177664:=by have:=aa;simp only [argT,ZDm,Ta] at this;exact this
  refine pwu [] 1 true ?_;rcases hp with rfl | rfl
  all_goals
   conv=>whnf
   refine wk _ fr ⟨[fr],rfl,sM,sM,sM⟩ ?_;(conv=>whnf);refine ⟨l++fr,pl,xs,rfl,Zd pl xs,⟨rfl,rfl,rfl⟩,⟨bv,hz,hn⟩,by rw [Ta];show _+(Zf cmm (xs.map exT)).length<_;omega,wN ?_⟩;refine wk (l++fr++Zf cmm (xs.map exT)) fin ⟨[fin],rfl,sM,sM,sM⟩ (wN ?_);exact h
 exact h.elim
def ZEZ:List PV->St->(St->Prop)->Prop:=fun args σ K=>args.length<=Tryz.f64.ntmps/\W (ZvH ZaM Ztu (Zr []) (Wk [(1,3)]) (fun _=>false)) (Xm Tryz.f64) (ZDT ZaM Tryz.f64 σ.bx.length K) (Zen 0 args) σ
def ZJs:PDef (GG w0 nG) 64 ZEZ (fun _ _ _ _=>False) :=
 Zqg ZR mixed Tryz.func64 rfl kR kR fun args σ K h=>⟨_,σ.bx.length,CxG.of ZR ZkM ⟨ZqH,trivial⟩ _ _ _,Tw _,h.1,h.2⟩
def ZE0 (n:Nat):Tbl:=[(166,ZDn),(64,Zgy),(177,spB ZwA n),(123,spB ZwB n),(211,ZkN),(210,Zdn),(167,ZaY)]
end Go.PM.Lex
end
