/- A part of the proof: plain logic, contracts and laws over the given program. -/
import Derived.Test.YtcaoooleeciiaaaGreatDoorB11
set_option linter.unusedVariables false
set_option linter.unusedSimpArgs false
set_option linter.all false
set_option maxRecDepth 100000
set_option maxHeartbeats 16000000
noncomputable section
section
namespace Go.PM.Lex
def Zcb {α β:Type} {x:R α} {f:α->Ts->R β} (h:Lim (x.bind f)):Lim x\/∃v ts,x=.ok v ts/\Lim (f v ts):=by
 cases x with
 | ok v ts=>exact .inr ⟨v,ts,rfl,h⟩
 | err r e =>
 refine .inl ?_;obtain ⟨p,h | h⟩:=h
 ·cases h;exact ZtF
 cases h;exact ZkO
def ZS {α:Type} {v:α} {ts:Ts}:¬Lim (.ok v ts:R α):=fun ⟨p,h⟩=>by rcases h with h | h <;> cases h
def XS {α:Type} {r:Nat}:¬Lim (.err r 150:R α):=fun ⟨p,h⟩=>by rcases h with h | h <;> cases h
def Zpq {w:Bs} {ts:Ts}:¬Lim (ZM w ts):=by
 unfold ZM
 split
 ·exact ZS
 exact XS
def ZxG {ts:Ts}:¬Lim (Y9 ts):=by
 unfold Y9
 split
 ·exact ZS
 exact XS
abbrev Zbi {α:Type} (m:Ts) (P:Ts->R α):Prop:=∀ts,Lim (P ts)->Lim (P (ts++m))
abbrev NilP {α:Type} (P:Ts->R α):Prop:=∃r,P []=.err r 150
def NilP.not {α:Type} {P:Ts->R α} (h:NilP P):¬Lim (P []):=by obtain ⟨r,h⟩:=h;rw [h];exact XS
def NilP.ex {α:Type} {P:Ts->R α} (h:NilP P):∃r e,P []=.err r e:=by obtain ⟨r,h⟩:=h;exact ⟨r,_,h⟩
section
variable {α β:Type} {er:α->α} {m:Ts}
def Ls.bind {x y:R α} {f g:α->Ts->R β} (hS:Stb er m x y) (hL:Lim x->Lim y) (hf:∀v v' ts,er v'=er v->Lim (f v ts)->Lim (g v' (ts++m))):Lim (x.bind f)->Lim (y.bind g):=fun h=>by
 rcases Zcb h with h | ⟨v,ts,rfl,h⟩
 ·exact (hL h).bind
 obtain ⟨v',e,rfl⟩:=hS v ts rfl;exact hf v v' ts e h
def Ls.binds {x y:R α} {f g:α->Ts->R β} (hS:Stb id m x y) (hL:Lim x->Lim y) (hf:∀v ts,Lim (f v ts)->Lim (g v (ts++m))):Lim (x.bind f)->Lim (y.bind g) :=
 Ls.bind hS hL fun v v' ts e=>by cases (show v'=v from e);exact hf v ts
def ZJ7 {x y:R α} {f g:α->Ts->R β} (hL:Lim x->Lim y) (hf:∀v ts,¬Lim (f v ts)):Lim (x.bind f)->Lim (y.bind g):=fun h=>by
 rcases Zcb h with h | ⟨v,ts,_,h⟩
 ·exact (hL h).bind
 exact absurd h (hf v ts)
def ZJ5 {w:Bs} {ts:Ts} {f g:Unit->Ts->R β} (hf:∀ts,Lim (f () ts)->Lim (g () (ts++m))):Lim ((ZM w ts).bind f)->Lim ((ZM w (ts++m)).bind g):=Ls.binds (Xb w ts) (fun h=>absurd h Zpq) fun _ ts=>hf ts
def Ls.name {ts:Ts} {f g:Bs->Ts->R β} (hf:∀a ts,Lim (f a ts)->Lim (g a (ts++m))):Lim ((Y9 ts).bind f)->Lim ((Y9 (ts++m)).bind g):=Ls.binds (X7 ts) (fun h=>absurd h ZxG) hf
def Ls.ite {ts:Ts} {w:Bs} {x x' y y':R α} (aq:ts=[]->¬Lim y) (h1:isW ts [w]=true->Lim x->Lim x') (h2:Lim y->Lim y'):Lim (if isW ts [w]=true then x else y)->Lim (if isW (ts++m) [w]=true then x' else y'):=by
 cases ts with
 | nil=>rw [Tb (by rw [YS];simp)];exact fun h=>absurd h (aq rfl)
 | cons t ts =>
 exact mq154
end
variable {m:Ts}
def Uv {α:Type} {d:Nat} {fr tw:Bs} {read:Ts->R α} (h:Zbi m read):Zbi m (Zm d fr tw read):=fun ts=>by
 unfold Zm
 by_cases h1:isW ts [fr]=true
 ·obtain ⟨t,l,rfl⟩:=ZaX h1;rw [Tg h1,Yz,Tg h1]
  by_cases hd:d=0
  ·rw [Tg hd,Tg hd];exact fun _=>ZkO
  rw [Tb hd,Tb hd];intro g
  rcases Zcb g with g | ⟨v,ts,e,g⟩
  ·exact Lim.bind (h l g)
  exfalso;split at g
  ·exact ZS g
  rcases Zcb g with g | ⟨_,_,_,g⟩
  ·exact Zpq g
  exact ZS g
 rw [Tb h1];exact fun h=>absurd h XS
def Zlj {α:Type} {er:α->α} (hm:W9 m) {sign:Bs} (hs:sign∈Zwf) {most:Nat} {starts:Ts->Bool} {one:Ts->R α} (h:Ub er m one) (hL:Zbi m one) (hst:∀t ts,starts (t::ts++m)=starts (t::ts)) (tg:starts []=false) (aq:NilP one) :
  ∀(f f':Nat) (l l':List α) (ts:Ts),f<=f'->l'.map er=l.map er->Lim (Yw sign most starts one f l ts)->Lim (Yw sign most starts one f' l' (ts++m))
 | 0,f',l,l',ts,hf,hl=>fun g=>absurd g XS
 | f+1,0,l,l',ts,hf,hl=>oM
 | f+1,f'+1,l,l',ts,hf,hl=>by
  have aa:l'.length=l.length:=by simpa using congrArg List.length hl
  rw [Yw,Yw]
  cases ts with
  | nil =>
   obtain ⟨r,hr⟩:=aq;rw [tg,Tb sM,hr,R.bind_err];exact fun g=>absurd g XS
  | cons t ts =>
  rw [hst]
  by_cases hc:starts (t::ts)=true/\l.length=most
  ·rw [Tg hc,Tg (by rw [aa];exact hc)];exact fun _=>ZtF
  rw [Tb hc,Tb (by rw [aa];exact hc)];refine Ls.bind (h _) (hL _) fun v v' ts1 e=>?_
  rw [UN hm hs];have fc:(l'++[v']).map er=(l++[v]).map er:=by simp [hl,e]
  by_cases hw:isW ts1 [sign]=true
  ·obtain ⟨t1,l1,rfl⟩:=ZaX hw;rw [Tg hw,Tg hw];exact Zlj hm hs h hL hst tg aq f f' _ _ l1 oM fc
  rw [Tb hw];exact fun g=>absurd g ZS
def Zf7 {α:Type} {er:α->α} (hm:W9 m) {sign:Bs} (hs:sign∈Zwf) {most:Nat} {starts:Ts->Bool} {one:Ts->R α} (h:Ub er m one) (hL:Zbi m one) (hst:∀t ts,starts (t::ts++m)=starts (t::ts)) (tg:starts []=false) (aq:NilP one) :
  Zbi m (Xf sign most starts one):=fun ts=>Zlj hm hs h hL hst tg aq _ _ [] [] ts (by rw [Ta];omega) rfl
def Zf8 {α:Type} {sign:Bs} {most:Nat} {starts:Ts->Bool} {one:Ts->R α} (hs:starts []=false) (aq:NilP one):NilP (Xf sign most starts one):=by
 obtain ⟨r,h⟩:=aq;exact ⟨r,by simp [Xf,Yw,hs,h]⟩
def ZxH:Zbi m Wr:=fun ts=>Ls.name fun a ts=>ZJ5 fun ts=>Ls.name fun b ts g=>absurd g ZS
def Zf9 (hm:W9 m) (fin:Bs):Zbi m (Wo fin):=fun ts=>by
 unfold Wo
 exact Ls.ite (fun h=>by subst h;exact (Zf8 rfl ⟨0,rfl⟩).not) (fun _ g=>absurd g ZS) (Zf7 hm dM ZkF ZxH (fun _ _=>rfl) rfl ⟨0,rfl⟩ ts)
def ZCT (hm:W9 m):Zbi m Jt:=fun ts=>Ls.name fun a ts=>ZJ5 fun ts=>Ls.binds (WS hm _ ts) (Zf9 hm _ ts) fun l ts=>ZJ5 fun ts g=>absurd g ZS
def Zlk {α:Type} {w:Bs} {f:Unit->Ts->R α}:¬Lim ((ZM w []).bind f):=by
 rw [show ZM w []=.err 0 150 from by unfold ZM;rw [Tb (by rw [YS];simp)];rfl];exact XS
def ZxI (hm:W9 m):Zbi m Ju:=fun t0=>Ls.name fun nm ts=>by
 refine Ls.ite (fun h=>by subst h;exact Zlk) (fun h=>?_) ?_
 ·rw [UO h];exact Ls.name fun b ts g=>absurd g ZS
 refine ZJ5 fun ts=>?_
 refine Ls.ite (fun h=>?_) (fun h=>?_) ?_
 ·subst h;intro g
  rcases Zcb g with g | ⟨_,_,_,g⟩
  ·exact (Zf8 (sign:=[124]) (most:=64) (starts:=Zt) (one:=Jt) rfl ⟨0,rfl⟩).not g
  exact ZS g
 ·rw [UO h];exact Ls.binds (WS hm _ _) (Zf9 hm _ _) fun l ts=>ZJ5 fun ts g=>absurd g ZS
 exact ZJ7 (Zf7 hm dM (ZoE hm) (ZCT hm) (fun _ _=>rfl) rfl ⟨0,rfl⟩ ts) fun _ _=>ZS
def ZCU (hm:W9 m):Zbi m Ze0:=fun t0=>Ls.name fun nm ts=>ZJ5 fun ts=>Ls.binds (WS hm _ ts) (Zf9 hm _ ts) fun l ts=>ZJ5 fun ts g=>absurd g ZS
def Zje (hm:W9 m) {d:Nat} {ex:Ts->R Ex} (h:Ub erE m ex) (hL:Zbi m ex) (aq:NilP ex) (fr tw:Bs):Zbi m (Zad d ex fr tw):=fun ts=>by
 unfold Zad
 refine Uv (fun ts=>?_) ts;exact Ls.ite (fun h=>by subst h;exact (Zf8 rfl aq).not) (fun _ g=>absurd g ZS) (Zf7 hm dM h hL (fun _ _=>rfl) rfl aq ts)
def ZnE {ex:Ts->R Ex} (h:Ub erE m ex) (hL:Zbi m ex):∀(k:Nat) (l l':List Ex) (ts:Ts),l'.map erE=l.map erE->Lim (Y1 ex k l ts)->Lim (Y1 ex k l' (ts++m))
 | 0,l,l',ts,hl=>fun g=>absurd g ZS
 | k+1,l,l',ts,hl=>by
  have aa:l'.length=l.length:=by simpa using congrArg List.length hl
  have h0:l'=[]↔l=[]:=by rw [<- Sq,<- Sq,aa]
  rw [Y1,Y1]
  by_cases hc:l=[]
  ·rw [Tg hc,Tg (h0.2 hc),R.bind_ok,R.bind_ok];exact Ls.bind (h ts) (hL ts) fun v v' ts e=>ZnE h hL k _ _ ts (by simp [hl,e])
  rw [Tb hc,Tb (fun g=>hc (h0.1 g))];exact ZJ5 fun ts=>Ls.bind (h ts) (hL ts) fun v v' ts e=>ZnE h hL k _ _ ts (by simp [hl,e])
def Zra (hm:W9 m) {d:Nat} {ex:Ts->R Ex} (h:Ub erE m ex) (hL:Zbi m ex) (aq:NilP ex):Zbi m (YK d ex):=fun ts=>by
 cases ts with
 | nil=>unfold YK;rw [Tg J2];exact fun g=>absurd g XS
 | cons t ts =>
 unfold YK
 rw [show ZC (t::ts++m)=ZC (t::ts) from rfl,show hd (t::ts++m)=t from rfl,show hd (t::ts)=t from rfl,show (t::ts++m).tail=ts++m from rfl,show (t::ts).tail=ts from rfl]
 by_cases c0:ZC (t::ts)=false
 ·rw [Tg c0];exact fun g=>absurd g XS
 rw [Tb c0,Tb c0]
 by_cases c1:t.kind=2
 ·rw [Tg c1];exact fun g=>absurd g ZS
 rw [Tb c1,Tb c1]
 by_cases c2:t.kind=3
 ·rw [Tg c2];exact fun g=>absurd g ZS
 rw [Tb c2,Tb c2]
 by_cases c3:t.text=[40]
 ·rw [Tg c3,Tg c3];exact Uv hL (t::ts)
 rw [Tb c3,Tb c3]
 by_cases c4:t.text=[91]
 ·rw [Tg c4,Tg c4];exact ZJ7 (Zje hm h hL aq _ _ (t::ts)) fun _ _=>ZS
 rw [Tb c4,Tb c4]
 by_cases c5:t.text=[36]
 ·rw [Tg c5,Tg c5];refine Ls.name fun nm ts=>?_
  rw [UN hm dM]
  by_cases c6:isW ts [[40]]=true
  ·rw [Tg c6,Tg c6];exact ZJ7 (Zje hm h hL aq _ _ ts) fun _ _=>ZS
  rw [Tb c6];exact fun g=>absurd g ZS
 rw [Tb c5,Tb c5]
 by_cases c6:Z1 t.text≠0
 ·rw [Tg c6,Tg c6];exact ZJ7 (Uv (fun ts=>ZnE h hL _ [] [] ts rfl) ts) fun _ _=>ZS
 rw [Tb c6,Tb c6]
 by_cases c7:t.text=[110,105,108]
 ·rw [Tg c7];exact fun g=>absurd g ZS
 rw [Tb c7,Tb c7]
 by_cases c8:t.text=[95]
 ·rw [Tg c8];exact fun g=>absurd g ZS
 rw [Tb c8];exact fun g=>absurd g ZS
def Zll (hm:W9 m) {sub:Nat->Ts->R Ex} (h:∀k,Ub erE m (sub k)) (hL:∀k,Zbi m (sub k)) (least:Nat):∀(f f':Nat) (e e':Ex) (ts:Ts),f<=f'->erE e'=erE e->Lim (XJ sub least f e ts)->Lim (XJ sub least f' e' (ts++m))
 | 0,f',e,e',ts,hf,he=>fun g=>absurd g XS
 | f+1,0,e,e',ts,hf,he=>oM
 | f+1,f'+1,e,e',ts,hf,he=>by
  rw [XJ,XJ,Ztf hm]
  by_cases hc:(VR ts).1<least\/(VR ts).1=0
  ·rw [Tg hc];exact fun g=>absurd g ZS
  rw [Tb hc,Tb hc];obtain ⟨t,l,rfl⟩:=Ztg (fun g=>hc (.inr g));exact Ls.bind (h _ l) (hL _ l) fun v v' ts e1=>Zll hm h hL least f f' _ _ ts oM (by simp only [erE,Zwd,e1,he])
def Zjf (hm:W9 m) {sg:Ts->R Ex} (h:Ub erE m sg) (hL:Zbi m sg):∀(k least:Nat),Zbi m (XK sg k least)
 | 0,least=>hL
 | k+1,least=>fun ts=>Ls.bind (h ts) (hL ts) fun v v' ts e=>Zll hm (JC hm h k) (Zjf hm h hL k) least _ _ _ _ ts (by rw [Ta];omega) e
def ZhL {sg:Ts->R Ex} (h:NilP sg):∀(k least:Nat),NilP (XK sg k least)
 | 0,least=>h
 | k+1,least=>by obtain ⟨r,h⟩:=h;exact ⟨r,by rw [XK,h];rfl⟩
def Zbb (d:Nat) (sg:Ts->R Ex):NilP (Xg d sg):=⟨0,by unfold Xg;rw [Tb (by rw [YS];simp),Tb (by rw [YS];simp)];unfold YK;rw [Tg J2];rfl⟩
def Zlm (hm:W9 m) {d:Nat} {sg:Ts->R Ex} (h:Ub erE m sg) (hL:Zbi m sg) (aq:NilP sg):Zbi m (Xg d sg):=fun ts=>by
 cases ts with
 | nil=>exact fun g=>absurd g (Zbb d sg).not
 | cons t ts =>
 unfold Xg
 rw [Yz,Yz]
 by_cases c1:isW (t::ts) [[45]]=true
 ·rw [Tg c1,Tg c1];exact ZJ7 (Uv hL (t::ts)) fun _ _=>ZS
 rw [Tb c1,Tb c1]
 by_cases c2:isW (t::ts) [[126]]=true
 ·rw [Tg c2,Tg c2];exact ZJ7 (Uv hL (t::ts)) fun _ _=>ZS
 rw [Tb c2,Tb c2];exact Zra hm (JC hm h 6 1) (Zjf hm h hL 6 1) (ZhL aq 6 1) (t::ts)
def Zdz:∀d,NilP (Ya d)
 | 0=>Zbb _ _
 | d+1=>Zbb _ _
def ZhM (hm:W9 m):∀d,Zbi m (Ya d)
 | 0=>Zlm hm (fun ts=>Stb.err) (fun _ g=>absurd g XS) ⟨0,rfl⟩
 | d+1=>Zlm hm (UP hm d) (ZhM hm d) (Zdz d)
def ZnF (hm:W9 m) (d:Nat):Zbi m (Vl d):=Zjf hm (UP hm d) (ZhM hm d) 6 1
def Zln (d:Nat):NilP (Vl d):=ZhL (Zdz d) 6 1
def Zpr (hm:W9 m):∀d,Zbi m (Jv d)
 | 0=>fun ts g=>absurd g XS
 | d+1=>ZnF hm d
def ZhN:∀d,NilP (Jv d)
 | 0=>⟨0,rfl⟩
 | d+1=>Zln d
def ZuH {ts:Ts}:¬Lim (Vm ts):=by
 unfold Vm
 split
 ·exact XS
 ·split
  ·exact ZS
  exact ZS
 exact ZS
def ZhO (hm:W9 m) (d op a a':Nat) (ts:Ts):Lim (W7 d op a ts)->Lim (W7 d op a' (ts++m)):=Ls.name fun nm ts=>ZJ7 (Zje hm (JD hm d) (Zpr hm d) (ZhN d) _ _ ts) fun _ _=>ZS
def Zlo {d:Nat} {bd:Ts->R (List Li)} (hL:Zbi m bd) (a a' op:Nat) (l l':List Ex) (ts:Ts):Lim (YV d bd a op l ts)->Lim (YV d bd a' op l' (ts++m)):=by
 unfold YV
 by_cases hc:9<=op
 ·rw [Tg hc,Tg hc];exact ZJ5 fun ts=>ZJ7 (Uv hL ts) fun _ _=>ZS
 rw [Tb hc];exact fun g=>absurd g ZS
def ZuI (hm:W9 m) {d:Nat} {bd:Ts->R (List Li)} (hL:Zbi m bd):Zbi m (U5 d bd):=fun t0=>by
 refine Ls.bind (ZbL hm d t0) (ZnF hm d t0) fun v v' ts e=>Ls.binds (ZkJ hm ts) (fun g=>absurd g ZuH) fun op ts=>?_
 by_cases hc:op=9
 ·rw [Tg hc,Tg hc];exact Zlo hL _ _ _ _ _ ts
 rw [Tb hc,Tb hc];exact Ls.bind (ZbL hm d ts) (ZnF hm d ts) fun g g' ts e2=>Zlo hL _ _ _ _ _ ts
def Zjg (d:Nat) (bd:Ts->R (List Li)):NilP (Zbf d bd):=by
 obtain ⟨r,h⟩:=Zln d;exact ⟨r,by unfold Zbf;rw [Tb (by rw [YS];simp),Tb (by simp [Zt,hd])];unfold U5;rw [h];rfl⟩
def ZyJ (hm:W9 m) {d:Nat} {bd:Ts->R (List Li)} (hL:Zbi m bd):Zbi m (Zbf d bd):=fun t0=>by
 cases t0 with
 | nil=>exact fun g=>absurd g (Zjg d bd).not
 | cons t ts =>
 unfold Zbf
 rw [Yz,show Zt (t::ts++m)=Zt (t::ts) from rfl,show (t::ts++m).tail=ts++m from rfl,show (t::ts).tail=ts from rfl]
 by_cases c1:isW (t::ts) [[33]]=true
 ·rw [Tg c1,Tg c1];exact ZhO hm _ _ _ _ ts
 rw [Tb c1,Tb c1];have hh:(Zt (t::ts)=true/\(hd (ts++m)).kind=4/\(hd (ts++m)).text=[40])↔(Zt (t::ts)=true/\(hd ts).kind=4/\(hd ts).text=[40]):=by
  exact mq115
 by_cases c2:Zt (t::ts)=true/\(hd ts).kind=4/\(hd ts).text=[40]
 ·rw [Tg c2,Tg (hh.2 c2)];exact ZhO hm _ _ _ _ (t::ts)
 rw [Tb c2,Tb (fun g=>c2 (hh.1 g))];exact ZuI hm hL (t::ts)
def ZuJ (hm:W9 m):∀d,Zbi m (Zgu d)
 | 0=>Zf7 hm dM (ZiG hm fun ts=>Stb.err) (ZyJ hm fun ts g=>absurd g XS) (fun _ _=>rfl) rfl (Zjg _ _)
 | d+1=>Zf7 hm dM (ZiG hm (Zd0 hm d)) (ZyJ hm (ZuJ hm d)) (fun _ _=>rfl) rfl (Zjg _ _)
def ZCV (hm:W9 m) (d:Nat) (bodies:Bool):Zbi m (ZdE d bodies):=fun t0=>Ls.name fun nm ts=>Ls.bind (ZbK hm (JD hm d) (Zfj d) _ _ sM ts) (Zje hm (JD hm d) (Zpr hm d) (ZhN d) _ _ ts) fun v v' ts e=>by
 cases ts with
 | nil =>
  rw [Tb (fun g=>by have:=g.2;rw [YS] at this;cases this)];exact fun g=>absurd g Zlk
 | cons t ts =>
 rw [Yz]
 by_cases hc:bodies=true/\isW (t::ts) [[58,45]]=true
 ·rw [Tg hc,Tg hc];exact Ls.bind (Zd0 hm d ts) (ZuJ hm d ts) fun b b' ts e2=>ZJ5 fun ts g=>absurd g ZS
 rw [Tb hc,Tb hc];exact ZJ5 fun ts g=>absurd g ZS
end Go.PM.Lex
end

section
namespace Go.PM.Lex
def Zrb:∀w∈Zwf,Yx w=false/\w≠[125]/\w∉ZkU:=by decide +kernel
def J9 {r:Ts} (h:IHd r):W9 r:=fun w hw=>Zfz h (Zrb w hw)
def Rd.okN {α β:Type} {er:α->β} {v:α} {r:Ts} {x:R α} (h:Rd er v r x) (hn:¬Lim x):∃v',er v'=er v/\x=.ok v' r:=h.resolve_right hn
section
variable {d:Nat} {un:Ts->R Un} {r:Ts}
def ZhP (rels:List Re) (rules:List Ru) (comps:List Co) (inits:List Ini) (overs:List Ov) (hr:IHd r) :
  ∀(xs:List Ty) (f:Nat) (acc:List Ty),(∀x∈xs,Yl x=true)->xs.length<f->acc.length<=256->¬Lim (ZG false d un f (.mk acc rels rules comps inits overs) ((xs.map tyK).flatten++r)) ->
   acc.length+xs.length<=256/\(∀x∈xs,¬Lim (Ju (tyK x).tail))/\∃f' acc2,f<=f'+xs.length/\¬Lim (ZG false d un f' (.mk acc2 rels rules comps inits overs) r)
 | [],f,acc,h,hf,ha,hn=>⟨by simpa using ha,sM,f,acc,sM,by simpa using hn⟩
 | x::xs,0,acc,h,hf,ha,hn=>oM
 | x::xs,f+1,acc,h,hf,ha,hn=>by
  have hi:IHd ((xs.map tyK).flatten++r):=VC (fun x=>⟨_,_,dM,rfl⟩) hr xs;rw [Tz,Sb,Tj,tyK,Tp,ZG,Tb (ZkV dM _),Tg (ZbU _ _)] at hn;split at hn
  ·exact absurd ZtF hn
  rename_i aj
  have hx:=ZcO (h x sM) (r:=(xs.map tyK).flatten++r) hi;rw [TQ] at hn;rw [tyK,TQ] at hx;obtain ⟨v,_,e⟩:=hx.okN fun g=>hn g.bind
  rw [e,R.bind_ok] at hn;obtain ⟨g1,g2,f',acc2,g3,g4⟩:=ZhP rels rules comps inits overs hr xs f (acc++[v]) (fun y hy=>h y (Tt _ hy)) (by simpa using hf) (by rw [Ta];simp;omega) hn;refine ⟨by simp only [Ta,Te,Th] at g1 |-;omega,fun y hy=>?_,f',acc2,by simp only [Te];omega,g4⟩;rcases Tv.1 hy with rfl | hy
  ·intro g
   have:=ZxI (J9 hi) _ g;rw [tyK,TQ,e] at this;exact ZS this
  exact g2 y hy
def ZhQ (rels:List Re) (rules:List Ru) (comps:List Co) (inits:List Ini) (overs:List Ov) (hr:IHd r) :
  ∀(xs:List Ty) (f:Nat) (acc:List Ty),(∀x∈xs,Yl x=true)->xs.length<f->acc.length+xs.length<=256->(∀x∈xs,¬Lim (Ju (tyK x).tail)) ->
   (∀f' acc2,f<=f'+xs.length->¬Lim (ZG false d un f' (.mk acc2 rels rules comps inits overs) r))->¬Lim (ZG false d un f (.mk acc rels rules comps inits overs) ((xs.map tyK).flatten++r))
 | [],f,acc,h,hf,ha,hq,hk=>by simpa using hk f acc sM
 | x::xs,0,acc,h,hf,ha,hq,hk=>oM
 | x::xs,f+1,acc,h,hf,ha,hq,hk=>by
  have hi:IHd ((xs.map tyK).flatten++r):=VC (fun x=>⟨_,_,dM,rfl⟩) hr xs;simp only [Te] at ha hf;have hx:=ZcO (h x sM) (r:=[]) (.inl rfl);rw [TL] at hx;obtain ⟨v,_,e⟩:=hx.okN (hq x sM);obtain ⟨v2,_,e2⟩:=Zte (J9 hi) _ v [] e;rw [Tu] at e2;rw [Tz,Sb,Tj,tyK,Tp,ZG,Tb (ZkV dM _),Tg (ZbU _ _),Tb oM,TQ];rw [tyK,TQ] at e2;rw [e2,R.bind_ok];exact ZhQ rels rules comps inits overs hr xs f (acc++[v2]) (fun y hy=>h y (Tt _ hy)) oM (by simp only [Ta,Te,Th];omega) (fun y hy=>hq y (Tt _ hy)) fun f' acc2 h1=>hk f' acc2 (by simp only [Te];omega)
def Zlp (tys:List Ty) (rules:List Ru) (comps:List Co) (inits:List Ini) (overs:List Ov) (hr:IHd r) :
  ∀(xs:List Re) (f:Nat) (acc:List Re),(∀x∈xs,Xx x=true)->xs.length<f->acc.length<=256->¬Lim (ZG false d un f (.mk tys acc rules comps inits overs) ((xs.map reK).flatten++r)) ->
   acc.length+xs.length<=256/\(∀x∈xs,¬Lim (Ze0 (reK x).tail))/\∃f' acc2,f<=f'+xs.length/\¬Lim (ZG false d un f' (.mk tys acc2 rules comps inits overs) r)
 | [],f,acc,h,hf,ha,hn=>⟨by simpa using ha,sM,f,acc,sM,by simpa using hn⟩
 | x::xs,0,acc,h,hf,ha,hn=>oM
 | x::xs,f+1,acc,h,hf,ha,hn=>by
  have hi:IHd ((xs.map reK).flatten++r):=VC (fun x=>⟨_,_,dM,rfl⟩) hr xs;rw [Tz,Sb,Tj,reK,Tp,ZG,Tb (ZkV dM _),Tb (by rw [ZK _ dM];simp),Tg (ZbU _ _)] at hn;split at hn
  ·exact absurd ZtF hn
  rename_i aj
  have hx:=ZfA (h x sM) (r:=(xs.map reK).flatten++r) hi;rw [TQ] at hn;rw [reK,TQ] at hx;obtain ⟨v,_,e⟩:=hx.okN fun g=>hn g.bind
  rw [e,R.bind_ok] at hn;obtain ⟨g1,g2,f',acc2,g3,g4⟩:=Zlp tys rules comps inits overs hr xs f (acc++[v]) (fun y hy=>h y (Tt _ hy)) (by simpa using hf) (by rw [Ta];simp;omega) hn;refine ⟨by simp only [Ta,Te,Th] at g1 |-;omega,fun y hy=>?_,f',acc2,by simp only [Te];omega,g4⟩;rcases Tv.1 hy with rfl | hy
  ·intro g
   have:=ZCU (J9 hi) _ g;rw [reK,TQ,e] at this;exact ZS this
  exact g2 y hy
def Zlq (tys:List Ty) (rules:List Ru) (comps:List Co) (inits:List Ini) (overs:List Ov) (hr:IHd r) :
  ∀(xs:List Re) (f:Nat) (acc:List Re),(∀x∈xs,Xx x=true)->xs.length<f->acc.length+xs.length<=256->(∀x∈xs,¬Lim (Ze0 (reK x).tail)) ->
   (∀f' acc2,f<=f'+xs.length->¬Lim (ZG false d un f' (.mk tys acc2 rules comps inits overs) r))->¬Lim (ZG false d un f (.mk tys acc rules comps inits overs) ((xs.map reK).flatten++r))
 | [],f,acc,h,hf,ha,hq,hk=>by simpa using hk f acc sM
 | x::xs,0,acc,h,hf,ha,hq,hk=>oM
 | x::xs,f+1,acc,h,hf,ha,hq,hk=>by
  have hi:IHd ((xs.map reK).flatten++r):=VC (fun x=>⟨_,_,dM,rfl⟩) hr xs;simp only [Te] at ha hf;have hx:=ZfA (h x sM) (r:=[]) (.inl rfl);rw [TL] at hx;obtain ⟨v,_,e⟩:=hx.okN (hq x sM);obtain ⟨v2,_,e2⟩:=Zwg (J9 hi) _ v [] e;rw [Tu] at e2;rw [Tz,Sb,Tj,reK,Tp,ZG,Tb (ZkV dM _),Tb (by rw [ZK _ dM];simp),Tg (ZbU _ _),Tb oM,TQ];rw [reK,TQ] at e2;rw [e2,R.bind_ok];exact Zlq tys rules comps inits overs hr xs f (acc++[v2]) (fun y hy=>h y (Tt _ hy)) oM (by simp only [Ta,Te,Th];omega) (fun y hy=>hq y (Tt _ hy)) fun f' acc2 h1=>hk f' acc2 (by simp only [Te];omega)
def ZyK {x:Ru} (h:YQ x=true) (f:Nat) (tys:List Ty) (rels:List Re) (acc:List Ru) (comps:List Co) (inits:List Ini) (overs:List Ov) (z:Ts):ZG false d un (f+1) (.mk tys rels acc comps inits overs) (ruK x++z)=if acc.length=1024 then .err (ruK x++z).length 3 else (ZdE d true (ruK x++z)).bind fun v ts=>ZG false d un f (.mk tys rels (acc++[v]) comps inits overs) ts:=by
 have hn:=(ZbX h).1;obtain ⟨l,hl⟩:∃l,ruK x++z=nmT x.head::l:=⟨_,by rw [ruK,Tp]⟩
 rw [hl];have hw:∀w∈ZkU,isW (nmT x.head::l) [w]=false:=fun w hw=>Zdo hn (ZoW w hw) _
 have aj:x.head≠[125]:=fun e=>by rw [e] at hn;revert hn;decide +kernel
 rw [ZG,Tb (ZkV aj _),Tb (by rw [hw _ dM];simp),Tb (by rw [hw _ dM];simp),Tb (by rw [hw _ dM];simp),Tb (by rw [hw _ dM];simp),Tb (by rw [hw _ dM];simp),Tg (nm_named hn _)]
def ZhR (tys:List Ty) (rels:List Re) (comps:List Co) (inits:List Ini) (overs:List Ov) (hr:IHd r) :
  ∀(xs:List Ru) (f:Nat) (acc:List Ru),(∀x∈xs,YQ x=true)->xs.length<f->acc.length<=1024->¬Lim (ZG false d un f (.mk tys rels acc comps inits overs) ((xs.map ruK).flatten++r)) ->
   acc.length+xs.length<=1024/\∀x∈xs,¬Lim (ZdE d true (ruK x))
 | [],f,acc,h,hf,ha,hn=>⟨by simpa using ha,sM⟩
 | x::xs,0,acc,h,hf,ha,hn=>oM
 | x::xs,f+1,acc,h,hf,ha,hn=>by
  have hi:IHd ((xs.map ruK).flatten++r):=ZoU hr fun y hy=>h y (Tt _ hy)
  rw [Tz,Sb,Tj,ZyK (h x sM)] at hn;split at hn
  ·exact absurd ZtF hn
  rename_i aj
  have hx:=Zfy (h x sM) d ((xs.map ruK).flatten++r);obtain ⟨v,_,e⟩:=hx.okN fun g=>hn g.bind
  rw [e,R.bind_ok] at hn;obtain ⟨g1,g2⟩:=ZhR tys rels comps inits overs hr xs f (acc++[v]) (fun y hy=>h y (Tt _ hy)) (by simpa using hf) (by rw [Ta];simp;omega) hn;refine ⟨by simp only [Ta,Te,Th] at g1 |-;omega,fun y hy=>?_⟩;rcases Tv.1 hy with rfl | hy
  ·intro g
   have:=ZCV (J9 hi) _ _ _ g;rw [e] at this;exact ZS this
  exact g2 y hy
def ZhS (tys:List Ty) (rels:List Re) (comps:List Co) (inits:List Ini) (overs:List Ov) (hr:IHd r) :
  ∀(xs:List Ru) (f:Nat) (acc:List Ru),(∀x∈xs,YQ x=true)->xs.length<f->acc.length+xs.length<=1024->(∀x∈xs,¬Lim (ZdE d true (ruK x))) ->
   (∀f' acc2,f<=f'+xs.length->¬Lim (ZG false d un f' (.mk tys rels acc2 comps inits overs) r))->¬Lim (ZG false d un f (.mk tys rels acc comps inits overs) ((xs.map ruK).flatten++r))
 | [],f,acc,h,hf,ha,hq,hk=>by simpa using hk f acc sM
 | x::xs,0,acc,h,hf,ha,hq,hk=>oM
 | x::xs,f+1,acc,h,hf,ha,hq,hk=>by
  have hi:IHd ((xs.map ruK).flatten++r):=ZoU hr fun y hy=>h y (Tt _ hy)
  simp only [Te] at ha hf;have hx:=Zfy (h x sM) d [];rw [TL] at hx;obtain ⟨v,_,e⟩:=hx.okN (hq x sM);obtain ⟨v2,_,e2⟩:=Zwi (J9 hi) _ _ _ v [] e;rw [Tu] at e2;rw [Tz,Sb,Tj,ZyK (h x sM),Tb oM,e2,R.bind_ok];exact ZhS tys rels comps inits overs hr xs f (acc++[v2]) (fun y hy=>h y (Tt _ hy)) oM (by simp only [Ta,Te,Th];omega) (fun y hy=>hq y (Tt _ hy)) fun f' acc2 h1=>hk f' acc2 (by simp only [Te];omega)
end
def ZuK {ty:List Ty} {re:List Re} {a l:List Ru} (hm:ZbN (.mk ty re a [] [] [])=true) (hl:∀x∈l,x∈a) (hn:l.length<=a.length) (h:¬Lim (Wp (unK (.mk ty re a [] [] [])))):¬Lim (Wp (unK (.mk ty re l [] [] []))):=by
 obtain ⟨m1,m2,m3,_,_,_⟩:=ZiU hm;have m3':∀x∈l,YQ x=true:=fun x hx=>m3 x (hl x hx)
 have l1:=UW (K:=tyK) (fun x=>by rw [tyK];simp) ty;have l2:=UW (K:=reK) (fun x=>by rw [reK];simp) re;have l3:=UW (K:=ruK) (fun x=>by rw [ruK];simp) a;have l4:=UW (K:=ruK) (fun x=>by rw [ruK];simp) l;have hI:∀x:List Ru,(∀y∈x,YQ y=true)->IHd ((x.map ruK).flatten++[]):=fun x hx=>ZoU (.inl rfl) hx
 have hJ:∀x:List Ru,(∀y∈x,YQ y=true)->IHd ((re.map reK).flatten++((x.map ruK).flatten++[])):=fun x hx=>VC (fun x=>⟨_,_,dM,rfl⟩) (hI x hx) re
 have hU:∀x:List Ru,unK (.mk ty re x [] [] [])=(ty.map tyK).flatten++((re.map reK).flatten++((x.map ruK).flatten++[])):=fun x=>by rw [ZFe];simp
 rw [hU] at h |-;unfold Wp Zkp at h |-
 obtain ⟨g1,g2,f1,a1,g3,h⟩:=ZhP _ _ _ _ _ (hJ a m3) ty _ [] m1 (by simp only [Ta];omega) sM h;simp only [Ta] at g3;obtain ⟨g4,g5,f2,a2,g6,h⟩:=Zlp _ _ _ _ _ (hI a m3) re f1 [] m2 oM sM h;obtain ⟨g7,g8⟩:=ZhR _ _ _ _ _ (.inl rfl) a f2 [] m3 oM sM h;simp only [Th,Se] at g1 g4 g7;refine ZhQ _ _ _ _ _ (hJ l m3') ty _ [] m1 (by simp only [Ta];omega) (by simpa using g1) g2 fun f3 a3 g9=>?_
 simp only [Ta] at g9;refine Zlq _ _ _ _ _ (hI l m3') re f3 [] m2 oM (by simpa using g4) g5 fun f4 a4 ga=>?_
 refine ZhS _ _ _ _ _ (.inl rfl) l f4 [] m3' oM sO (fun x hx=>g8 x (hl x hx)) fun f5 a5 gb=>?_
 rw [Zyq (.inl ⟨rfl,rfl⟩) oM];exact ZS
def ZuL {ty:List Ty} {re:List Re} {a:List Ru} (hm:ZbN (.mk ty re a [] [] [])=true) (hr:ZiO (.mk ty re a [] [] [])=true):(Zds (.mk ty re a [] [] [])).2=0↔((unT (.mk ty re a [] [] [])).length<=65536/\(unK (.mk ty re a [] [] [])).length<=16384/\¬Lim (Wp (unK (.mk ty re a [] [] [])))):=by
 have hv:=ZCf hm hr;have wo:=ZqR hm;rw [Zds,Tg hm,<- ZCd];rw [<- ZCe] at wo |-;generalize ZDq ty re a=ps at hv wo;unfold JA
 by_cases hc:65536<(bsP ps).length
 ·rw [Tg hc];exact ⟨fun h=>by simp [UU] at h,fun h=>oM⟩
 rw [Tb hc];obtain ⟨h1,h2⟩:=ZcP ps ((bsP ps).length+1) 16384 0 hv oM
 by_cases hm:((tsP ps).length:Int)<=16384
 ·obtain ⟨l,p,e1,e2⟩:=h1 hm;have e1:ZeR (bsP ps) 16384=(l,(p,0)):=e1;rw [show ((16384:Nat):Int)=16384 from rfl,e1];simp only [ne_eq,not_true_eq_false,if_false];rw [e2];rcases wo with ⟨v',e,h⟩ | ⟨r,h | h⟩
  ·rw [h];exact ⟨fun _=>⟨oM,oM,ZS⟩,fun _=>rfl⟩
  ·rw [h];exact ⟨fun h=>by simp [UU] at h,fun h=>absurd ZtF h.2.2⟩
  rw [h];exact ⟨fun h=>by simp [UU] at h,fun h=>absurd ZkO h.2.2⟩
 obtain ⟨l,p,e1⟩:=h2 oM dM;have e1:ZeR (bsP ps) 16384=(l,(p,3)):=e1;rw [show ((16384:Nat):Int)=16384 from rfl,e1];simp only [ne_eq,show ¬(3:Nat)=0 by decide,not_false_eq_true,if_true];exact ⟨fun h=>by simp [UU] at h,fun h=>oM⟩
def ZCW {α:Type} (g:α->Nat) {l a:List α} (h:l.Sublist a):(l.map g).sum<=(a.map g).sum:=by
 induction h with
 | slnil=>exact Tw _
 | cons x h ih=>simp only [Tz,SS];omega
 | cons_cons x h ih=>simp only [Tz,SS];omega
def Zed {α:Type} (g:α->Nat) {l a:List α} {k:Nat} (h:l.Sublist (a.drop k++a.take k)):(l.map g).sum<=(a.map g).sum:=by
 have h1:=ZCW g h;have h2:(a.map g).sum=((a.take k++a.drop k).map g).sum:=by rw [SF]
 rw [Su,List.sum_append] at h1 h2;omega
def Zjh {α:Type} (f:α->Nat):∀l:List α,szS f l=(l.map fun x=>1+f x).sum
 | []=>rfl
 | x::l=>by rw [szS,Zjh f l,Tz,SS]
def Zee {α:Type} {l a:List α} {k:Nat} (h:l.Sublist (a.drop k++a.take k)) {x:α} (hx:x∈l):x∈a:=by
 rcases T1.1 (h.subset hx) with g | g
 ·exact List.mem_of_mem_drop g
 exact List.mem_of_mem_take g
def ZxJ {α:Type} {l a:List α} {k:Nat} (h:l.Sublist (a.drop k++a.take k)):l.length<=a.length:=by
 have:=h.length_le;simp only [Ta,TD,SO] at this;omega
def ZhT {ty:List Ty} {re:List Re} {a l:List Ru} {k:Nat} (h:l.Sublist (a.drop k++a.take k)) :
  wUn (.mk ty re l [] [] [])<=wUn (.mk ty re a [] [] [])/\(unT (.mk ty re l [] [] [])).length<=(unT (.mk ty re a [] [] [])).length/\(unK (.mk ty re l [] [] [])).length<=(unK (.mk ty re a [] [] [])).length/\szS Zdk l<=szS Zdk a:=by
 refine ⟨?_,?_,?_,?_⟩
 ·have:=Zed (fun x=>1+wRu x) h;simp only [wUn,Zjh wRu];omega
 ·have:=Zed (fun x=>(ruT x++[10]).length) h;simp only [unT,Ta,List.length_flatten,TW,Function.comp_def];simp only [Ta] at this;omega
 ·have:=Zed (fun x=>(ruK x).length) h;simp only [unK,Ta,List.length_flatten,TW,Function.comp_def];omega
 rw [Zjh,Zjh];exact Zed _ h
def ZxK {ty:List Ty} {re:List Re} {a l:List Ru} {k:Nat} (h:l.Sublist (a.drop k++a.take k)) (hr:ZiO (.mk ty re a [] [] [])=true) (ho:(Zds (.mk ty re a [] [] [])).2=0):ZiO (.mk ty re l [] [] [])=true/\(Zds (.mk ty re l [] [] [])).2=0:=by
 have hm:ZbN (.mk ty re a [] [] [])=true:=by
  cases hm:ZbN (.mk ty re a [] [] []) with
  | true=>rfl
  | false=>rw [Zds,hm] at ho;simp at ho
 have vg:ZbN (.mk ty re l [] [] [])=true:=by
  simp only [ZbN,Tm,To] at hm |-;exact ⟨hm.1,hm.2.1,fun x hx=>hm.2.2.1 x (Zee h hx),hm.2.2.2⟩
 have cu:ZiO (.mk ty re l [] [] [])=true:=by
  simp only [ZiO,Tm,To] at hr |-;exact ⟨fun x hx=>hr.1 x (Zee h hx),hr.2⟩
 obtain ⟨_,b2,b3,_⟩:=ZhT (ty:=ty) (re:=re) h;obtain ⟨o1,o2,o3⟩:=(ZuL hm hr).1 ho;exact ⟨cu,(ZuL vg cu).2 ⟨oM,oM,ZuK hm (fun x hx=>Zee h hx) (ZxJ h) o3⟩⟩
end Go.PM.Lex
end

section
namespace Go.PM.Lex
def Zlr (p:Pr):∀l,NZ (XC p l)
 | []=>.none
 | r::l=>by
  simp only [XC];have h:=ZfY p r (Zaj p r);split
  ·exact mq130
  exact Zlr p l
def ZxL {pl:Pl} {p:Pr} (h:(Zvj pl p).2=0):(Zds (prU p)).2=0/\ZfN p=none/\XC p p.rules=none:=by
 rw [Zf1] at h;split at h
 ·rename_i g;simp only at h;omega
 rename_i g
 cases hd:ZfN p with
 | some ae =>
  obtain ⟨a,e⟩:=ae;rw [hd] at h;have:=Zue hd;simp only [orF] at h;omega
 | none =>
 cases hr:XC p p.rules with
 | none=>exact ⟨oM,rfl,rfl⟩
 | some ae =>
 obtain ⟨a,e⟩:=ae;rw [hd,hr] at h;have:=Zlr p p.rules a e hr;simp only [orF] at h;omega
def ZGp {pl:Pl} {p:Pr} (h1:(Zds (prU p)).2=0) (h2:ZfN p=none) (h3:XC p p.rules=none):Zvj pl p=(0,0):=by
 rw [Zf1,Tb (fun g=>g h1),h2,h3];rfl
def ZCX {n:Nat} {pl:Pl} {p:Pr} (hc:ZdH n (prU p)) (hn:n<=16777216) (hz:Zd4 p<=2097152):ZGn n pl p:=by
 rintro l ⟨k,hs⟩ h0
 obtain ⟨ty,re,a⟩:=p;obtain ⟨ho,hd,hr⟩:=ZxL h0;obtain ⟨c1,c2,c3,_⟩:=hc;simp only at hs;obtain ⟨q1,q2⟩:=ZxK (ty:=ty) (re:=re) hs c1 ho;obtain ⟨b1,b2,_,b4⟩:=ZhT (ty:=ty) (re:=re) hs;simp only [prU] at c2 c3;simp only [Zd4] at hz |-;refine ⟨⟨⟨q1,by simp only [prU];omega,by simp only [prU];omega,rfl,rfl,rfl⟩,hn,oM⟩,?_⟩;exact ZGp q2 (by rw [ZxC (a:=l) (b:=a)];exact hd) (Zq9 hr fun x hx=>Zee hs hx)
end Go.PM.Lex
end

section
namespace Go.PM
structure T8 (α:Type) where
 (a0 a1 a2 a3 a4 a5 a6 a7:α)
section
variable {α:Type}
def T8.get (d:α) (t:T8 α):Nat->α
 | 0=>t.a0
 | 1=>t.a1
 | 2=>t.a2
 | 3=>t.a3
 | 4=>t.a4
 | 5=>t.a5
 | 6=>t.a6
 | 7=>t.a7
 | _=>d
def T8.set (t:T8 α) (x:α):Nat->T8 α
 | 0=>⟨x,t.a1,t.a2,t.a3,t.a4,t.a5,t.a6,t.a7⟩
 | 1=>⟨t.a0,x,t.a2,t.a3,t.a4,t.a5,t.a6,t.a7⟩
 | 2=>⟨t.a0,t.a1,x,t.a3,t.a4,t.a5,t.a6,t.a7⟩
 | 3=>⟨t.a0,t.a1,t.a2,x,t.a4,t.a5,t.a6,t.a7⟩
 | 4=>⟨t.a0,t.a1,t.a2,t.a3,x,t.a5,t.a6,t.a7⟩
 | 5=>⟨t.a0,t.a1,t.a2,t.a3,t.a4,x,t.a6,t.a7⟩
 | 6=>⟨t.a0,t.a1,t.a2,t.a3,t.a4,t.a5,x,t.a7⟩
 | 7=>⟨t.a0,t.a1,t.a2,t.a3,t.a4,t.a5,t.a6,x⟩
 | _=>t
def lt8 {P:Nat->Prop} {i:Nat} (h:i<8) (h0:P 0) (h1:P 1) (h2:P 2) (h3:P 3) (h4:P 4) (h5:P 5) (h6:P 6) (h7:P 7):P i:=by
 match i,h with
 | 0,_=>exact h0
 | 1,_=>exact h1
 | 2,_=>exact h2
 | 3,_=>exact h3
 | 4,_=>exact h4
 | 5,_=>exact h5
 | 6,_=>exact h6
 | 7,_=>exact h7
def ZKb (d:α) (t:T8 α) (x:α) {i j:Nat} (hi:i<8) (hj:j<8):(t.set x i).get d j=(match Nat.beq i j with | true=>x | false=>t.get d j):=by
 refine lt8 (P:=fun i=>(t.set x i).get d j=(match Nat.beq i j with | true=>x | false=>t.get d j)) hi ?_ ?_ ?_ ?_ ?_ ?_ ?_ ?_ <;> exact lt8 (P:=fun j=>T8.get d (T8.set t x _) j=(match Nat.beq _ j with | true=>x | false=>t.get d j)) hj rfl rfl rfl rfl rfl rfl rfl rfl
end
abbrev T64:=T8 (T8 PV)
def no8:T8 PV:=⟨.undef,.undef,.undef,.undef,.undef,.undef,.undef,.undef⟩
def no64:T64:=⟨no8,no8,no8,no8,no8,no8,no8,no8⟩
def ZCY (j:Nat):no8.get .undef j=.undef:=by unfold T8.get;split <;> rfl
def ZxM (j:Nat):no64.get no8 j=no8:=by unfold T8.get;split <;> rfl
def ZnG (h:T64) (n:Nat):PV:=(h.get no8 (Nat.div n 8)).get .undef (Nat.mod n 8)
def ZxN (h:T64) (x:PV) (n:Nat):T64:=h.set ((h.get no8 (Nat.div n 8)).set x (Nat.mod n 8)) (Nat.div n 8)
def d8 {n:Nat} (h:n<64):Nat.div n 8<8:=Nat.div_lt_of_lt_mul h
def m8 (n:Nat):Nat.mod n 8<8:=Nat.mod_lt _ dM
def m64 (n:Nat):Nat.mod n 64<64:=Nat.mod_lt _ dM
def ZyL {k i j:Nat} (hk:0<k):Nat.beq i j=(match Nat.beq (Nat.div i k) (Nat.div j k) with | true=>Nat.beq (Nat.mod i k) (Nat.mod j k) | false=>false):=by
 have hi:k * Nat.div i k+Nat.mod i k=i:=Nat.div_add_mod i k;have hj:k * Nat.div j k+Nat.mod j k=j:=Nat.div_add_mod j k
 cases hb:Nat.beq (Nat.div i k) (Nat.div j k) with
 | false =>
  cases hc:Nat.beq i j with
  | false=>rfl
  | true=>rw [Tl hc,Nat.beq_refl] at hb;cases hb
 | true =>
 have h1:=Tl hb;simp only;rw [Bool.eq_iff_iff,Nat.beq_eq,Nat.beq_eq]
 constructor
 ·intro h;rw [h]
 intro h;rw [<- hi,<- hj,h1,h]
def Zga (h:T64) (x:PV) {i j:Nat} (hi:i<64) (hj:j<64):ZnG (ZxN h x i) j=(match Nat.beq i j with | true=>x | false=>ZnG h j):=by
 unfold ZnG ZxN
 rw [ZKb _ _ _ (d8 hi) (d8 hj),ZyL (k:=8) (i:=i) (j:=j) dM]
 cases hb:Nat.beq (Nat.div i 8) (Nat.div j 8) with
 | false=>rfl
 | true =>
 simp only;rw [ZKb _ _ _ (m8 i) (m8 j),Tl hb]
structure FT where
 h:T64
 r:List T64
def FT.leaf:FT:=⟨no64,[]⟩
def FT.blk (t:FT) (k:Nat):T64:=match k with
 | 0=>t.h
 | k+1=>match t.r[k]? with | some m=>m | none=>no64
def FT.get (t:FT) (n:Nat):PV:=ZnG (t.blk (Nat.div n 64)) (Nat.mod n 64)
def FT.put (x:PV) (t:FT) (n:Nat):Option FT:=match Nat.div n 64 with
 | 0=>some ⟨ZxN t.h x (Nat.mod n 64),t.r⟩
 | k+1=>match t.r[k]? with
  | some m=>some ⟨t.h,t.r.set k (ZxN m x (Nat.mod n 64))⟩
  | none=>none
def FT.full (n:Nat):FT:=⟨no64,List.replicate n no64⟩
def ZKg (k:Nat):(FT.full k).get=fun _=>.undef:=by
 funext n
 have:(FT.full k).blk (Nat.div n 64)=no64:=by
  unfold FT.blk FT.full
  split
  ·rfl
  simp only [Sm];split <;> rename_i h <;> split at h <;> first | (cases h;rfl) | (cases h;done) | rfl
 unfold FT.get ZnG
 rw [this,ZxM,ZCY]
def ZKc {x:PV} {t:FT} {n:Nat} {t':FT} (h:t.put x n=some t'):t'.get=U6 t.get n x:=by
 funext j
 show ZnG (t'.blk _) _=(match Nat.beq n j with | true=>x | false=>ZnG (t.blk _) _);rw [ZyL (k:=64) (i:=n) (j:=j) dM];unfold FT.put at h
 split at h
 ·rename_i hk
  cases h
  rw [hk]
  cases hj:Nat.div j 64 with
  | zero=>exact Zga _ _ (m64 n) (m64 j)
  | succ k=>rfl
 rename_i k hk
 split at h
 ·rename_i m hm
  cases h
  rw [hk]
  cases hj:Nat.div j 64 with
  | zero=>rfl
  | succ k' =>
  have ab:k<t.r.length:=(Ti.1 hm).1
  cases hb:Nat.beq (k+1) (k'+1) with
  | true =>
   have:=Tl hb;have:k=k':=oM;subst this;simp only [FT.blk,SJ ab,hm];exact Zga _ _ (m64 n) (m64 j)
  | false =>
  have aj:k≠k':=fun he=>by subst he;rw [Nat.beq_refl] at hb;cases hb
  simp only [FT.blk,SV aj]
 cases h
def argT:Nat->List PV->FT->Option FT
 | _,[],t=>some t
 | i,v::vs,t=>match argT (i+1) vs t with | some t=>t.put v i | none=>none
def Zps {t0:FT} (h0:t0.get=fun _=>.undef):∀{vs:List PV} {i:Nat} {t:FT},argT i vs t0=some t->t.get=Zen i vs
 | [],i,t,h=>by simp only [argT,Option.some.injEq] at h;subst h;rw [h0];rfl
 | v::vs,i,t,h=>by
  simp only [argT] at h;split at h
  ·rename_i t1 h1;rw [ZKc h,Zps h0 h1];rfl
  cases h
section
variable {α β:Type}
def Zrc (n:Nat) (k:Nat->Option α):Option α:=match n with
 | 0=>k 0
 | m+1=>k (Nat.succ m)
def ZIc (n:Int) (k:Int->Option α):Option α:=match n with
 | .ofNat m=>Zrc m fun m=>k (.ofNat m)
 | .negSucc m=>Zrc m fun m=>k (.negSucc m)
def ZIZ (b:Bool) (k:Bool->Option α):Option α:=match b with | true=>k true | false=>k false
def ZDs (l:List β) (k:List β->Option α):Option α:=match l with
 | []=>k []
 | x::l=>ZDs l fun l=>k (x::l)
def ZId (x:D) (k:D->Option α):Option α:=match x with
 | .int q n=>ZIc n fun n=>k (.int q n)
 | .bool b=>ZIZ b fun b=>k (.bool b)
 | .str s=>ZDs s fun s=>k (.str s)
 | .sl rows=>ZDs rows fun rows=>k (.sl rows)
 | .nilp=>k .nilp
 | .nilf=>k .nilf
 | .nili=>k .nili
def ZG1 (v:PV) (k:PV->Option α):Option α:=match v with
 | .d x=>ZId x fun x=>k (.d x)
 | .undef=>k .undef
 | .ptr b off=>Zrc b fun b=>Zrc off fun off=>k (.ptr b off)
 | .elem r off=>Zrc off fun off=>k (.elem r off)
 | .sl t e rows=>Zrc t fun t=>ZDs rows fun rows=>k (.sl t e rows)
 | .nils e=>k (.nils e)
 | .asl b off n=>k (.asl b off n)
 | .func f a c=>k (.func f a c)
 | .iface t v=>k (.iface t v)
 | .agg cs=>k (.agg cs)
 | .tuple vs=>k (.tuple vs)
 | .raw v=>k (.raw v)
 | .mp b=>Zrc b fun b=>k (.mp b)
 | .nilm=>k .nilm
def ZDt (l:List PV) (k:List PV->Option α):Option α:=match l with
 | []=>k []
 | v::l=>ZG1 v fun v=>ZDt l fun l=>k (v::l)
def ZDu (l:List Nat) (k:List Nat->Option α):Option α:=match l with
 | []=>k []
 | n::l=>Zrc n fun n=>ZDu l fun l=>k (n::l)
def Zrl (l:List Box) (k:List Box->Option α):Option α:=match l with
 | []=>k []
 | .cells t cs::l=>ZDt cs fun cs=>Zrl l fun l=>k (.cells t cs::l)
 | .iter s p::l=>Zrc p fun p=>Zrl l fun l=>k (.iter s p::l)
 | .map cs bn ck::l=>ZDt cs fun cs=>ZDu bn fun bn=>Zrc ck fun ck=>Zrl l fun l=>k (.map cs bn ck::l)
 | x::l=>Zrl l fun l=>k (x::l)
def ZuM (σ:St) (k:St->Option α):Option α:=Zrl σ.bx fun bx=>ZDu σ.tk fun tk=>Zrc σ.nx fun nx=>k ⟨bx,tk,nx⟩
def Zbc (n:Nat) (k:Nat->Option α):Zrc n k=k n:=by cases n <;> rfl
def ZCZ (n:Int) (k:Int->Option α):ZIc n k=k n:=by cases n <;> simp only [ZIc,Zbc]
def ZC0 (n:Bool) (k:Bool->Option α):ZIZ n k=k n:=by cases n <;> rfl
def ZnH:∀(l:List β) (k:List β->Option α),ZDs l k=k l
 | [],_=>rfl
 | x::l,k=>by simp only [ZDs,ZnH l]
def ZC1 (x:D) (k:D->Option α):ZId x k=k x:=by cases x <;> simp only [ZId,ZCZ,ZC0,ZnH]
def ZuN (v:PV) (k:PV->Option α):ZG1 v k=k v:=by cases v <;> simp only [ZG1,ZC1,Zbc,ZnH]
def Zgb:∀(l:List PV) (k:List PV->Option α),ZDt l k=k l
 | [],_=>rfl
 | v::l,k=>by simp only [ZDt,ZuN,Zgb l]
def Zgc:∀(l:List Nat) (k:List Nat->Option α),ZDu l k=k l
 | [],_=>rfl
 | n::l,k=>by simp only [ZDu,Zbc,Zgc l]
def Zbd:∀(l:List Box) (k:List Box->Option α),Zrl l k=k l
 | [],_=>rfl
 | .cells t cs::l,k=>by simp only [Zrl,Zgb,Zbd l]
 | .iter s p::l,k=>by simp only [Zrl,Zbc,Zbd l]
 | .loop a b c::l,k=>by simp only [Zrl,Zbd l]
 | .dmap m::l,k=>by simp only [Zrl,Zbd l]
 | .smap el m fo::l,k=>by simp only [Zrl,Zbd l]
 | .map cs bn ck::l,k=>by simp only [Zrl,Zgb,Zgc,Zbc,Zbd l]
def Zji (σ:St) (k:St->Option α):ZuM σ k=k σ:=by simp only [ZuM,Zbd,Zgc,Zbc]
end
end Go.PM
end

section
namespace Go.PM
def ieq:Int->Int->Bool
 | .ofNat m,.ofNat n=>Nat.beq m n
 | .negSucc m,.negSucc n=>Nat.beq m n
 | _,_=>false
def ilt:Int->Int->Bool
 | .ofNat m,.ofNat n=>Nat.ble (m+1) n
 | .negSucc m,.negSucc n=>Nat.ble (n+1) m
 | .negSucc _,.ofNat _=>true
 | .ofNat _,.negSucc _=>false
def ZuO (a b:Int):ieq a b=decide (a=b):=by
 cases a <;> cases b <;> simp only [ieq]
 ·rw [Bool.eq_iff_iff,Nat.beq_eq,decide_eq_true_iff,Int.ofNat_eq_natCast,Int.ofNat_eq_natCast];omega
 ·simp
 ·simp
 rw [Bool.eq_iff_iff,Nat.beq_eq,decide_eq_true_iff];simp
def Zls (a b:Int):ilt a b=decide (a<b):=by
 cases a <;> cases b <;> simp only [ilt]
 ·rw [Bool.eq_iff_iff,S3,decide_eq_true_iff,Int.ofNat_eq_natCast,Int.ofNat_eq_natCast];omega
 ·symm;rw [decide_eq_false_iff_not,Int.ofNat_eq_natCast];omega
 ·symm;rw [decide_eq_true_iff,Int.ofNat_eq_natCast];omega
 rw [Bool.eq_iff_iff,S3,decide_eq_true_iff];omega
def ZGq (a b:Int):(!ilt a b)=decide (b<=a):=by
 rw [Zls,<- decide_not];congr 1;rw [eq_iff_iff];omega
def ZI0:IntKind->Nat
 | .i8=>127 | .i16=>32767 | .i32=>2147483647 | .i64=>9223372036854775807 | .u8=>255 | .u16=>65535 | .u32=>4294967295 | .u64=>18446744073709551615
def Zjj (k:IntKind) (n:Int):Int:=match n with
 | .ofNat m=>match Nat.ble m (ZI0 k) with | true=>.ofNat m | false=>k.wrap (.ofNat m)
 | .negSucc m=>k.wrap (.negSucc m)
def Zjk (k:IntKind) (n:Int):Zjj k n=k.wrap n:=by
 cases n with
 | negSucc m=>rfl
 | ofNat m =>
 simp only [Zjj];split
 ·rename_i h
  have h:=Td h
  symm
  cases k <;> simp only [ZI0] at h <;> simp [IntKind.wrap,IntKind.bits,IntKind.signed] <;> omega
 rfl
def ZgD:List UInt8->List UInt8->Bool
 | [],[]=>true
 | a::x,b::y=>match Nat.beq a.toNat b.toNat with | true=>ZgD x y | false=>false
 | _,_=>false
def Zjl:∀(a b:List UInt8),ZgD a b=decide (a=b)
 | [],[]=>rfl
 | [],_::_=>by simp [ZgD]
 | _::_,[]=>by simp [ZgD]
 | a::x,b::y=>by
  simp only [ZgD];split
  ·rename_i h
   have:a=b:=UInt8.toNat_inj.1 (Tl h);subst this;rw [Zjl x y];simp
  rename_i h
  symm;rw [decide_eq_false_iff_not]
  intro he;cases he;simp at h
def ZC2 (op:BinOp) (k:IntKind) (a b:Int):Option PV:=match op with
 | .add=>some (.d (.int k (Zjj k (a+b)))) | .sub=>some (.d (.int k (Zjj k (a - b)))) | .mul=>some (.d (.int k (Zjj k (a * b))))
 | .quo=>match ieq b 0 with | true=>none | false=>some (.d (.int k (Zjj k (a.tdiv b))))
 | .rem=>match ieq b 0 with | true=>none | false=>some (.d (.int k (a.tmod b)))
 | .and=>some (.d (.int k (Uy .and k a b))) | .or=>some (.d (.int k (Uy .or k a b))) | .xor=>some (.d (.int k (Uy .xor k a b))) | .andNot=>some (.d (.int k (Uy .andNot k a b)))
 | .eql=>some (.d (.bool (ieq a b))) | .neq=>some (.d (.bool (!ieq a b))) | .lss=>some (.d (.bool (ilt a b))) | .leq=>some (.d (.bool (!ilt b a)))
 | .gtr=>some (.d (.bool (ilt b a))) | .geq=>some (.d (.bool (!ilt a b)))
 | _=>none
def ZxO {op:BinOp} {k:IntKind} {a b:Int} {v:PV} {K:PV->Prop} (h:ZC2 op k a b=some v) (hK:K v):Zx6 op k a b K:=by
 have hw:∀n,K (.d (.int k (Zjj k n)))->ZdA k n K:=fun n h=>.inr (by rw [<- Zjk];exact h)
 cases op <;> simp only [ZC2,Zx6,YB] at h |- <;> first
  | (cases h;first | exact hw _ hK | exact hK | (rw [ZGq] at hK;exact hK) | (simp only [ZuO,Zls] at hK;exact hK))
  | (rw [ZuO] at h
     split at h
     ·cases h
     rename_i hd;cases h;exact ⟨of_decide_eq_false hd,by first | exact hw _ hK | exact hK⟩)
  | (cases h;done)
def ZI1 (op:BinOp) (a b:List UInt8):Option PV:=match op with
 | .add=>match Nat.ble (a.length+b.length+1) 4611686018427387904 with | true=>some (.d (.str (a++b))) | false=>none
 | .eql=>some (.d (.bool (ZgD a b))) | .neq=>some (.d (.bool (!ZgD a b)))
 | .lss=>some (.d (.bool (Op.bytesLess a b))) | .geq=>some (.d (.bool (!Op.bytesLess a b)))
 | .leq=>some (.d (.bool (Op.bytesLess a b || ZgD a b))) | .gtr=>some (.d (.bool (!(Op.bytesLess a b || ZgD a b))))
 | _=>none
def shR (op:BinOp) (k:IntKind) (a b:Int):Option PV:=match op with
 | .shl=>match ilt b 0 with | true=>none | false=>some (.d (.int k (Zjj k (a * 2 ^ (min b.toNat k.bits)))))
 | .shr=>match ilt b 0 with | true=>none | false=>some (.d (.int k (a.fdiv (2 ^ (min b.toNat k.bits)))))
 | _=>none
def ZG2:BinOp->Bool | .shl=>true | .shr=>true | _=>false
def ZC3 (T:Tab) (op:BinOp) (t:TypeId) (x y:Operand) (px py:PV):Option PV :=
 match px,py with
 | .d (.int k a),.d (.int k' b)=>match ZG2 op with
  | true=>shR op k a b
  | false=>match keq k k' with | true=>ZC2 op k a b | false=>none
 | .d (.str a),.d (.str b)=>ZI1 op a b
 | _,_=>none
def ZxP {T:Tab} {op:BinOp} {t:TypeId} {x y:Operand} {px py v:PV} {K:PV->Prop} (h:ZC3 T op t x y px py=some v) (hK:K v):Zu8 T op t x y px py K:=by
 unfold ZC3 at h
 unfold Zu8
 split at h
 ·rename_i k a k' b
  cases hs:ZG2 op with
  | true =>
   rw [hs] at h;simp only [shR] at h
   cases op <;> simp only [ZG2] at hs <;> first | (cases hs;done) | skip
   all_goals
    simp only [Zls] at h |-;split at h
    ·cases h
    rename_i h1;cases h
    refine ⟨by have:=of_decide_eq_false h1;omega,?_⟩
    first | exact hK | (exact .inr (by rw [<- Zjk];exact hK))
  | false =>
  rw [hs] at h;simp only at h;split at h
  ·rename_i hq
   cases op <;> simp only [ZG2] at hs <;> first | (cases hs;done) | (simp only [hq];exact ZxO h hK)
  cases h
 ·rename_i a b
  simp only [ZI1] at h
  cases op <;> simp only [<- Zjl] at h |- <;> first
   | (cases h;exact hK)
   | (split at h
      ·rename_i hl;cases h;exact ⟨by have:=Td hl;omega,hK⟩
      cases h)
   | (cases h;done)
 split
 ·exact False.elim (by solve_by_elim)
 ·exact False.elim (by solve_by_elim)
 cases op <;> simp only at h |- <;> first
  | (split at h
     ·rename_i hr;cases h;exact peqR_ok hr hK
     cases h)
  | (cases h;done)
end Go.PM
end

section
namespace Go.PM
def Zgd (lo hi:Option PV) (len:Nat):Option (Nat×Nat) :=
 match lo,hi with
 | none,none=>some (0,len)
 | some x,none=>match x with
  | .d (.int _ (.ofNat n))=>match Nat.ble n len with | true=>some (n,len) | false=>none
  | _=>none
 | none,some y=>match y with
  | .d (.int _ (.ofNat m))=>match Nat.ble m len with | true=>some (0,m) | false=>none
  | _=>none
 | some x,some y=>match x,y with
  | .d (.int _ (.ofNat n)),.d (.int _ (.ofNat m))=>match Nat.ble n m,Nat.ble m len with | true,true=>some (n,m) | _,_=>none
  | _,_=>none
def Zlt {lo hi:Option PV} {len:Nat} {a b:Nat} {K:Nat->Nat->Prop} (h:Zgd lo hi len=some (a,b)) (hK:K a b):Wu lo hi len K:=by
 unfold Zgd at h
 unfold Wu
 split at h
 ·cases h;exact hK
 ·exact mq122
 ·exact mq122
 split at h
 ·split at h
  ·rename_i cq ge;cases h;have:=Td cq;have h2:=Td ge;exact ⟨Int.natCast_nonneg _,Int.ofNat_le.2 this,Int.ofNat_le.2 h2,hK⟩
  cases h
 cases h
def Zpt (sz:Nat):List (List D)->Bool
 | []=>true
 | r::l=>match Nat.beq r.length sz with | true=>Zpt sz l | false=>false
def Zge {sz:Nat}:∀{l:List (List D)},Zpt sz l=true->∀r∈l,r.length=sz
 | [],_,r,hr=>by cases hr
 | x::l,h,r,hr=>by
  simp only [Zpt] at h;split at h
  ·rename_i hb
   rcases Tv.1 hr with rfl | hr
   ·exact Tl hb
   exact Zge h r hr
  cases h
def VP:TK->Bool | .other=>true | _=>false
def Zpu (x:PV) (lo hi:Option PV):Option PV:=match x with
 | .d (.str s)=>match Zgd lo hi s.length with | some (a,b)=>some (.d (.str (cut s a b))) | none=>none
 | _=>none
def ZnI (T:Tab) (t:TypeId) (x:PV) (lo hi:Option PV):Option PV:=match (T.get t).kind with
 | .string=>Zpu x lo hi
 | _=>none
def Zaa {k:TK} (h:VP k=false) {X:Prop}:X->(match (generalizing:=false) k with | .other=>False | _=>X):=fun x=>by
 cases k <;> first | exact x | (cases h;done)
def Zrd {T:Tab} {t:TypeId} {x:PV} {lo hi:Option PV} {v:PV} {K:PV->Prop} (h:ZnI T t x lo hi=some v) (hK:K v):U1 T t x lo hi K:=by
 unfold ZnI at h
 unfold U1
 split at h
 ·rename_i hk
  simp only [hk];unfold Zpu at h
  split at h
  ·split at h
   ·rename_i hb;cases h;exact Zlt hb hK
   cases h
  cases h
 cases h
def ZGr (T:Tab) (t:TypeId) (cs:List PV) (off:Nat):Option PV:=match (T.get t).kind.isAgg with
 | true=>match VT (T.get t).size (cs.drop off) with | some l=>some (.agg l) | none=>none
 | false=>match VP (T.get t).kind with | true=>none | false=>cs[off]?
def ZGs (T:Tab) (t:TypeId) (r:List D) (off:Nat):Option PV:=match (T.get t).kind.isAgg with
 | true=>match VT (T.get t).size (r.drop off) with | some l=>some (.agg (l.map .d)) | none=>none
 | false=>match VP (T.get t).kind with | true=>none | false=>match r[off]? with | some v=>some (.d v) | none=>none
def Zpv (T:Tab) (t:TypeId) (x:PV) (bx:List Box):Option PV:=match x with
 | .ptr b off=>match bx[b]? with
  | some (.cells _ cs)=>ZGr T t cs off
  | _=>none
 | .elem r off=>ZGs T t r off
 | _=>none
def Zlu {T:Tab} {t:TypeId} {x:PV} {bx:List Box} {v:PV} {K:PV->Prop} (h:Zpv T t x bx=some v) (hK:K v):ZaA T t x bx K:=by
 unfold Zpv at h
 unfold ZaA
 split at h
 ·split at h
  ·rename_i hb
   simp only [hb];unfold ZGr at h
   split at h <;> rename_i hk <;> simp only [hk]
   ·split at h
    ·rename_i h1;cases h;simp only [h1];exact hK
    cases h
   split at h
   ·cases h
   rename_i ho;refine Zaa ho ?_;rw [h];exact hK
  cases h
 ·unfold ZGs at h
  split at h <;> rename_i hk <;> simp only [hk]
  ·split at h
   ·rename_i h1;cases h;simp only [h1];exact hK
   cases h
  split at h
  ·cases h
  rename_i ho
  refine Zaa ho ?_;split at h
  ·rename_i h1;cases h;rw [h1];exact hK
  cases h
 cases h
def Uw (T:Tab) (fs:List (Nat×Nat)) (ρ:Operand->PV):List (Nat×Operand)->List PV->Option (List PV)
 | [],cs=>some cs
 | (i,x)::ps,cs=>match fs[i]?,(ρ x).cells with
  | some (o,t),some l=>match Nat.beq l.length (T.get t).size,Nat.ble (o+l.length) cs.length,VP (T.get t).kind with
   | true,true,false=>Uw T fs ρ ps (Z9 cs o l)
   | _,_,_=>none
  | _,_=>none
def Zcc {T:Tab} {fs:List (Nat×Nat)} {ρ:Operand->PV}:∀{ps:List (Nat×Operand)} {cs r:List PV} {K:List PV->Prop},Uw T fs ρ ps cs=some r->K r->Yp T fs ρ ps cs K
 | [],cs,r,K,h,hK=>by simp only [Uw,Option.some.injEq] at h;subst h;exact hK
 | (i,x)::ps,cs,r,K,h,hK=>by
  unfold Uw at h
  unfold Yp
  split at h
  ·rename_i o t l h1 h2
   simp only [h1,h2];split at h
   ·rename_i h3 h4 h5
    simp only [h3,h4];split
    ·rename_i he;rw [he] at h5;cases h5
    ·exact Zcc h hK
    rename_i hn _;exact (hn rfl rfl).elim
   cases h
  cases h
end Go.PM
end

section
namespace Go.PM
def ZxQ (T:Tab) (ty:TypeId) (v:PV):Option PV:=match v with
 | .nils _=>match (T.get ty).kind with | .slice e=>some (.nils e) | _=>some (.nils 0)
 | v=>some v
def Zpw {T:Tab} {ty:TypeId} {v u:PV} {K:PV->Prop} (h:ZxQ T ty v=some u) (hK:K u):(match (generalizing:=false) v with | .nils _=>(match (T.get ty).kind with | .slice e=>K (.nils e) | _=>K (.nils 0)) | v=>K v):=by
 cases v <;> simp only [ZxQ] at h |- <;> first
  | (cases h;exact hK)
  | (cases hk:(T.get ty).kind <;> rw [hk] at h <;> cases h <;> exact hK)
def ZGt (c a b:PV):Option PV:=match c with | .d (.bool true)=>some a | .d (.bool false)=>some b | _=>none
def ZyM (T:Tab) (t:TypeId) (ρ:Operand->PV) (ps:List (Nat×Operand)):Option PV:=match (T.get t).kind with
 | .struct fs=>match Uw T fs ρ ps (T.get t).zero with | some cs=>some (.agg cs) | none=>none
 | _=>none
def Zlv (v:PV):Option PV:=match v with
 | .ptr b off=>some (.ptr b off)
 | .elem r off=>some (.elem r off)
 | _=>none
def unR (op:UnOp) (v:PV):Option PV:=match op,v with
 | .not,.d (.bool b)=>some (.d (.bool (!b)))
 | _,_=>none
def ZGu (T:Tab) (s d:TypeId) (v:PV):Option PV:=match (T.get s).kind with
 | .other=>none
 | .slice e=>none
 | _=>match (T.get d).kind,v with
  | .int k,.d (.int _ n)=>some (.d (.int k (Zjj k n)))
  | .string,.d (.str s)=>some (.d (.str s))
  | _,_=>none
def ZhU (T:Tab) (s:TypeId) (v:PV) (i:Nat):Option PV:=match (T.get s).kind with
 | .struct fs=>match fs[i]?,v with
  | some (o,_),.ptr b off=>some (.ptr b (off+o))
  | some (o,_),.elem r off=>some (.elem r (off+o))
  | _,_=>none
 | _=>none
def ZyN (T:Tab) (t:TypeId) (v i:PV):Option PV:=match i with
 | .d (.int _ (.ofNat n))=>match (T.get t).kind,v with
  | .string,.d (.str s)=>(match s[n]? with | some b=>some (.d (.int .u8 b.toNat)) | none=>none)
  | _,_=>none
 | _=>none
def ZhV (T:Tab) (t:TypeId) (v i:PV):Option PV:=match i with
 | .d (.int _ (.ofNat n))=>match (T.get t).kind with
  | .slice e=>match VP (T.get e).kind with
   | true=>none
   | false=>match v with
    | .d (.sl rows)=>(match rows[n]? with | some r=>(match Nat.beq r.length (T.get e).size with | true=>some (.elem r 0) | false=>none) | none=>none)
    | .sl _ _ rows=>(match rows[n]? with | some r=>(match Nat.beq r.length (T.get e).size with | true=>some (.elem r 0) | false=>none) | none=>none)
    | _=>none
  | _=>none
 | _=>none
def Zpx (v:PV) (i:Nat):Option PV:=match v with
 | .tuple vs=>vs[i]?
 | _=>none
def ZI2 (T:Tab) (t:TypeId) (v:PV) (bx:List Box):Option PV:=match (T.get t).kind with
 | .string=>(match v with | .d (.str s)=>some (.d (.int .i64 s.length)) | _=>none)
 | .slice _=>match v with
  | .asl _ _ n=>none
  | v=>(match toD v with | some (.sl rows)=>some (.d (.int .i64 rows.length)) | _=>none)
 | _=>none
def ZI3 (a b:PV):Option PV:=match a,b with
 | .d (.int k a),.d (.int k' b)=>(match keq k k',ilt b a with | true,true=>some (.d (.int k b)) | true,false=>some (.d (.int k a)) | _,_=>none)
 | _,_=>none
def Zpy (T:Tab) (b:Builtin) (ts:List TypeId) (vs:List PV) (bx:List Box):Option PV:=match b,ts,vs with
 | .len,t::_,[v]=>ZI2 T t v bx
 | .min,_,[a,b]=>ZI3 a b
 | _,_,_=>none
def ZyO (T:Tab) (ρ:Operand->PV) (bx:List Box) (c:Call):Option PV:=match c with
 | { callee:=.builtin b,args,argTypes }=>Zpy T b argTypes.toList (args.toList.map ρ) bx
 | _=>none
def ZIe (T:Tab) (o:Op) (ty:TypeId) (ρ:Operand->PV) (bx:List Box):Option PV:=match o with
 | .move x=>ZxQ T ty (ρ x)
 | .assign x=>ZxQ T ty (ρ x)
 | .pick c a b=>ZGt (ρ c) (ρ a) (ρ b)
 | .build t ps=>ZyM T t ρ ps.toList
 | .load t a=>Zpv T t (ρ a) bx
 | .nilCheck x=>Zlv (ρ x)
 | .binOp op t x y _=>ZC3 T op t x y (ρ x) (ρ y)
 | .unOp op _ x=>unR op (ρ x)
 | .convert s d x=>ZGu T s d (ρ x)
 | .fieldAddr s x i=>ZhU T s (ρ x) i
 | .index t x i=>ZyN T t (ρ x) (ρ i)
 | .indexAddr t x i=>ZhV T t (ρ x) (ρ i)
 | .slice t x lo hi none=>ZnI T t (ρ x) (lo.map ρ) (hi.map ρ)
 | .extract x i=>Zpx (ρ x) i
 | .call c=>ZyO T ρ bx c
 | _=>none
def ZC4 {T:Tab} {o:Op} {ty:TypeId} {ρ:Operand->PV} {bx:List Box} {v:PV} {K:PV->Prop} (h:ZIe T o ty ρ bx=some v) (hK:K v):qop T o ty ρ bx K:=by
 unfold ZIe at h
 split at h
 ·exact Zpw h hK
 ·exact Zpw h hK
 ·unfold ZGt at h
  exact mq153
 ·unfold ZyM at h
  simp only [qop];split at h
  ·rename_i hk
   simp only [hk];split at h
   ·rename_i h1;cases h;exact Zcc h1 hK
   cases h
  cases h
 ·exact Zlu h hK
 ·unfold Zlv at h
  exact mq153
 ·exact ZxP h hK
 ·unfold unR at h
  simp only [qop];split at h
  ·rename_i hx;cases h;simp only [hx];exact hK
  cases h
 ·unfold ZGu at h
  simp only [qop];split at h
  ·cases h
  ·cases h
  rename_i fe ip
  split
  ·rename_i hk;exact (fe hk).elim
  ·rename_i hk;exact (ip _ hk).elim
  split at h
  ·rename_i h1 h2;cases h;simp only [h1,h2];exact .inr (by rw [<- Zjk];exact hK)
  ·exact mq144
  cases h
 ·unfold ZhU at h
  simp only [qop];split at h
  ·rename_i hk
   simp only [hk];split at h
   ·exact mq144
   ·exact mq144
   cases h
  cases h
 ·unfold ZyN at h
  simp only [qop];split at h
  ·rename_i n hi
   simp only [hi];split at h
   ·rename_i s h1 h2
    simp only [h1,h2];split at h
    ·rename_i b hb
     cases h
     have ab:=(Ti.1 hb).1;refine ⟨Int.natCast_nonneg _,Int.ofNat_lt.2 ab,?_⟩;have:List.getD s (Int.ofNat n).toNat 0=b:=by show List.getD s n 0=b;rw [T5,hb];rfl
     rw [this];exact hK
    cases h
   cases h
  cases h
 ·unfold ZhV at h
  simp only [qop];split at h
  ·rename_i n hi
   simp only [hi];split at h
   ·rename_i hk
    simp only [hk];split at h
    ·cases h
    rename_i ho
    refine Zaa ho ?_;split at h
    ·exact mq100
    ·exact mq100
    cases h
   cases h
  cases h
 ·exact Zrd h hK
 ·unfold Zpx at h
  simp only [qop];split at h
  ·rename_i hx;simp only [hx,h];exact hK
  cases h
 ·unfold ZyO at h
  split at h
  ·unfold Zpy at h
   simp only [qop];split at h
   ·rename_i h1 h2
    simp only [h1,h2];unfold ZI2 at h
    split at h
    ·rename_i hk;simp only [hk];split at h
     ·cases h;exact hK
     cases h
    ·rename_i hk
     simp only [hk];split at h
     ·cases h
     rename_i hn
     split at h
     ·rename_i hd
      cases h
      split
      ·exact (hn _ _ _ rfl).elim
      simp only [hd];exact hK
     cases h
    cases h
   ·rename_i h1
    simp only [h1];unfold ZI3 at h
    split at h
    ·split at h
     ·rename_i hq hl
      cases h
      simp only [hq];rw [Zls] at hl;have hl:=SA hl;rw [Int.min_eq_right oM];exact hK
     ·rename_i hq hl
      cases h
      simp only [hq];rw [Zls] at hl;have hl:=of_decide_eq_false hl;rw [Int.min_eq_left oM];exact hK
     cases h
    cases h
   cases h
  cases h
 cases h
end Go.PM
end

section
namespace Go.PM
def ZuP (T:Tab) (e:Nat):Option (List D):=match VP (T.get e).kind,ZpG (T.get e).zero with
 | false,some z=>(match Nat.ble 1 z.length with | true=>some z | false=>none)
 | _,_=>none
def ZuQ {T:Tab} {e:Nat} {z:List D} (h:ZuP T e=some z):VP (T.get e).kind=false/\ZpG (T.get e).zero=some z/\Nat.ble 1 z.length=true:=by
 unfold ZuP at h
 split at h
 ·rename_i h1 h2
  split at h
  ·rename_i h3;cases h;exact ⟨h1,h2,h3⟩
  cases h
 cases h
def Zpz (T:Tab) (t:TypeId) (n:Nat) (ρ:Operand->PV) (ps:List (Nat×Operand)):Option (Nat×List (List D)):=match (T.get t).kind with
 | .slice e=>match ZuP T e with
  | some z=>(match Nat.ble (n * z.length) 16777216,Zcf z ρ n ps with | true,some rows=>some (e,rows) | _,_=>none)
  | none=>none
 | _=>none
def ZC5 (T:Tab) (o:Op) (ty:TypeId) (ρ:Operand->PV) (bx:List Box):Option PV:=match ZlT T o with
 | some x=>none
 | none=>match o with
  | .buildSlice t n ps=>(match Zpz T t n ρ ps.toList with | some (_,rows)=>some (.d (.sl rows)) | none=>none)
  | .makeSlice t l c=>none
  | o=>ZIe T o ty ρ bx
def ZxR {T:Tab} {o:Op} {ty:TypeId} {ρ:Operand->PV} {bx:List Box} {v:PV} {K:PV->Prop} (h:ZC5 T o ty ρ bx=some v) (hK:K v):ZhY T o ty ρ bx K:=by
 unfold ZC5 at h
 unfold ZhY
 split at h
 ·rename_i x hx
  cases h
 rename_i hx
 simp only [hx];split at h
 ·rename_i t n ps _
  simp only;split at h
  ·rename_i rows hb
   cases h
   unfold Zpz at hb
   split at hb
   ·rename_i hk
    simp only [hk];split at hb
    ·rename_i z hz
     obtain ⟨h1,h2,h3⟩:=ZuQ hz;refine Zaa h1 ?_;simp only [h2];split at hb
     ·rename_i h4 h5;cases hb;simp only [h3,h4,h5];exact hK
     cases hb
    cases hb
   cases hb
  cases h
 ·cases h
 rename_i fe ip
 have:=ZC4 h hK;split
 ·exact (fe _ _ _ rfl).elim
 ·exact (ip _ _ _ rfl).elim
 exact this
def ZyP (T:Tab) (e:Nat) (σ:St):Option (PV×St):=match VP (T.get e).kind with
 | true=>none
 | false=>some (.ptr σ.bx.length 0,σ.new (.cells e (T.get e).zero))
def ZI4 (e:Nat) (v:PV) (σ:St):Option (PV×St):=match v.cells with
 | some l=>some (.ptr σ.bx.length 0,σ.new (.cells e l))
 | none=>none
def ZyQ (T:Tab) (t:TypeId) (a v:PV) (σ:St):Option (PV×St):=match a with
 | .ptr b off=>match σ.bx[b]?,v.cells with
  | some (.cells ty cs),some l=>(match Nat.beq l.length (T.get t).size,Nat.ble (off+l.length) cs.length,VP (T.get t).kind with
   | true,true,false=>some (.undef,σ.set b (.cells ty (Z9 cs off l)))
   | _,_,_=>none)
  | _,_=>none
 | _=>none
def ZyR (T:Tab) (t:TypeId) (v:PV) (σ:St):Option (PV×St):=match (T.get t).kind,v with
 | .string,.d (.str s)=>some (.ptr σ.bx.length 0,σ.new (.iter s 0))
 | _,_=>none
def ZGv (v:PV) (σ:St):Option (PV×St):=match v with
 | .ptr b 0=>match σ.bx[b]? with
  | some (.iter s pos)=>(match Nat.ble (pos+1) s.length with
   | true=>some (.tuple [.d (.bool true),.d (.int .i64 pos),.d (.int .i32 (decodeL s pos).1)],σ.set b (.iter s (pos+(decodeL s pos).2)))
   | false=>some (.tuple [.d (.bool false)],σ))
  | _=>none
 | _=>none
def ZI5 (T:Tab) (el:Nat) (s:PV) (more:List (List D)) (σ:St):Option (PV×St):=match VP (T.get el).kind,Nat.ble 1 (T.get el).size,Zpt (T.get el).size more with
 | false,true,true=>match s with
  | .nils _=>(match Nat.ble (more.length * (T.get el).bytes) 140737488355328,Nat.ble more.length 140737488355328 with
   | true,true=>some (.sl σ.nx el more,{ σ with tk:=σ.nx::σ.tk,nx:=σ.nx+1 })
   | _,_=>none)
  | .sl tok e2 rows=>(match Zgm tok σ.tk,Nat.beq e2 el,Nat.ble ((rows.length+more.length) * (T.get el).bytes) 140737488355328,Nat.ble (rows.length+more.length) 140737488355328 with
   | true,true,true,true=>some (.sl σ.nx el (rows++more),{ σ with tk:=σ.nx::JM tok σ.tk,nx:=σ.nx+1 })
   | _,_,_,_=>none)
  | _=>none
 | _,_,_=>none
def ZuR (T:Tab) (ts:List TypeId) (vs:List PV) (σ:St):Option (PV×St):=match ts,vs with
 | [t,tx],[s,x]=>match (T.get t).kind with
  | .slice el=>(match Vn T tx el x with | some more=>ZI5 T el s more σ | none=>none)
  | _=>none
 | _,_=>none
def ZIf (T:Tab) (o:Op) (ρ:Operand->PV) (σ:St):Option (PV×St):=match o with
 | .alloc e=>ZyP T e σ
 | .box e x=>ZI4 e (ρ x) σ
 | .store t a x=>ZyQ T t (ρ a) (ρ x) σ
 | .range t x=>ZyR T t (ρ x) σ
 | .next x true=>ZGv (ρ x) σ
 | .call { callee:=.builtin .append,args,argTypes }=>ZuR T argTypes.toList (args.toList.map ρ) σ
 | _=>none
def ZC6 {T:Tab} {o:Op} {ρ:Operand->PV} {σ σ':St} {v:PV} {K:PV->St->Prop} (h:ZIf T o ρ σ=some (v,σ')) (hK:K v σ'):eop T o ρ σ K:=by
 unfold ZIf at h
 unfold eop
 split at h
 ·unfold ZyP at h
  split at h
  ·cases h
  rename_i ho;cases h;exact Zaa ho hK
 ·unfold ZI4 at h
  simp only;split at h
  ·rename_i hc;cases h;simp only [hc];exact hK
  cases h
 ·unfold ZyQ at h
  simp only;split at h
  ·rename_i ha
   simp only [ha];split at h
   ·rename_i hb hc
    simp only [hb,hc];split at h
    ·rename_i h1 h2 h3
     cases h
     simp only [h1,h2];split
     ·rename_i he;rw [he] at h3;cases h3
     ·exact hK
     rename_i hn _;exact (hn rfl rfl).elim
    cases h
   cases h
  cases h
 ·unfold ZyR at h
  simp only;split at h
  ·exact mq144
  cases h
 ·unfold ZGv at h
  simp only;split at h
  ·rename_i ha
   simp only [ha];split at h
   ·rename_i s pos hb
    simp only [hb];split at h
    ·rename_i hl
     cases h
     rw [Sj (show pos<s.length from Td hl)];exact hK
    rename_i hl
    cases h
    rw [decide_eq_false (show ¬pos<s.length from fun g=>by rw [Nat.ble_eq_true_of_le g] at hl;cases hl)];exact hK
   cases h
  cases h
 ·unfold ZuR at h
  simp only;split at h
  ·rename_i h1 h2
   simp only [h1,h2];split at h
   ·rename_i hk
    simp only [hk];split at h
    ·rename_i hm
     unfold ZI5 at h
     split at h
     ·rename_i ho hs hr
      refine Zaa ho ?_;simp only [hs,hm];split at h
      ·split at h
       ·rename_i h3 h4
        cases h
        exact ⟨Zge hr,Td h3,Td h4,hK⟩
       cases h
      ·split at h
       ·rename_i h3 h4 h5 h6
        cases h
        simp only [h3,h4];exact ⟨Zge hr,Td h5,Td h6,hK⟩
       cases h
      cases h
     cases h
    cases h
   cases h
  cases h
 cases h
end Go.PM
end

section
namespace Go.PM
abbrev TS:=FT×St
abbrev ZGw:=PExit×FT×St
abbrev VQ:=FuncId->List PV->St->Option (PEnd×St)
def ZDv (t:FT) (d:Option Nat) (v:PV) (σ:St):Option TS:=match d with
 | some i=>ZG1 v fun v=>match t.put v i with | some t=>some (t,σ) | none=>none
 | none=>some (t,σ)
def ZcW {t:FT} {d:Option Nat} {v:PV} {σ:St} {s:TS} {K:Frame->St->Prop} (h:ZDv t d v σ=some s) (hK:K s.1.get s.2):ZjH t.get d v fun f=>K f σ:=by
 rw [Yf];unfold ZDv at h
 cases d with
 | none=>cases h;exact hK
 | some i =>
 simp only [ZuN] at h;split at h
 ·rename_i t' ht
  cases h
  have:=ZKc ht;simp only at hK;rw [this] at hK;exact hK
 cases h
def ZuS (call:VQ) (fv:PV) (args:List PV) (σ:St):Option (PV×St):=match fv with
 | .func g first caps=>(match call g (first++args++caps) σ with | some (.ret v,σ)=>some (v,σ) | _=>none)
 | _=>none
def ZyS (t:FT) (d:Option Nat) (r:Option (PV×St)):Option TS:=match r with
 | some (v,σ)=>ZuM σ fun σ=>ZDv t d v σ
 | none=>none
def ZI6 (call:VQ) (T:Tab) (o:Oper) (t:FT) (σ:St):Option (PV×St):=match o.op with
 | .call { callee:=.value x,args,.. }=>ZuS call (ev t.get x) (args.toList.map (ev t.get)) σ
 | .panic x=>none
 | op=>ZIf T op (ev t.get) σ
def Zlw (call:VQ) (T:Tab) (o:Oper) (t:FT) (σ:St):Option TS:=match Xe o.op with
 | false=>(match ZC5 T o.op o.type (ev t.get) σ.bx with | some v=>ZDv t o.dst v σ | none=>none)
 | true=>ZyS t o.dst (ZI6 call T o t σ)
structure CxR (C:Cx) (call:VQ) (T:Tab) (N:Nat):Prop where
 T:C.T=T
 call:∀{g args σ pe σ'} {K:PEnd->St->Prop},call g args σ=some (pe,σ')->K pe σ'->C.call g args σ K
 bsl:C.bsl=fun _=>false
 unr:C.unr=fun _=>N+1
 cut:C.cut=fun _=>none
 foc:C.foc=fun _=>false
def CxR.calm {C:Cx} {call:VQ} {T:Tab} {N:Nat} (h:CxR C call T N):CxR C.calm call T N:=⟨h.T,h.call,h.bsl,h.unr,h.cut,h.foc⟩
section
variable {C:Cx} {call:VQ} {T:Tab} {N:Nat} {Q:PQ} {K:Frame->St->Prop}
def Zgf (hC:CxR C call T N) {o:Oper} {t:FT} {σ:St} {s:TS} (h:Zlw call T o t σ=some s) (hK:K s.1.get s.2):Wj C o t.get σ Q K:=by
 unfold Zlw at h
 unfold Wj
 split at h
 ·rename_i he
  simp only [he,hC.T];split at h
  ·rename_i hq;exact ZxR hq (ZcW h hK)
  cases h
 rename_i he
 simp only [he];unfold ZyS at h
 split at h
 ·rename_i v σ1 hq
  rw [Zji] at h;unfold ZI6 at hq
  split at hq
  ·rename_i x args _ ho
   simp only [ho];unfold ZuS at hq
   unfold Zej
   split at hq
   ·rename_i hf
    simp only [hf];split at hq
    ·rename_i hc
     cases hq
     refine hC.call hc ?_;simp only [ZY];exact ZcW h hK
    cases hq
   cases hq
  ·cases hq
  rename_i fe ip
  split
  ·rename_i ho;exact (fe _ _ _ ho).elim
  ·rename_i ho;exact (ip _ ho).elim
  rw [hC.T];refine ZC6 hq ?_;simp only [ZY];exact ZcW h hK
 cases h
def ZpA (call:VQ) (T:Tab) (all:List Oper) (o:Oper) (t:FT) (σ:St):Option TS:=match o.guard with
 | none=>Zlw call T o t σ
 | some (j,want)=>match WU all j with
  | some s=>(match t.get s with
   | .d (.bool b)=>(match b,want with
    | true,true=>Zlw call T o t σ
    | false,false=>Zlw call T o t σ
    | _,_=>ZDv t o.dst (.raw Go.undef) σ)
   | .raw (.tuple _)=>ZDv t o.dst (.raw Go.undef) σ
   | _=>none)
  | none=>none
def Zlx (hC:CxR C call T N) {all:List Oper} {o:Oper} {t:FT} {σ:St} {s:TS} (h:ZpA call T all o t σ=some s) (hK:K s.1.get s.2):VU C all Q o t.get σ K:=by
 unfold ZpA at h
 unfold VU
 split at h
 ·rename_i hg;simp only [hg];exact Zgf hC h hK
 rename_i j want hg
 simp only [hg];split at h
 ·rename_i hs
  simp only [hs];split at h
  ·rename_i b hb
   simp only [hb]
   cases b <;> cases want <;> simp only at h
   ·exact ZKe (by simp only [XH hb];exact Zgf hC h hK)
   ·exact ZKe (by simp only [XH hb];exact ZcW h hK)
   ·exact ZKd (by simp only [XH hb];exact ZcW h hK)
   exact ZKd (by simp only [XH hb];exact Zgf hC h hK)
  ·rename_i hb;simp only [hb];exact ZcW h hK
  cases h
 cases h
def ZxS (call:VQ) (T:Tab) (all:List Oper):List Oper->FT->St->Option TS
 | [],t,σ=>some (t,σ)
 | o::rest,t,σ=>match ZpA call T all o t σ with
  | some (t,σ)=>ZxS call T all rest t σ
  | none=>none
def ZpB (hC:CxR C call T N) {all:List Oper}:∀{l:List Oper} {t:FT} {σ:St} {s:TS},ZxS call T all l t σ=some s->Q .normal s.1.get s.2->Zrj C all Q l t.get σ
 | [],t,σ,s,h,hQ=>by cases h;exact hQ
 | o::rest,t,σ,s,h,hQ=>by
  unfold ZxS at h
  unfold Zrj ZjK
  have ho:ZgE C o=false:=by
   unfold ZgE
   rw [hC.bsl]
   cases o.dst <;> cases o.guard <;> rfl
  rw [ho];split at h
  ·rename_i hs
   exact Zlx hC hs (ZpB hC h hQ)
  cases h
end
end Go.PM
end

section
namespace Go.PM
def ZGx {k k':IntKind} (h:keq k k'=true):k=k':=by cases k <;> cases k' <;> first | rfl | (cases h;done)
mutual
def Zvk:D->D->Bool
 | .bool a,.bool b=>(match a,b with | true,true=>true | false,false=>true | _,_=>false)
 | .int k a,.int k' b=>(match keq k k' with | true=>ieq a b | false=>false)
 | .str a,.str b=>ZgD a b
 | .sl a,.sl b=>ZhW a b
 | .nilp,.nilp=>true
 | .nilf,.nilf=>true
 | .nili,.nili=>true
 | _,_=>false
def Zre:List D->List D->Bool
 | [],[]=>true
 | x::l,y::m=>(match Zvk x y with | true=>Zre l m | false=>false)
 | _,_=>false
def ZhW:List (List D)->List (List D)->Bool
 | [],[]=>true
 | x::l,y::m=>(match Zre x y with | true=>ZhW l m | false=>false)
 | _,_=>false
end
mutual
def ZuT:∀{x y:D},Zvk x y=true->x=y
 | .bool a,y,h=>by
  cases y <;> simp only [Zvk] at h <;> first | (cases h;done) | skip
  rename_i b;cases a <;> cases b <;> first | rfl | (cases h;done)
 | .int k a,y,h=>by
  cases y <;> simp only [Zvk] at h <;> first | (cases h;done) | skip
  split at h
  ·rename_i hk;rw [ZuO] at h;rw [ZGx hk,SA h]
  cases h
 | .str a,y,h=>by
  cases y <;> simp only [Zvk] at h <;> first | (cases h;done) | skip
  rw [Zjl] at h;rw [SA h]
 | .sl a,y,h=>by
  cases y <;> simp only [Zvk] at h <;> first | (cases h;done) | skip
  rw [Zgg h]
 | .nilp,y,h=>by cases y <;> simp only [Zvk] at h <;> first | rfl | (cases h;done)
 | .nilf,y,h=>by cases y <;> simp only [Zvk] at h <;> first | rfl | (cases h;done)
 | .nili,y,h=>by cases y <;> simp only [Zvk] at h <;> first | rfl | (cases h;done)
def Zjm:∀{x y:List D},Zre x y=true->x=y
 | [],y,h=>by cases y <;> simp only [Zre] at h <;> first | rfl | (cases h;done)
 | x::l,y,h=>by
  cases y <;> simp only [Zre] at h <;> first | (cases h;done) | skip
  split at h
  ·rename_i h1;rw [ZuT h1,Zjm h]
  cases h
def Zgg:∀{x y:List (List D)},ZhW x y=true->x=y
 | [],y,h=>by cases y <;> simp only [ZhW] at h <;> first | rfl | (cases h;done)
 | x::l,y,h=>by
  cases y <;> simp only [ZhW] at h <;> first | (cases h;done) | skip
  split at h
  ·rename_i h1;rw [Zjm h1,Zgg h]
  cases h
end
mutual
def ZG3:PV->PV->Bool
 | .d x,.d y=>Zvk x y
 | .undef,.undef=>true
 | .ptr a b,.ptr c d=>(match Nat.beq a c with | true=>Nat.beq b d | false=>false)
 | .nils a,.nils b=>Nat.beq a b
 | .sl a b r,.sl c d q=>(match Nat.beq a c,Nat.beq b d with | true,true=>ZhW r q | _,_=>false)
 | .elem r a,.elem q b=>(match Nat.beq a b with | true=>Zre r q | false=>false)
 | .agg x,.agg y=>ZnJ x y
 | .tuple x,.tuple y=>ZnJ x y
 | _,_=>false
def ZnJ:List PV->List PV->Bool
 | [],[]=>true
 | x::l,y::m=>(match ZG3 x y with | true=>ZnJ l m | false=>false)
 | _,_=>false
end
mutual
def ZnK:∀{x y:PV},ZG3 x y=true->x=y
 | x,y,h=>by
  cases x <;> cases y <;> simp only [ZG3] at h <;> first
   | (cases h;done)
   | rfl
   | rw [ZuT h]
   | rw [Tl h]
   | rw [Zjn h]
   | (split at h <;> first
     | (cases h;done)
     | (rename_i h1 h2;rw [Tl h1,Tl h2,Zgg h])
     | (rename_i h1;rw [Tl h1,Tl h])
     | (rename_i h1;rw [Tl h1,Zjm h])
     | (rename_i h1;rw [Tl h1,ZnK h]))
def Zjn:∀{x y:List PV},ZnJ x y=true->x=y
 | [],y,h=>by cases y <;> simp only [ZnJ] at h <;> first | rfl | (cases h;done)
 | x::l,y,h=>by
  cases y <;> simp only [ZnJ] at h <;> first | (cases h;done) | skip
  split at h
  ·rename_i h1;rw [ZnK h1,Zjn h]
  cases h
end
def ZIg:Option (Nat×List PV×List (List UInt8×MV))->Option (Nat×List PV×List (List UInt8×MV))->Bool
 | some (n,a,[]),some (m,b,[])=>(match Nat.beq n m,ZnJ a b with | true,true=>true | _,_=>false)
 | none,none=>true
 | _,_=>false
def ZC7 {x y:Option (Nat×List PV×List (List UInt8×MV))} (h:ZIg x y=true):x=y:=by
 unfold ZIg at h
 split at h
 ·split at h
  ·rename_i h1 h2;rw [Tl h1,Zjn h2]
  cases h
 ·rfl
 cases h
def ZuU (ms:List Nat) (j:Nat) (pre post:List Box):List Ld->Bool
 | []=>true
 | ⟨i,b,off,n⟩::l=>match anc ms i j with
  | true=>ZuU ms j pre post l
  | false=>match ZIg (Yc pre b off n) (Yc post b off n) with | true=>ZuU ms j pre post l | false=>false
def Zjo {ms:List Nat} {j:Nat} {pre post:List Box} {X:Prop} (hX:X):∀{l:List Ld},ZuU ms j pre post l=true->Zrp ms j pre post l X
 | [],_=>hX
 | ⟨i,b,off,n⟩::l,h=>by
  unfold ZuU at h
  unfold Zrp
  split at h
  ·rename_i h1;simp only [h1];exact Zjo hX h
  rename_i h1
  simp only [h1];split at h
  ·rename_i h2;exact ⟨ZC7 h2,Zjo hX h⟩
  cases h
def Zly (call:VQ) (T:Tab) (all:List Oper) (ms:List Nat):List (Nat×Oper)->List Ld->FT->St->Option TS
 | [],_,t,σ=>some (t,σ)
 | (i,o)::rest,ctx,t,σ=>match ZpA call T all o t σ with
  | some (t',σ')=>(match Xe o.op with
   | true=>(match ZuU ms i σ.bx σ'.bx ctx with | true=>Zly call T all ms rest ctx t' σ' | false=>none)
   | false=>Zly call T all ms rest (U7 T o i t.get ctx) t' σ')
  | none=>none
def Zgh {C:Cx} {call:VQ} {T:Tab} {N:Nat} {Q:PQ} (hC:CxR C call T N) {all:List Oper} {ms:List Nat}:∀{l:List (Nat×Oper)} {ctx:List Ld} {t:FT} {σ:St} {s:TS},Zly call T all ms l ctx t σ=some s->Q .normal s.1.get s.2->Wx C all ms Q l ctx t.get σ
 | [],_,t,σ,s,h,hQ=>by cases h;exact hQ
 | (i,o)::rest,ctx,t,σ,s,h,hQ=>by
  unfold Zly at h
  unfold Wx Ww
  split at h
  ·rename_i t1 σ1 hs
   refine Zlx hC hs ?_;simp only;split at h
   ·rename_i he
    simp only [he];split at h
    ·rename_i hc;exact Zjo (Zgh hC h hQ) hc
    cases h
   rename_i he
   simp only [he,hC.T];exact Zgh hC h hQ
  cases h
def ZxT (S:FT->St->Option ZGw):Nat->FT->St->Option ZGw
 | 0,_,_=>none
 | n+1,t,σ=>match S t σ with
  | some (.normal,t,σ)=>ZxT S n t σ
  | r=>r
def ZI7 (call:VQ) (T:Tab) (ops:List Oper) (draw:Bool) (t:FT) (σ:St):Option TS:=match draw with
 | false=>ZxS call T ops ops t σ
 | true=>(match Zem ops,ZgF (WV ops []) none (ZI 0 ops) with
  | none,true=>Zly call T ops (WV ops []) (Zh0 ops) [] t σ
  | _,_=>none)
def Zlz (call:VQ) (T:Tab) (N:Nat):Code->FT->St->Option ZGw
 | .skip,t,σ=>some (.normal,t,σ)
 | .region _ ops draw,t,σ=>(match ZI7 call T ops.toList draw t σ with | some (t,σ)=>some (.normal,t,σ) | none=>none)
 | .seq a b,t,σ=>(match Zlz call T N a t σ with
  | some (.normal,t,σ)=>Zlz call T N b t σ
  | r=>r)
 | .cond c x y,t,σ=>(match ev t.get c with
  | .d (.bool true)=>Zlz call T N x t σ
  | .d (.bool false)=>Zlz call T N y t σ
  | _=>none)
 | .block id b,t,σ=>(match Zlz call T N b t σ with
  | some (.exit i,t,σ)=>(match Nat.beq i id with | true=>some (.normal,t,σ) | false=>some (.exit i,t,σ))
  | r=>r)
 | .scope b,t,σ=>(match Zlz call T N b t σ with
  | some (.goto _,_,_)=>none
  | r=>r)
 | .exit id,t,σ=>some (.exit id,t,σ)
 | .ret,t,σ=>some (.ret,t,σ)
 | .loop b,t,σ=>ZxT (fun t σ=>Zlz call T N b t σ) (N+1) t σ
 | _,_,_=>none
def ZpC {S:FT->St->Option ZGw} {W:PQ->Frame->St->Prop} (hS:∀{Q t σ e t' σ'},S t σ=some (e,t',σ')->Q e t'.get σ'->W Q t.get σ):∀{n:Nat} {Q:PQ} {t:FT} {σ:St} {e:PExit} {t':FT} {σ':St},ZxT S n t σ=some (e,t',σ')->Q e t'.get σ'->ZcZ W Q n t.get σ
 | 0,_,_,_,_,_,_,h,_=>by cases h
 | n+1,Q,t,σ,e,t',σ',h,hQ=>by
  unfold ZxT at h
  unfold ZcZ
  split at h
  ·rename_i t1 σ1 hs
   exact hS hs (ZpC hS h hQ)
  rename_i hn
  refine hS h ?_;split
  ·exact (hn _ _ h).elim
  exact hQ
def ZC8 {C:Cx} {call:VQ} {T:Tab} {N:Nat} (hC:CxR C call T N):∀(c:Code) {Q:PQ} {t:FT} {σ:St} {e:PExit} {t':FT} {σ':St},Zlz call T N c t σ=some (e,t',σ')->Q e t'.get σ'->W C c Q t.get σ:=by
 intro c
 induction c with
 | region id ops draw =>
  intro Q t σ e t' σ' h hQ
  simp only [Zlz] at h;simp only [W,hC.foc,WR];split at h
  ·rename_i t1 σ1 hr
   cases h
   unfold ZI7 at hr
   split at hr
   ·exact ZpB hC hr hQ
   split at hr
   ·rename_i h1 h2
    simp only [h1,h2];exact Zgh hC.calm hr hQ
   cases hr
  cases h
 | seq a b iha ihb =>
  intro Q t σ e t' σ' h hQ
  simp only [Zlz] at h;simp only [W,hC.cut];split at h
  ·rename_i t1 σ1 h1
   exact iha h1 (ihb h hQ)
  rename_i hn
  refine iha h ?_;split
  ·exact (hn _ _ h).elim
  exact hQ
 | cond c x y ihx ihy =>
  intro Q t σ e t' σ' h hQ
  simp only [Zlz] at h;simp only [W];split at h
  ·rename_i hc;simp only [hc];exact ZKd (ihx h hQ)
  ·rename_i hc;simp only [hc];exact ZKe (ihy h hQ)
  cases h
 | block id b ih =>
  intro Q t σ e t' σ' h hQ
  simp only [Zlz] at h;simp only [W];split at h
  ·rename_i i t1 σ1 h1
   refine ih h1 ?_;simp only;split at h
   ·rename_i hb;cases h;simp only [hb];exact hQ
   rename_i hb;cases h;simp only [hb];exact hQ
  rename_i hn
  refine ih h ?_;split
  ·exact (hn _ _ _ h).elim
  exact hQ
 | scope b ih =>
  intro Q t σ e t' σ' h hQ
  simp only [Zlz] at h;simp only [W];split at h
  ·cases h
  rename_i hn
  refine ih h ?_;split
  ·exact (hn _ _ _ h).elim
  exact hQ
 | loop b ih =>
  intro Q t σ e t' σ' h hQ
  simp only [Zlz] at h;simp only [W,hC.unr];exact ZpC (W:=fun Q f σ=>W C b Q f σ) (fun h hQ=>ih h hQ) h hQ
 | skip=>intro Q t σ e t' σ' h hQ;cases h;exact hQ
 | exit id=>intro Q t σ e t' σ' h hQ;cases h;exact hQ
 | ret=>intro Q t σ e t' σ' h hQ;cases h;exact hQ
 | _=>intro Q t σ e t' σ' h hQ;cases h
end Go.PM
end

section
namespace Go.PM
abbrev N1:=List Nat->Nat->PV->PV×List Nat×Nat
def U0 (cl:PV->PV) (n:Nat):N1:=fun tk k v=>match v with
 | .sl t e rows=>(match Zgm t tk with
  | true=>(.sl k e rows,JM t tk,k+1)
  | false=>(.d (.sl rows),tk,k))
 | .nils e=>(.sl k e [],tk,k+1)
 | v=>(match bnd n v with
  | true=>(cl v,tk,k)
  | false=>(.undef,tk,k))
def Zbe (f:N1):List PV->List Nat->Nat->List PV×List Nat×Nat
 | [],tk,k=>([],tk,k)
 | v::l,tk,k=>match f tk k v with
  | (v,tk,k)=>match Zbe f l tk k with
   | (l,tk,k)=>(v::l,tk,k)
def Zcd (n:Nat):N1:=fun tk k v=>match v with
 | .agg cs=>(match Zbe (U0 cleanN n) cs tk k with | (cs,tk,k)=>(.agg cs,tk,k))
 | v=>U0 cleanN n tk k v
def ZxU {n:Nat} {tk:List Nat} {k:Nat} {v:PV} {K:PV->List Nat->Nat->Prop} (h:K (U0 clean n tk k v).1 (U0 clean n tk k v).2.1 (U0 clean n tk k v).2.2):Zvl n tk k v K:=by
 cases v <;> simp only [U0,Zvl,Z0] at h |- <;> first
  | exact h
  | (split at h <;> rename_i hb <;> simp only [hb] <;> exact h)
def ZlA {n:Nat} {tk:List Nat} {k:Nat} {v:PV} {K:PV->List Nat->Nat->Prop} (h:K (U0 cleanN n tk k v).1 (U0 cleanN n tk k v).2.1 (U0 cleanN n tk k v).2.2):Zek n tk k v K:=by
 cases v <;> simp only [U0,Zek,Z0] at h |- <;> first
  | exact h
  | (split at h <;> rename_i hb <;> simp only [hb] <;> exact h)
def Zjp {n:Nat}:∀{l:List PV} {tk:List Nat} {k:Nat} {K:List PV->List Nat->Nat->Prop},K (Zbe (U0 clean n) l tk k).1 (Zbe (U0 clean n) l tk k).2.1 (Zbe (U0 clean n) l tk k).2.2->Zvm n l tk k K
 | [],_,_,_,h=>h
 | v::l,tk,k,K,h=>ZxU (Zjp h)
def ZlB {n:Nat}:∀{l:List PV} {tk:List Nat} {k:Nat} {K:List PV->List Nat->Nat->Prop},K (Zbe (U0 cleanN n) l tk k).1 (Zbe (U0 cleanN n) l tk k).2.1 (Zbe (U0 cleanN n) l tk k).2.2->ZlV n l tk k K
 | [],_,_,_,h=>h
 | v::l,tk,k,K,h=>ZlA (ZlB h)
def ZuV {n:Nat} {tk:List Nat} {k:Nat} {v:PV} {K:PV->List Nat->Nat->Prop} (h:K (Zcd n tk k v).1 (Zcd n tk k v).2.1 (Zcd n tk k v).2.2):ZjL n tk k v K:=by
 unfold ZjL
 split
 ·exact ZlB h
 rename_i hn
 refine ZlA ?_;have:Zcd n tk k v=U0 cleanN n tk k v:=by cases v <;> first | rfl | exact (hn _ rfl).elim
 rw [this] at h;exact h
def Zgi {n:Nat}:∀{l:List PV} {tk:List Nat} {k:Nat} {K:List PV->List Nat->Nat->Prop},K (Zbe (Zcd n) l tk k).1 (Zbe (Zcd n) l tk k).2.1 (Zbe (Zcd n) l tk k).2.2->ZlW n l tk k K
 | [],_,_,_,h=>h
 | v::l,tk,k,K,h=>ZuV (Zgi h)
def ZuW (n:Nat):Nat->List Box->List Nat->Nat->Option (List Box×List Nat×Nat)
 | 0,_,tk,k=>some ([],tk,k)
 | m+1,.cells t cs::l,tk,k=>(match Zbe (U0 clean n) cs tk k with
  | (cs,tk,k)=>match ZuW n m l tk k with | some (l,tk,k)=>some (.cells t cs::l,tk,k) | none=>none)
 | _,_,_,_=>none
def Zjq {n:Nat}:∀{m:Nat} {bs:List Box} {tk:List Nat} {k:Nat} {r:List Box×List Nat×Nat} {K:List Box->List Nat->Nat->Prop},ZuW n m bs tk k=some r->K r.1 r.2.1 r.2.2->Zel n m bs tk k K
 | 0,_,_,_,_,_,h,hK=>by cases h;exact hK
 | m+1,[],tk,k,r,K,h,hK=>by cases h
 | m+1,x::l,tk,k,r,K,h,hK=>by
  cases x with
  | cells t cs =>
   simp only [ZuW] at h;simp only [Zel];refine Zjp ?_;split at h
   ·rename_i hb;cases h;exact Zjq hb hK
   cases h
  | _=>cases h
def ZxV (bs:List Nat) (bx:List Box):List Nat->Option (List Box)
 | []=>some []
 | b::l=>match bx[b]? with
  | some (.cells t cs)=>(match ZxV bs bx l with | some r=>some (.cells t (Zih bs cs)::r) | none=>none)
  | _=>none
def ZpD {bs:List Nat} {bx:List Box}:∀{l:List Nat} {r:List Box} {K:List Box->Prop},ZxV bs bx l=some r->K r->Zp3 bs bx l K
 | [],r,K,h,hK=>by cases h;exact hK
 | b::l,r,K,h,hK=>by
  unfold ZxV at h
  unfold Zp3
  split at h
  ·rename_i hb
   simp only [hb];split at h
   ·rename_i hs;cases h;exact ZpD hs hK
   cases h
  cases h
def ZuX (bb:Box->Box):List Nat->List Box->List Box->Option (List Box)
 | [],xs,acc=>some (acc++xs.map bb)
 | b::l,x::xs,acc=>ZuX bb l xs (acc.set b (bb x))
 | _::_,[],_=>none
def ZlC {bb:Box->Box}:∀{l:List Nat} {xs acc r:List Box} {K:List Box->Prop},ZuX bb l xs acc=some r->K r->Zgq bb l xs acc K
 | [],xs,acc,r,K,h,hK=>by cases h;exact hK
 | b::l,x::xs,acc,r,K,h,hK=>ZlC (l:=l) h hK
 | _::_,[],_,_,_,h,_=>by cases h
abbrev RFn:=List PV->St->Option (PEnd×St)
def ZuY (r:RFn):Zq:=fun args σ K=>∃pe σ',r args σ=some (pe,σ')/\K pe σ'
def ZC9 (own:Bool) (n:Nat) (args:List PV) (tk:List Nat):List PV×List Nat×Nat:=match own with
 | true=>Zbe (Zcd n) args tk 0
 | false=>Zbe (U0 clean n) args tk 0
def Zab (own:Bool) (r:RFn) (args:List PV) (σ:St):Option (PEnd×St) :=
 ZDu (Zbu σ.bx (σ.bx.length+1) 0 (Zct args [])) fun bs=>match Zj5 bs,ZxV bs σ.bx bs,ZC9 own bs.length (Zih bs args) σ.tk with
  | true,some cb,(args',tk,k)=>(match ZuW bs.length bs.length cb tk k with
   | some (cb',rest,k)=>ZDt args' fun args'=>ZuM ⟨cb',toks k,k⟩ fun σ2=>(match r args' σ2 with
    | some (pe,σ3)=>(match ZuX (Zcv bs bs.length σ.bx.length σ.nx) bs σ3.bx σ.bx with
     | some bx=>ZuM ⟨bx,rest++σ3.tk.map (σ.nx+·),σ.nx+σ3.nx⟩ fun σ4=>some (ZvE bs bs.length σ.bx.length σ.nx pe,σ4)
     | none=>none)
    | none=>none)
   | none=>none)
  | _,_,_=>none
def mdR:Bool->Nat | true=>2 | false=>0
def Zgj {own:Bool} {r:RFn} {args:List PV} {σ:St} {pe:PEnd} {σ':St} {K:PEnd->St->Prop} (h:Zab own r args σ=some (pe,σ')) (hK:K pe σ'):UE (mdR own) (ZuY r) args σ K:=by
 unfold Zab at h
 unfold UE
 simp only [Zbv,Zbw,W0];simp only [Zgc] at h;split at h
 ·rename_i cb args' tk k h1 h2 h3
  simp only [h1];refine ZpD h2 ?_;have key:∀{X:List PV->List Nat->Nat->Prop},X args' tk k->Zrq (mdR own) (Zbu σ.bx (σ.bx.length+1) 0 (Zct args [])).length (Zih (Zbu σ.bx (σ.bx.length+1) 0 (Zct args [])) args) σ.tk 0 X:=by
   intro X hX
   cases own with
   | true=>exact Zgi (by simp only [ZC9] at h3;rw [h3];exact hX)
   | false=>exact Zjp (by simp only [ZC9] at h3;rw [h3];exact hX)
  refine key ?_;split at h
  ·rename_i hb
   refine Zjq hb ?_;simp only [Zgb,Zji] at h;split at h
   ·rename_i hr
    refine ⟨_,_,hr,?_⟩;split at h
    ·rename_i ki;cases h;exact ZlC ki hK
    cases h
   cases h
  cases h
 cases h
def ZnL (T:Tab) (t:FT) (bx:List Box):List ResultVar->Option (List PV)
 | []=>some []
 | .tmp i::l=>(match ZnL T t bx l with | some vs=>some (t.get i::vs) | none=>none)
 | .cell a ty::l=>(match Zpv T ty (t.get a) bx,ZnL T t bx l with | some v,some vs=>some (v::vs) | _,_=>none)
def Zef {T:Tab} {t:FT} {bx:List Box}:∀{l:List ResultVar} {vs:List PV} {K:List PV->Prop},ZnL T t bx l=some vs->K vs->pres T t.get bx l K
 | [],vs,K,h,hK=>by cases h;exact hK
 | .tmp i::l,vs,K,h,hK=>by
  simp only [ZnL] at h;simp only [pres,Z0];split at h
  ·rename_i h1;cases h;exact Zef h1 hK
  cases h
 | .cell a ty::l,vs,K,h,hK=>by
  simp only [ZnL] at h;simp only [pres];split at h
  ·rename_i h1 h2;cases h;refine Zlu h1 ?_;rw [Z0];exact Zef h2 hK
  cases h
def Zjr (n:Nat):Nat->List Box->Bool
 | 0,_=>true
 | _,[]=>true
 | m+1,.cells _ cs::l=>(match Zro n cs with | true=>Zjr n m l | false=>false)
 | m+1,_::l=>Zjr n m l
def ZIh (k0:Nat) (v:PV) (σ:St):Nat:=match bnd k0 v,Zjr k0 k0 σ.bx with
 | true,true=>k0
 | _,_=>σ.bx.length
def ZuZ (keep:Nat) (v:PV) (σ:St):Option (PV×St):=match bnd keep v,Zbe (Zcd keep) [v] σ.tk 0 with
 | true,([v],tk,k)=>(match ZuW keep keep σ.bx tk k with
  | some (bs,_,k)=>some (v,⟨bs,toks k,k⟩)
  | none=>none)
 | _,_=>none
def Zu0 {keep:Nat} {v v':PV} {σ σ':St} {K:PV->St->Prop} (h:ZuZ keep v σ=some (v',σ')) (hK:K v' σ'):Zbj true keep true v σ K:=by
 unfold ZuZ at h
 unfold Zbj
 split at h
 ·rename_i h1 h2
  simp only [h1];unfold Jb
  simp only;refine Zgi ?_;rw [h2];split at h
  ·rename_i hb;cases h;exact Zjq hb hK
  cases h
 cases h
def Zu1 (p:PV->PEnd) (k0:Nat) (v:PV) (σ:St):Option (PEnd×St):=Zrc (ZIh k0 v σ) fun keep=>match Nat.ble k0 keep,ZuZ keep v σ with
 | true,some (v,σ)=>some (p v,σ)
 | _,_=>none
def Zjs {p:PV->PEnd} {k0:Nat} {v:PV} {σ:St} {pe:PEnd} {σ':St} (h:Zu1 p k0 v σ=some (pe,σ')):∃keep,k0<=keep/\∀{K:PEnd->St->Prop},K pe σ'->Zbj true keep true v σ fun v σ=>K (p v) σ:=by
 unfold Zu1 at h
 simp only [Zbc] at h;split at h
 ·rename_i h1 h2;cases h;exact ⟨_,Td h1,fun hK=>Zu0 h2 hK⟩
 cases h
def ZGy (T:Tab) (fn:Func) (k0:Nat) (r:Option ZGw):Option (PEnd×St):=match r with
 | some (.normal,t,σ)=>(match ZnL T t σ.bx fn.results.toList with | some vs=>Zu1 .ret k0 (Jc vs) σ | none=>none)
 | some (.ret,t,σ)=>(match ZnL T t σ.bx fn.results.toList with | some vs=>Zu1 .ret k0 (Jc vs) σ | none=>none)
 | some (.panic v,_,σ)=>Zu1 .panic k0 v σ
 | _=>none
end Go.PM
end

section
namespace Go.PM
def cxR (call:VQ) (T:Tab) (N:Nat):Cx:=⟨T,fun g args σ K=>∃pe σ',call g args σ=some (pe,σ')/\K pe σ',Zp8,ZeP,fun _=>Zyc,fun _=>N+1,fun _=>false,fun _=>false,true,fun _=>none,fun _=>false,fun _=>false⟩
def ZGz {call:VQ} {T:Tab} {N:Nat}:CxR (cxR call T N) call T N:=⟨rfl,fun h hK=>⟨_,_,h,hK⟩,rfl,rfl,rfl,rfl⟩
def ZDa (call:VQ) (T:Tab) (N:Nat) (fn:Func):RFn:=fun args σ =>
 match argT 0 args (FT.full (Nat.div fn.ntmps 64)),Nat.ble args.length fn.ntmps with
 | some t,true=>ZGy T fn σ.bx.length (Zlz call T N (Xm fn) t σ)
 | _,_=>none
def ZGA (fn:Func):Bool:=match fn.body with
 | some c => (match ZF fn.ntmps c, fn.name == "runtime.NumGoroutine" with | true, false => true | _, _ => false)
 | none=>false
section
variable {G:GE} {T:Tab} {call:VQ} {N:Nat}
def ZDb {fn : Func} (h : ZGA fn = true) : ∃ c, fn.body = some c /\ ZF fn.ntmps c = true /\ (fn.name == "runtime.NumGoroutine") = false := by
 unfold ZGA at h
 cases hb:fn.body with
 | none=>rw [hb] at h;cases h
 | some c =>
 rw [hb] at h;simp only at h;split at h
 ·rename_i h1 h2;exact ⟨c,rfl,h1,h2⟩
 cases h
def ZGB (call:VQ):FuncId->List PV->St->(PEnd->St->Prop)->Prop:=fun g args σ K=>∃pe σ',call g args σ=some (pe,σ')/\K pe σ'
def ZxW (hT:TabOK T G.P) (be:G.P.follows .mixedOrders=true) (hc:CallSem G (ZGB call)) {g:FuncId} {fn:Func} (hf:G.P.funcs[g]?=some fn) (hk:ZGA fn=true):PCalls G g (ZuY (ZDa call T N fn)):=by
 obtain ⟨c,hb,ba,ax⟩:=ZDb hk;refine ⟨Zg hf ax hb,fun args σ K hs n e w vs hS ha=>?_⟩;obtain ⟨pe,σ',hr,hK⟩:=hs;unfold ZDa at hr
 split at hr
 ·rename_i t ht aa
  have ht:=Zps (ZKg _) ht;have go:∀keep,(∀e1 t1 σ1,Zlz call T N (Xm fn) t σ=some (e1,t1,σ1)->Zrv true T fn keep true K e1 t1.get σ1)->σ.bx.length<=keep->CallsIn (fw none) n G.P g vs w (Xz G e σ w K):=fun keep hQ gp=>by
   cases ai:Zlz call T N (Xm fn) t σ with
   | none=>rw [ai] at hr;cases hr
   | some out =>
   obtain ⟨e1,t1,σ1⟩:=out;refine ZdV (C:=cxR call T N) hT hc (fun _ _ _ _ h=>h) (fun _ _ _ _ _ h=>h) be hf hb ba (ag:=true) (own:=true) gp (Td aa) ?_ hS ha;unfold WFG
   rw [<- ht];exact ZC8 ZGz _ ai (hQ _ _ _ ai)
  unfold ZGy at hr
  split at hr
  ·exact mq93
  ·exact mq93
  ·rename_i v t1 σ1 ai
   obtain ⟨keep,ei,bm⟩:=Zjs hr;exact go keep (fun e2 t2 σ2 h=>by rw [ai] at h;cases h;exact bm hK) ei
  cases hr
 cases hr
end
def fnR (P:Program) (call:VQ) (T:Tab) (N:Nat) (g:FuncId):RFn:=match P.funcs[g]? with
 | some fn=>(match ZGA fn with | true=>ZDa call T N fn | false=>fun _ _=>none)
 | none=>fun _ _=>none
def ZdN (P:Program) (T:Tab) (own:Nat->Bool) (N:Nat):Nat->VQ
 | 0=>fun _ _ _=>none
 | n+1=>fun g args σ=>match own g with
  | true=>Zab true (fnR P (ZdN P T own N n) T N g) args σ
  | false=>Zab false (fnR P (ZdN P T own N n) T N g) (XE args) σ
def Zu2 {G:GE} {T:Tab} (hT:TabOK T G.P) (be:G.P.follows .mixedOrders=true) {own:Nat->Bool} {N:Nat} :
  ∀n,(∀g,(∃args σ x,fnR G.P (ZdN G.P T own N n) T N g args σ=some x)->PCalls G g (ZuY (fnR G.P (ZdN G.P T own N n) T N g)))/\CallSem G (ZGB (ZdN G.P T own N n)):=by
 have step:∀call:VQ,CallSem G (ZGB call)->∀g,(∃args σ x,fnR G.P call T N g args σ=some x)->PCalls G g (ZuY (fnR G.P call T N g)):=by
  intro call hc g hx
  obtain ⟨a0,s0,x0,hx⟩:=hx;unfold fnR at hx |-
  cases hf:G.P.funcs[g]? with
  | none=>simp only [hf] at hx;cases hx
  | some fn =>
  simp only [hf] at hx;simp only
  cases hk:ZGA fn with
  | false=>simp only [hk] at hx;cases hx
  | true=>exact ZxW hT be hc hf hk
 intro n
 induction n with
 | zero =>
  have h0:CallSem G (ZGB (ZdN G.P T own N 0)):=fun g args σ K h=>by
   obtain ⟨_,_,h,_⟩:=h
   cases h
  exact ⟨step _ h0,h0⟩
 | succ n ih =>
 have hs:CallSem G (ZGB (ZdN G.P T own N (n+1))):=fun g args σ K h=>by
  obtain ⟨pe,σ',h,hK⟩:=h;simp only [ZdN] at h;have live:∀own' args,Zab own' (fnR G.P (ZdN G.P T own N n) T N g) args σ=some (pe,σ')->PCalls G g (ZuY (fnR G.P (ZdN G.P T own N n) T N g)):=fun own' args h=>by
   refine ih.1 g ?_;unfold Zab at h
   simp only [Zgc] at h;split at h
   ·split at h
    ·simp only [Zgb,Zji] at h;split at h
     ·rename_i hr;exact ⟨_,_,_,hr⟩
     cases h
    cases h
   cases h
  split at h
  ·exact X6 (live _ _ h) (Zgj h hK)
  have:=X6 (live _ _ h) (Zgj h hK);exact ⟨this.1,fun ro n e w vs hS ha=>this.2 ro n e w vs hS (ha.clean (Later.refl e σ w))⟩
 exact ⟨step _ hs,hs⟩
def Zrf {G:GE} {T:Tab} (hT:TabOK T G.P) (be:G.P.follows .mixedOrders=true) {own:Nat->Bool} {N n:Nat} {g:FuncId} {args:List PV} {σ:St} {pe:PEnd} {σ':St}
  (h:fnR G.P (ZdN G.P T own N n) T N g args σ=some (pe,σ')):PCalls G g fun a s K=>a=args/\s=σ/\K pe σ' :=
 have hP:=(Zu2 hT be n).1 g ⟨_,_,_,h⟩
 ⟨hP.enters,fun a s K hs=>by obtain ⟨rfl,rfl,hK⟩:=hs;exact hP.calls _ _ _ ⟨_,_,h,hK⟩⟩
end Go.PM
end
