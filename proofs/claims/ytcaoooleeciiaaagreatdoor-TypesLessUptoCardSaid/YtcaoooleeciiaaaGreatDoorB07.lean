/- A part of the proof: plain logic, contracts and laws over the given program. -/
import Derived.Test.YtcaoooleeciiaaaGreatDoorB06
set_option linter.unusedVariables false
set_option linter.unusedSimpArgs false
set_option linter.all false
set_option maxRecDepth 100000
set_option maxHeartbeats 16000000
noncomputable section
section
namespace Go.PM.Lex
structure T0 where
 kind:Nat
 text:Bs
 n:Int
 deriving DecidableEq
def Tok.t0 (t:Tok):T0:=⟨t.kind,t.text,t.n⟩
abbrev Ts:=List T0
inductive R (α:Type) where
 | ok (a:α) (ts:Ts) | err (r e:Nat)
def R.bind {α β:Type} (x:R α) (f:α->Ts->R β):R β:=match x with
 | .ok a ts=>f a ts
 | .err r e=>.err r e
@[simp] theorem R.bind_ok {α β:Type} (a:α) (ts:Ts) (f:α->Ts->R β):(R.ok a ts).bind f=f a ts:=rfl
@[simp] theorem R.bind_err {α β:Type} (r e:Nat) (f:α->Ts->R β):(R.err r e:R α).bind f=.err r e:=rfl
inductive Ex where
 | mk (op:Nat) (text:Bs) (n:Int) (args:List Ex) (at':Nat)
inductive Li where
 | mk (op:Nat) (rel:Bs) (args:List Ex) (body:List Li) (at':Nat)
structure Ru where
 head:Bs
 args:List Ex
 body:List Li
 at':Nat
structure Fi where
 name:Bs
 typ:Bs
structure Ca where
 name:Bs
 fields:List Fi
structure Ty where
 kind:Nat
 name:Bs
 base:Bs
 fields:List Fi
 cases:List Ca
 at':Nat
structure Re where
 name:Bs
 fields:List Fi
 inn:Bool
 out:Bool
 inl:Bool
 at':Nat
structure Ini where
 name:Bs
 comp:Bs
 types:List Bs
 at':Nat
structure Ov where
 rel:Bs
 at':Nat
mutual
inductive Un where
 | mk (types:List Ty) (rels:List Re) (rules:List Ru) (comps:List Co) (inits:List Ini) (overs:List Ov)
inductive Co where
 | mk (name:Bs) (params:List Bs) (base:Bs) (types:List Bs) (unit:Un) (at':Nat)
end
def hd (ts:Ts):T0:=match ts with
 | []=>⟨0,[],0⟩
 | t::_=>t
def Z1 (s:Bs):Nat :=
 if s=[99,97,116] then 20 else if s=[115,116,114,108,101,110] then 21 else if s=[115,117,98,115,116,114] then 22 else if s=[99,111,100,101] then 23 else if s=[115,116,114] then 24 else if s=[110,117,109] then 25 else 0
def keptWords:List Bs:=[[116,121,112,101],[100,101,99,108],[105,110,112,117,116],[111,117,116,112,117,116],[105,110,108,105,110,101],[99,111,109,112],[105,110,105,116],[111,118,101,114,114,105,100,101],[110,105,108],[99,111,117,110,116],[115,117,109],[109,105,110],[109,97,120],[98,111,114],[98,120,111,114],[98,97,110,100],[115,104,108],[115,104,114]]
def ZeZ (s:Bs):Bool:=keptWords.contains s || decide (Z1 s≠0)
def isW (ts:Ts) (ws:List Bs):Bool:=(decide ((hd ts).kind=1) || decide ((hd ts).kind=4)) && ws.contains (hd ts).text
def Zt (ts:Ts):Bool:=decide ((hd ts).kind=1) && (!decide ((hd ts).text=[95]) && !ZeZ (hd ts).text)
def ZC (ts:Ts):Bool :=
 if (hd ts).kind=2\/(hd ts).kind=3 then true
 else if (hd ts).kind=4 then isW ts [[45],[126],[40],[91],[36]]
 else if (hd ts).kind=1 then !ZeZ (hd ts).text || (decide ((hd ts).text=[110,105,108]) || decide (Z1 (hd ts).text≠0))
 else false
def VR (ts:Ts):Nat×Nat :=
 if (hd ts).kind≠1/\(hd ts).kind≠4 then (0,0)
 else if (hd ts).text=[98,111,114] then (1,16) else if (hd ts).text=[98,120,111,114] then (1,17) else if (hd ts).text=[98,97,110,100] then (2,15) else if (hd ts).text=[115,104,108] then (3,18) else if (hd ts).text=[115,104,114] then (3,19)
 else if (hd ts).text=[43] then (4,10) else if (hd ts).text=[45] then (4,11) else if (hd ts).text=[42] then (5,12) else if (hd ts).text=[47] then (5,13) else if (hd ts).text=[37] then (5,14) else (0,0)
def ZM (w:Bs) (ts:Ts):R Unit:=if isW ts [w]=true then .ok () ts.tail else .err ts.length 150
def Y9 (ts:Ts):R Bs:=if Zt ts=true then .ok (hd ts).text ts.tail else .err ts.length 150
def Zm {α:Type} (d:Nat) (fr tw:Bs) (read:Ts->R α) (ts:Ts):R α :=
 if isW ts [fr]=true then
  (if d=0 then .err ts.length 151 else (read ts.tail).bind fun x ts=>if tw=[] then .ok x ts else (ZM tw ts).bind fun _ ts=>.ok x ts)
 else .err ts.length 150
def Yw {α:Type} (sign:Bs) (most:Nat) (starts:Ts->Bool) (one:Ts->R α):Nat->List α->Ts->R (List α)
 | 0,_,_=>.err 0 150
 | f+1,l,ts=>if starts ts=true/\l.length=most then .err ts.length 3
   else (one ts).bind fun x ts=>if isW ts [sign]=true then Yw sign most starts one f (l++[x]) ts.tail else .ok (l++[x]) ts
def Xf {α:Type} (sign:Bs) (most:Nat) (starts:Ts->Bool) (one:Ts->R α) (ts:Ts):R (List α):=Yw sign most starts one (ts.length+1) [] ts
def Wr (ts:Ts):R Fi:=(Y9 ts).bind fun a ts=>(ZM [58] ts).bind fun _ ts=>(Y9 ts).bind fun b ts=>.ok ⟨a,b⟩ ts
def Wo (fin:Bs) (ts:Ts):R (List Fi):=if isW ts [fin]=true then .ok [] ts else Xf [44] 12 Zt Wr ts
def Zg5 (ts:Ts):R (List Bs):=if isW ts [[60]]=true then (Xf [44] 12 Zt Y9 ts.tail).bind fun l ts=>(ZM [62] ts).bind fun _ ts=>.ok l ts else .ok [] ts
def Jt (ts:Ts):R Ca:=(Y9 ts).bind fun a ts=>(ZM [123] ts).bind fun _ ts=>(Wo [125] ts).bind fun l ts=>(ZM [125] ts).bind fun _ ts=>.ok ⟨a,l⟩ ts
def Ju (t0:Ts):R Ty:=(Y9 t0).bind fun nm ts =>
 if isW ts [[60,58]]=true then (Y9 ts.tail).bind fun b ts=>.ok ⟨1,nm,b,[],[],t0.length⟩ ts
 else (ZM [61] ts).bind fun _ ts =>
  if isW ts [[91]]=true then (Wo [93] ts.tail).bind fun l ts=>(ZM [93] ts).bind fun _ ts=>.ok ⟨2,nm,[],l,[],t0.length⟩ ts
  else (Xf [124] 64 Zt Jt ts).bind fun l ts=>.ok ⟨3,nm,[],[],l,t0.length⟩ ts
def Yn:Nat->Bool->Bool->Bool->Ts->(Bool×Bool×Bool)×Ts
 | 0,i,o,n,ts=>((i,o,n),ts)
 | f+1,i,o,n,ts=>if i=false/\isW ts [[105,110,112,117,116]]=true then Yn f true o n ts.tail
   else if o=false/\isW ts [[111,117,116,112,117,116]]=true then Yn f i true n ts.tail
   else if n=false/\isW ts [[105,110,108,105,110,101]]=true then Yn f i o true ts.tail
   else ((i,o,n),ts)
def Ze0 (t0:Ts):R Re:=(Y9 t0).bind fun nm ts=>(ZM [40] ts).bind fun _ ts=>(Wo [41] ts).bind fun l ts=>(ZM [41] ts).bind fun _ ts =>
 .ok ⟨nm,l,(Yn 4 false false false ts).1.1,(Yn 4 false false false ts).1.2.1,(Yn 4 false false false ts).1.2.2,t0.length⟩ (Yn 4 false false false ts).2
def Zad (d:Nat) (ex:Ts->R Ex) (fr tw:Bs) (ts:Ts):R (List Ex):=Zm d fr tw (fun ts=>if isW ts [tw]=true then .ok [] ts else Xf [44] 12 ZC ex ts) ts
def Y1 (ex:Ts->R Ex):Nat->List Ex->Ts->R (List Ex)
 | 0,l,ts=>.ok l ts
 | k+1,l,ts=>(if l=[] then .ok () ts else ZM [44] ts).bind fun _ ts=>(ex ts).bind fun e ts=>Y1 ex k (l++[e]) ts
def ZbB (op:Nat):Nat:=if op=22 then 3 else if op=20 then 2 else 1
def YK (d:Nat) (ex:Ts->R Ex) (ts:Ts):R Ex :=
 if ZC ts=false then .err ts.length 150
 else if (hd ts).kind=2 then .ok (.mk 3 [] (hd ts).n [] ts.length) ts.tail
 else if (hd ts).kind=3 then .ok (.mk 4 (hd ts).text 0 [] ts.length) ts.tail
 else if (hd ts).text=[40] then Zm d [40] [41] ex ts
 else if (hd ts).text=[91] then (Zad d ex [91] [93] ts).bind fun l ts'=>.ok (.mk 6 [] 0 l ts.length) ts'
 else if (hd ts).text=[36] then (Y9 ts.tail).bind fun nm ts'=>if isW ts' [[40]]=true then (Zad d ex [40] [41] ts').bind fun l ts'=>.ok (.mk 7 nm 0 l ts.length) ts' else .ok (.mk 7 nm 0 [] ts.length) ts'
 else if Z1 (hd ts).text≠0 then (Zm d [40] [41] (Y1 ex (ZbB (Z1 (hd ts).text)) []) ts.tail).bind fun l ts'=>.ok (.mk (Z1 (hd ts).text) [] 0 l ts.length) ts'
 else if (hd ts).text=[110,105,108] then .ok (.mk 5 [] 0 [] ts.length) ts.tail
 else if (hd ts).text=[95] then .ok (.mk 2 [] 0 [] ts.length) ts.tail
 else .ok (.mk 1 (hd ts).text 0 [] ts.length) ts.tail
def Ex.at':Ex->Nat | .mk _ _ _ _ a=>a
def XJ (sub:Nat->Ts->R Ex) (least:Nat):Nat->Ex->Ts->R Ex
 | 0,_,_=>.err 0 150
 | f+1,e,ts=>if (VR ts).1<least\/(VR ts).1=0 then .ok e ts
   else (sub ((VR ts).1+1) ts.tail).bind fun g ts'=>XJ sub least f (.mk (VR ts).2 [] 0 [e,g] e.at') ts'
def XK (sg:Ts->R Ex):Nat->Nat->Ts->R Ex
 | 0,_,ts=>sg ts
 | k+1,least,ts=>(sg ts).bind fun e ts=>XJ (XK sg k) least (ts.length+1) e ts
def Xg (d:Nat) (sg:Ts->R Ex) (ts:Ts):R Ex :=
 if isW ts [[45]]=true then (Zm d [45] [] sg ts).bind fun e ts'=>.ok (.mk 8 [] 0 [e] ts.length) ts'
 else if isW ts [[126]]=true then (Zm d [126] [] sg ts).bind fun e ts'=>.ok (.mk 9 [] 0 [e] ts.length) ts'
 else YK d (XK sg 6 1) ts
def Ya:Nat->Ts->R Ex
 | 0=>Xg 0 fun _=>.err 0 150
 | d+1=>Xg (d+1) (Ya d)
def Vl (d:Nat) (ts:Ts):R Ex:=XK (Ya d) 6 1 ts
def Jv:Nat->Ts->R Ex
 | 0=>fun _=>.err 0 150
 | d+1=>Vl d
def Vw (ts:Ts):Nat->List Bs->Option Nat
 | _,[]=>none
 | i,w::ws=>if isW ts [w]=true then some i else Vw ts (i+1) ws
def ZU:List Bs:=[[61],[33,61],[60],[60,61],[62],[62,61]]
def Z5:List Bs:=[[99,111,117,110,116],[115,117,109],[109,105,110],[109,97,120]]
def Vm (ts:Ts):R Nat:=match Vw ts 0 ZU with
 | none=>.err ts.length 150
 | some 0=>match Vw ts.tail 0 Z5 with
  | some j=>.ok (9+j) ts.tail.tail
  | none=>.ok 3 ts.tail
 | some k=>.ok (3+k) ts.tail
def W7 (d op a:Nat) (ts:Ts):R Li:=(Y9 ts).bind fun nm ts=>(Zad d (Jv d) [40] [41] ts).bind fun l ts=>.ok (.mk op nm l [] a) ts
def YV (d:Nat) (bd:Ts->R (List Li)) (a op:Nat) (l:List Ex) (ts:Ts):R Li :=
 if 9<=op then (ZM [58] ts).bind fun _ ts=>(Zm d [123] [125] bd ts).bind fun b ts=>.ok (.mk op [] l b a) ts
 else .ok (.mk op [] l [] a) ts
def U5 (d:Nat) (bd:Ts->R (List Li)) (t0:Ts):R Li:=(Vl d t0).bind fun e ts=>(Vm ts).bind fun op ts =>
 if op=9 then YV d bd t0.length op [e] ts else (Vl d ts).bind fun g ts=>YV d bd t0.length op [e,g] ts
def Zbf (d:Nat) (bd:Ts->R (List Li)) (t0:Ts):R Li :=
 if isW t0 [[33]]=true then W7 d 2 t0.length t0.tail
 else if Zt t0=true/\(hd t0.tail).kind=4/\(hd t0.tail).text=[40] then W7 d 1 t0.length t0
 else U5 d bd t0
def Yj (ts:Ts):Bool:=ZC ts || isW ts [[33]]
def Zgu:Nat->Ts->R (List Li)
 | 0=>Xf [44] 32 Yj (Zbf 0 fun _=>.err 0 150)
 | d+1=>Xf [44] 32 Yj (Zbf (d+1) (Zgu d))
def UM:Nat->Ts->R (List Li)
 | 0=>fun _=>.err 0 150
 | d+1=>Zgu d
def ZdE (d:Nat) (bodies:Bool) (t0:Ts):R Ru:=(Y9 t0).bind fun nm ts=>(Zad d (Jv d) [40] [41] ts).bind fun l ts =>
 if bodies=true/\isW ts [[58,45]]=true then (Zgu d ts.tail).bind fun b ts=>(ZM [46] ts).bind fun _ ts=>.ok ⟨nm,l,b,t0.length⟩ ts
 else (ZM [46] ts).bind fun _ ts=>.ok ⟨nm,l,[],t0.length⟩ ts
def Zsy (d:Nat) (un:Ts->R Un) (t0:Ts):R Co:=(Y9 t0).bind fun nm ts=>(Zg5 ts).bind fun ps ts =>
 if isW ts [[58]]=true then (Y9 ts.tail).bind fun b ts=>(Zg5 ts).bind fun tys ts=>(Zm d [123] [125] un ts).bind fun u ts=>.ok (.mk nm ps b tys u t0.length) ts
 else (Zm d [123] [125] un ts).bind fun u ts=>.ok (.mk nm ps [] [] u t0.length) ts
def Zsz (t0:Ts):R Ini:=(Y9 t0).bind fun nm ts=>(ZM [61] ts).bind fun _ ts=>(Y9 ts).bind fun c ts=>(Zg5 ts).bind fun tys ts=>.ok ⟨nm,c,tys,t0.length⟩ ts
def ZsA (t0:Ts):R Ov:=(Y9 t0).bind fun nm ts=>.ok ⟨nm,t0.length⟩ ts
def ZG (inside:Bool) (d:Nat) (un:Ts->R Un):Nat->Un->Ts->R Un
 | 0,_,_=>.err 0 150
 | f+1,.mk tys rels rules comps inits overs,ts =>
  if ts=[]\/(inside=true/\isW ts [[125]]=true) then .ok (.mk tys rels rules comps inits overs) ts
  else if isW ts [[116,121,112,101]]=true then (if tys.length=256 then .err ts.length 3 else (Ju ts.tail).bind fun x ts=>ZG inside d un f (.mk (tys++[x]) rels rules comps inits overs) ts)
  else if isW ts [[100,101,99,108]]=true then (if rels.length=256 then .err ts.length 3 else (Ze0 ts.tail).bind fun x ts=>ZG inside d un f (.mk tys (rels++[x]) rules comps inits overs) ts)
  else if isW ts [[99,111,109,112]]=true then (if comps.length=64 then .err ts.length 3 else (Zsy d un ts.tail).bind fun x ts=>ZG inside d un f (.mk tys rels rules (comps++[x]) inits overs) ts)
  else if isW ts [[105,110,105,116]]=true then (if inits.length=256 then .err ts.length 3 else (Zsz ts.tail).bind fun x ts=>ZG inside d un f (.mk tys rels rules comps (inits++[x]) overs) ts)
  else if isW ts [[111,118,101,114,114,105,100,101]]=true then (if overs.length=256 then .err ts.length 3 else (ZsA ts.tail).bind fun x ts=>ZG inside d un f (.mk tys rels rules comps inits (overs++[x])) ts)
  else if Zt ts=true then (if rules.length=1024 then .err ts.length 3 else (ZdE d true ts).bind fun x ts=>ZG inside d un f (.mk tys rels (rules++[x]) comps inits overs) ts)
  else .err ts.length 150
def Un.nil:Un:=.mk [] [] [] [] [] []
def Zkp (inside:Bool) (d:Nat) (un:Ts->R Un) (ts:Ts):R Un:=ZG inside d un (ts.length+1) .nil ts
def ZsB:Nat->Ts->R Un
 | 0=>Zkp true 0 fun _=>.err 0 150
 | d+1=>Zkp true (d+1) (ZsB d)
def Wp (ts:Ts):R Un:=Zkp false 64 (ZsB 63) ts
end Go.PM.Lex
end

section
noncomputable section
namespace Go.PM.Lex
open Go.Proofs
def tz (L:List Tok) (a:Int):Ts:=(L.drop a.toNat).map Tok.t0
def Zc (L:List Tok) (en:Int) (r:Nat):Int:=match L.drop (L.length - r) with
 | []=>en
 | t::_=>t.at'
structure ROK (L:List Tok) (a:Int) (ts:Ts):Prop where
 lo:0<=a
 hi:a<=L.length
 big:L.length<=1048576
 eq:tz L a=ts
def ROK.len {L:List Tok} {a:Int} {ts:Ts} (h:ROK L a ts):(ts.length:Int)=L.length - a:=by
 rw [<- h.eq];simp only [tz,Tf,TD];have:=h.lo;have:=h.hi;omega
def ROK.next {L:List Tok} {a:Int} {t:T0} {ts:Ts} (h:ROK L a (t::ts)):ROK L (a+1) ts:=by
 have hl:=h.len;have h0:=h.lo;refine ⟨oM,by simp at hl;omega,h.big,?_⟩;have:=h.eq;simp only [tz] at this |-;rw [show (a+1).toNat=a.toNat+1 by omega,<- TU,List.map_drop,this];rfl
def Jw {ts:Ts} {ws:List Bs} (h:isW ts ws=true):ts≠[]:=by rintro rfl;simp [isW,hd] at h
def Zkq {ts:Ts} (h:Zt ts=true):ts≠[]:=by rintro rfl;simp [Zt,hd] at h
def ROK.tl {L:List Tok} {a:Int} {ts:Ts} (h:ROK L a ts) (hn:ts≠[]):ROK L (a+1) ts.tail:=by
 cases ts with
 | nil=>exact absurd rfl hn
 | cons t ts=>exact h.next
def ROK.get {L:List Tok} {a:Int} {t:T0} {ts:Ts} (h:ROK L a (t::ts)):∃x,L[a.toNat]?=some x/\x.t0=t/\∀en,Zc L en (ts.length+1)=x.at':=by
 have hl:=h.len;have h0:=h.lo;have h1:=h.eq;simp only [Te] at hl;have ab:a.toNat<L.length:=oM;refine ⟨L[a.toNat],Tc ab,?_,fun en=>?_⟩
 ·simp only [tz] at h1;rw [Tq ab] at h1;simp only [Tz,List.cons.injEq] at h1;exact h1.1
 unfold Zc
 rw [show L.length - (ts.length+1)=a.toNat by omega,Tq ab]
def ROK.none {L:List Tok} {a:Int} (h:ROK L a []):a=L.length:=by have:=h.len;simp at this;omega
def Zdg (L:List Tok) (en:Int):Zc L en 0=en:=by simp [Zc]
abbrev Pl:=Nat->Int
mutual
def Z7 (pl:Pl):Ex->List D
 | .mk op text n args a=>[.int .u8 op,.str text,.int .i64 n,.sl (Zs pl args),.int .i64 (pl a)]
def Zs (pl:Pl):List Ex->List (List D)
 | []=>[]
 | e::l=>Z7 pl e::Zs pl l
end
mutual
def XD (pl:Pl):Li->List D
 | .mk op rel args body a=>[.int .u8 op,.str rel,.sl (Zs pl args),.sl (XL pl body),.int .i64 (pl a)]
def XL (pl:Pl):List Li->List (List D)
 | []=>[]
 | e::l=>XD pl e::XL pl l
end
def ZH (pl:Pl) (r:Ru):List D:=[.str r.head,.sl (Zs pl r.args),.sl (XL pl r.body),.int .i64 (pl r.at')]
def Zn (f:Fi):List D:=[.str f.name,.str f.typ]
def Zy (c:Ca):List D:=[.str c.name,.sl (c.fields.map Zn)]
def Zv (pl:Pl) (t:Ty):List D:=[.int .u8 t.kind,.str t.name,.str t.base,.sl (t.fields.map Zn),.sl (t.cases.map Zy),.int .i64 (pl t.at')]
def ZO (pl:Pl) (r:Re):List D:=[.str r.name,.sl (r.fields.map Zn),.bool r.inn,.bool r.out,.bool r.inl,.int .i64 (pl r.at')]
def YF (s:Bs):List D:=[.str s]
def WG (pl:Pl) (i:Ini):List D:=[.str i.name,.str i.comp,.sl (i.types.map YF),.int .i64 (pl i.at')]
def WH (pl:Pl) (o:Ov):List D:=[.str o.rel,.int .i64 (pl o.at')]
mutual
def WI (pl:Pl):Un->List D
 | .mk tys rels rules comps inits overs=>[.sl (tys.map (Zv pl)),.sl (rels.map (ZO pl)),.sl (rules.map (ZH pl)),.sl (Zoa pl comps),.sl (inits.map (WG pl)),.sl (overs.map (WH pl))]
def Wi (pl:Pl):Co->List D
 | .mk name params base types u a=>[.str name,.sl (params.map YF),.str base,.sl (types.map YF)]++WI pl u++[.int .i64 (pl a)]
def Zoa (pl:Pl):List Co->List (List D)
 | []=>[]
 | e::l=>Wi pl e::Zoa pl l
end
def Zd (pl:Pl) (l:List Ex):Zs pl l=l.map (Z7 pl):=by induction l with | nil=>rfl | cons x l ih=>simp [Zs,ih]
def Zp (pl:Pl) (l:List Li):XL pl l=l.map (XD pl):=by induction l with | nil=>rfl | cons x l ih=>simp [XL,ih]
def Xo (pl:Pl) (l:List Co):Zoa pl l=l.map (Wi pl):=by induction l with | nil=>rfl | cons x l ih=>simp [Zoa,ih]
abbrev ZcB (l:List D):PV:=.agg (l.map .d)
abbrev flt (L:List Tok) (en:Int) (r e:Nat):PV:=.iface 194 (.agg [.d (.int .i64 (Zc L en r)),.d (.int .i64 e)])
abbrev RK:=PEnd->Int->Int->Prop
def RKk {α:Type} (enc:α->PV) (L:List Tok) (en dp lo:Int) (x:R α) (K:RK):Prop:=match x with
 | .ok v ts'=>∀a',lo<=a'->ROK L a' ts'->K (.ret (enc v)) a' dp
 | .err r e=>∀a' dp',K (.panic (flt L en r e)) a' dp'
def XU (body:List PV->List Tok->Int->Int->Int->Ts->RK->Prop):Zq:=fun args σ K=>match args,σ with
 | .ptr 0 0::rest,⟨[.cells t [.d (.sl rows),.d (.int .i64 a),.d (.int .i64 en),.d (.int .i64 dp)]],[],0⟩=>∃L ts,rows=Z6 L/\ROK L a ts /\
   body rest L en dp a ts fun pe a' dp'=>K pe ⟨[.cells t [.d (.sl (Z6 L)),.d (.int .i64 a'),.d (.int .i64 en),.d (.int .i64 dp')]],[],0⟩
 | _,_=>False
def ZsF {body:List PV->List Tok->Int->Int->Int->Ts->RK->Prop} (hb:∀rest L en dp a ts (K K':RK),(∀pe a d,K pe a d->K' pe a d)->body rest L en dp a ts K->body rest L en dp a ts K'):ZL (XU body):=fun args σ K K' hK h=>by
 unfold XU at h |-
 split at h
 ·obtain ⟨L,ts,h1,h2,h3⟩:=h;exact ⟨L,ts,h1,h2,hb _ _ _ _ _ _ _ _ (fun pe a d hk=>hK _ _ hk) h3⟩
 exact h.elim
def Jx:Zq:=fun args σ K=>match args,σ with
 | [.d (.str s)],⟨[],[],0⟩=>∀n:Int,(Z1 s:Int)=n->K (.ret (.d (.int .u8 n))) ⟨[],[],0⟩
 | _,_=>False
def Zkr:Zq:=fun args σ K=>match args,σ with
 | [.d (.str s)],⟨[],[],0⟩=>∀b,ZeZ s=b->K (.ret (.d (.bool b))) ⟨[],[],0⟩
 | _,_=>False
def Zgw (s:Bs):Nat->List Bs->Int
 | _,[]=>-1
 | i,w::ws=>if s=w then i else Zgw s (i+1) ws
def Zix:Zq:=fun args σ K=>match args,σ with
 | [.d (.sl rows),.d (.str s)],⟨[],[],0⟩=>∃ws:List Bs,rows=ws.map YF/\ws.length<=1048576/\K (.ret (.d (.int .i64 (Zgw s 0 ws)))) ⟨[],[],0⟩
 | _,_=>False
def ZcC:Zq:=fun args σ K=>match args,σ with
 | [.d (.sl rows),.d (.str s)],⟨[],[],0⟩=>∃ws:List Bs,rows=ws.map YF/\ws.length<=1048576/\∀b,ws.contains s=b->K (.ret (.d (.bool b))) ⟨[],[],0⟩
 | _,_=>False
def ZbD:Zq:=XU fun rest L en dp a ts K=>match rest with
 | [.d (.int .i64 n)]=>∀fin,(n=0/\K (.ret (.agg [.d (.int .u8 (hd ts).kind),.d (.str (hd ts).text),.d (.int .i64 (hd ts).n),.d (.int .i64 (Zc L en ts.length)),.d (.int .i64 fin)])) a dp) \/
   (n=1/\K (.ret (.agg [.d (.int .u8 (hd ts.tail).kind),.d (.str (hd ts.tail).text),.d (.int .i64 (hd ts.tail).n),.d (.int .i64 (Zc L en ts.tail.length)),.d (.int .i64 fin)])) a dp)
 | _=>False
def W8:Zq:=XU fun rest L en dp a ts K=>match rest with
 | []=>K (.ret (.d (.int .i64 (Zc L en ts.length)))) a dp
 | _=>False
def Zks:Zq:=XU fun rest L en dp a ts K=>match rest with
 | [.d (.sl rows)]=>∃ws:List Bs,rows=ws.map YF/\ws.length<=1048576/\∀b,isW ts ws=b->K (.ret (.d (.bool b))) a dp
 | _=>False
def ZaR (p:Ts->Bool):Zq:=XU fun rest L en dp a ts K=>match rest with
 | []=>∀b,p ts=b->K (.ret (.d (.bool b))) a dp
 | _=>False
def Xd:Zq:=XU fun rest L en dp a ts K=>match rest with
 | [.d (.int .i64 e)]=>K (.panic (.iface 194 (.agg [.d (.int .i64 (Zc L en ts.length)),.d (.int .i64 e)]))) a dp
 | _=>False
def Zmy:ZL Xd:=ZsF fun rest L en dp a ts K K' hK h=>by
 split at h
 ·exact hK _ _ _ h
 exact h.elim
def Ws:Zq:=XU fun rest L en dp a ts K=>match rest with
 | [.d (.sl rows)]=>∃ws:List Bs,rows=ws.map YF/\ws.length<=1048576/\(isW ts ws=true->ROK L (a+1) ts.tail->K (.ret (.d (.bool true))) (a+1) dp)/\(isW ts ws=false->K (.ret (.d (.bool false))) a dp)
 | _=>False
def Zob:Zq:=XU fun rest L en dp a ts K=>match rest with
 | [.d (.int .i64 n),.d (.int .i64 m)]=>(n=m->K (.panic (flt L en ts.length 3)) a dp)/\(n≠m->K (.ret (.tuple [])) (a+1) dp)
 | _=>False
def spR {α:Type} (enc:List Tok->Int->α->PV) (P:Ts->R α) (lo:Int):Zq:=XU fun rest L en dp a ts K=>match rest with
 | []=>∀x,P ts=x->RKk (enc L en) L en dp (a+lo) x K
 | _=>False
def XV:Zq:=XU fun rest L en dp a ts K=>match rest with
 | [.d (.str w)]=>∀x,ZM w ts=x->RKk (fun _=>.tuple []) L en dp (a+1) x K
 | _=>False
abbrev X1:Zq:=spR (fun _ _ (v:Bs)=>.d (.str v)) Y9 1
end Go.PM.Lex
end
end

section
namespace Go.PM.Lex
open Go.Proofs
variable {w0:World} {nG:Nat}
def ZcD:PC w0 nG 162 Jx:=by
 refine pwe Tryz.func162 fun args σ K h=>?_
 unfold Jx at h
 split at h
 ·rename_i s
  refine pwu [] 0 false ?_
  repeat' ((conv=>whnf);refine ZJU (fun hc=>?_) (fun hc=>?_))
  all_goals (conv=>whnf)
  all_goals exact h _ (by simp [Z1, *])
 exact h.elim
def Zzr:Tbl:=[(162,Jx)]
def Zmz:PC w0 nG 104 Zkr:=by
 refine pwt (tbl:=Zzr) ⟨ZcD,trivial⟩ Tryz.func104 fun args σ K h=>?_
 unfold Zkr at h
 split at h
 ·rename_i s
  refine pwu [] 0 false ?_
  repeat' ((conv=>whnf);refine ZJU (fun hc=>?_) (fun hc=>?_))
  all_goals (conv=>whnf)
  all_goals first
   | contradiction
   | exact h _ (by subst_vars;decide)
   | skip
  intro n hn
  conv=>whnf
  refine h _ ?_;have hk:keptWords.contains s=false:=by
   have:¬s∈keptWords:=by
    simp only [keptWords,Tv,List.not_mem_nil,or_false,not_or]
    repeat' (first | assumption | refine ⟨by assumption,?_⟩)
   rw [Bool.eq_false_iff];intro g
   exact this (List.contains_iff_mem.1 g)
  rw [ZeZ,hk,<- hn]
  by_cases h0:Z1 s=0 <;> simp [h0]
 exact h.elim
def Zg6 (s w:Bs) (i:Nat) (ws:List Bs):Zgw s i (w::ws)=if s=w then (i:Int) else Zgw s (i+1) ws:=rfl
def Zkt (s:Bs):∀(ws:List Bs) (i:Nat),(0<=Zgw s i ws)↔ws.contains s=true
 | [],i=>by simp [Zgw]
 | w::ws,i=>by
  rw [Zg6];split
  ·rename_i h;subst h;simp
  rename_i h;rw [Zkt s ws];simp [h]
def Zqh (s:Bs) (ws:List Bs) (i:Nat) (h:i<ws.length):Zgw s i (ws.drop i)=if s=ws[i] then (i:Int) else Zgw s (i+1) (ws.drop (i+1)):=by
 rw [Tq h,Zg6]
def ZsG:PC w0 nG 215 Zix:=by
 refine pwe Tryz.func215 fun args σ K h=>?_
 unfold Zix at h
 split at h
 ·rename_i rows s
  obtain ⟨ws,rfl,hw,h⟩:=h;refine pwv [(2,⟨[8],[0,1,7],fun vs σ=>∃i:Nat,vs=[.d (.int .i64 i)]/\σ=⟨[],[],0⟩/\i<=ws.length/\Zgw s 0 ws=Zgw s i (ws.drop i),mu1 ws.length⟩)] 0 false ?_;refine ⟨⟨0,rfl,rfl,oM,rfl⟩,?_⟩;intro vs σ hI
  obtain ⟨i,rfl,rfl,hi,hx⟩:=hI;(conv=>whnf);refine ZJU (fun hc=>wN ?_) (fun hc=>wN ?_)
  ·have hc:i<ws.length:=by have hc:(i:Int)<((ws.map YF).length:Int):=hc;rw [Tf] at hc;omega
   refine ⟨YF ws[i],oM,by simp [hc],wN ?_⟩;rw [Zqh s ws i hc] at hx;refine ZJU (fun h1=>wN ?_) (fun h1=>wN ?_)
   ·rw [hx,Tg h1] at h;exact h
   rw [Tb h1] at hx;refine Zl ?_;refine ⟨⟨i+1,rfl,rfl,oM,hx⟩,?_⟩;exact lzM oM
  have hc:ws.length<=i:=by have hc:¬(i:Int)<((ws.map YF).length:Int):=hc;rw [Tf] at hc;omega
  rw [TA hc] at hx;rw [hx] at h;exact h
 exact h.elim
def Zzs:Tbl:=[(215,Zix)]
def ZmA:PC w0 nG 180 ZcC:=by
 refine pwt (tbl:=Zzs) ⟨ZsG,trivial⟩ Tryz.func180 fun args σ K h=>?_
 unfold ZcC at h
 split at h
 ·rename_i rows s
  obtain ⟨ws,rfl,hw,h⟩:=h;refine pwv [] 0 false ?_;refine ⟨ws,rfl,hw,wN ?_⟩;exact h _ (by rw [Bool.eq_iff_iff,TV,<- Zkt s ws 0])
 exact h.elim
def ZaS:PC w0 nG 179 ZbD:=by
 refine pwe Tryz.func179 fun args σ K h=>?_
 unfold ZbD XU at h
 split at h
 ·rename_i t rows a en dp
  obtain ⟨L,ts,rfl,ho,h⟩:=h;split at h
  ·rename_i n
   have hl:=ho.len;have h0:=ho.lo;have h1:=ho.hi;have h2:=ho.big;have hn:n=0\/n=1:=by rcases h 0 with g | g <;> simp [g.1]
   refine pwv [] 1 false ?_;refine Zl ?_;refine ZJU (fun hc=>?_) (fun hc=>wN ?_)
   ·have hc:a+n<L.length:=by have hc:a+n<((Z6 L).length:Int):=hc;rw [Wh] at hc;exact hc
    rcases hn with rfl | rfl
    ·cases ts with
     | nil=>simp at hl;omega
     | cons t0 ts =>
     obtain ⟨x,hx,rfl,hp⟩:=ho.get;(conv=>whnf);refine ⟨ZDN x,oM,by simp [Z6,hx],wN ?_⟩;have h:=h x.fin;rw [Te,hp] at h;rcases h with h | h
     ·exact h.2
     exact absurd h.1 oM
    cases ts with
    | nil=>simp at hl;omega
    | cons t1 ts =>
    cases ts with
    | nil=>simp at hl;omega
    | cons t0 ts =>
    obtain ⟨x,hx,rfl,hp⟩:=ho.next.get;(conv=>whnf);refine ⟨ZDN x,oM,by simp [Z6,hx],wN ?_⟩;have h:=h x.fin;simp only [TQ,Te,hp] at h;rcases h with h | h
    ·exact absurd h.1 oM
    exact h.2
   have hc:¬a+n<L.length:=by have hc:¬a+n<((Z6 L).length:Int):=hc;rw [Wh] at hc;exact hc
   have h:=h 0;rcases hn with rfl | rfl
   ·cases ts with
    | nil => rcases h with h | h
             ·have h:=h.2;simp only [Th,Zdg] at h;exact h
             exact absurd h.1 oM
    | cons t0 ts=>simp at hl;omega
   have:ts.tail=[]:=by
    cases ts with
    | nil=>rfl
    | cons t1 ts=>cases ts with
     | nil=>rfl
     | cons t0 ts=>simp at hl;omega
   rw [this] at h;rcases h with h | h
   ·exact absurd h.1 oM
   have h:=h.2;simp only [Th,Zdg] at h;exact h
  exact h.elim
 exact h.elim
def ZvS:OKw w0 nG [(179,ZbD)] 134 W8:=by
 refine pwo Tryz.func134 fun args σ K h=>?_
 unfold W8 XU at h
 split at h
 ·rename_i rest t rows a en dp
  obtain ⟨L,ts,rfl,ho,h⟩:=h;split at h
  ·skip
   refine pwv [] 1 false ?_;refine ⟨L,ts,rfl,ho,fun fin=>Or.inl ⟨rfl,wN ?_⟩⟩;exact h
  exact h.elim
 exact h.elim
def ZHs:OKw w0 nG [(179,ZbD),(180,ZcC)] 129 Zks:=by
 refine pwo Tryz.func129 fun args σ K h=>?_
 unfold Zks XU at h
 split at h
 ·rename_i rest t rows a en dp
  obtain ⟨L,ts,rfl,ho,h⟩:=h;split at h
  ·rename_i rows
   obtain ⟨ws,rfl,hw,h⟩:=h;refine pwv [] 1 false ?_;refine ⟨L,ts,rfl,ho,fun fin=>Or.inl ⟨rfl,wN ?_⟩⟩;refine ZJU (fun h1=>wN ?_) (fun h1=>wN ?_)
   ·refine ⟨ws,rfl,hw,fun b hb=>wN ?_⟩;exact h _ (by simp only [isW,hb];simp [show (hd ts).kind=1 by omega])
   refine ZJU (fun h2=>wN ?_) (fun h2=>wN ?_)
   ·refine ⟨ws,rfl,hw,fun b hb=>wN ?_⟩;exact h _ (by simp only [isW,hb];simp [show (hd ts).kind=4 by omega])
   exact h _ (by simp [isW,show ¬(hd ts).kind=1 by omega,show ¬(hd ts).kind=4 by omega])
  exact h.elim
 exact h.elim
def ZvU:OKw w0 nG [(179,ZbD),(104,Zkr)] 138 (ZaR Zt):=by
 refine pwo Tryz.func138 fun args σ K h=>?_
 unfold ZaR XU at h
 split at h
 ·rename_i rest t rows a en dp
  obtain ⟨L,ts,rfl,ho,h⟩:=h;split at h
  ·skip
   refine pwv [] 1 false ?_;refine ⟨L,ts,rfl,ho,fun fin=>Or.inl ⟨rfl,wN ?_⟩⟩;refine ZJU (fun h1=>wN ?_) (fun h1=>wN ?_)
   ·refine ZJX (fun h2=>wN ?_) (fun h2=>wN ?_)
    ·intro b hb
     conv=>whnf
     exact h _ (by simp only [Zt,hb];rw [Sj (show (hd ts).kind=1 by omega),decide_eq_false h2];simp)
    exact h _ (by simp only [Zt];rw [Sj (p:=(hd ts).text=[95]) h2];simp)
   exact h _ (by simp [Zt,show ¬(hd ts).kind=1 by omega])
  exact h.elim
 exact h.elim
def Zzu:OKw w0 nG [(134,W8)] 128 Xd:=by
 refine pwo Tryz.func128 fun args σ K h=>?_
 unfold Xd XU at h
 split at h
 ·rename_i rest t rows a en dp
  obtain ⟨L,ts,rfl,ho,h⟩:=h;split at h
  ·skip
   refine pwv [] 1 false ?_;refine ⟨L,ts,rfl,ho,wN ?_⟩;exact h
  exact h.elim
 exact h.elim
def Zzw:OKw w0 nG [(129,Zks)] 181 Ws:=by
 refine pwo Tryz.func181 fun args σ K h=>?_
 unfold Ws XU at h
 split at h
 ·rename_i rest t rows a en dp
  obtain ⟨L,ts,rfl,ho,h⟩:=h;split at h
  ·rename_i rows
   obtain ⟨ws,rfl,hw,h1,h2⟩:=h;refine pwv [] 1 false ?_;refine ⟨L,ts,rfl,ho,ws,rfl,hw,fun b hb=>?_⟩
   cases b with
   | true =>
    have ak:=ho.tl (Jw hb);have g1:=ho.lo;have g2:=ak.hi;have g3:=ak.big;(conv=>whnf);refine Zl ?_;exact h1 hb ak
   | false =>
   conv=>whnf
   exact h2 hb
  exact h.elim
 exact h.elim
def Zzy:OKw w0 nG [(181,Ws),(128,Xd)] 136 XV:=by
 refine pwo Tryz.func136 fun args σ K h=>?_
 unfold XV XU at h
 split at h
 ·rename_i rest t rows a en dp
  obtain ⟨L,ts,rfl,ho,h⟩:=h;split at h
  ·rename_i w
   refine pwv [] 1 false ?_;refine ⟨L,ts,rfl,ho,[w],rfl,sM,fun hb ak=>wN ?_,fun hb=>wN ?_⟩
   ·have h:=h _ rfl;rw [ZM,Tg hb] at h;exact h _ oM ak
   refine ⟨L,ts,rfl,ho,wN ?_⟩;have h:=h _ rfl;rw [ZM,Tb (by rw [hb];simp)] at h;exact h _ _
  exact h.elim
 exact h.elim
def ZzA:OKw w0 nG [(128,Xd)] 130 Zob:=by
 refine pwo Tryz.func130 fun args σ K h=>?_
 unfold Zob XU at h
 split at h
 ·rename_i rest t rows a en dp
  obtain ⟨L,ts,rfl,ho,h⟩:=h;split at h
  ·rename_i n m
   refine pwv [] 1 false ?_;have g1:=ho.lo;have g2:=ho.hi;have g3:=ho.big;refine ZJU (fun hc=>wN ?_) (fun hc=>wN ?_)
   ·refine ⟨L,ts,rfl,ho,wN ?_⟩;exact h.1 hc
   refine Zl ?_;exact h.2 hc
  exact h.elim
 exact h.elim
def ZvW:OKw w0 nG [(138,(ZaR Zt)),(128,Xd)] 135 X1:=by
 refine pwo Tryz.func135 fun args σ K h=>?_
 unfold X1 spR XU at h
 split at h
 ·rename_i rest t rows a en dp
  obtain ⟨L,ts,rfl,ho,h⟩:=h;split at h
  ·skip
   refine pwv [] 1 false ?_;have h:=h _ rfl;refine ⟨L,ts,rfl,ho,fun b hb=>?_⟩
   cases b with
   | true =>
    have ak:=ho.tl (Zkq hb);have g1:=ho.lo;have g2:=ak.hi;have g3:=ak.big;rw [Y9,Tg hb] at h;(conv=>whnf);refine Zl ?_;refine Zl ?_
    cases ts with
    | nil=>exact absurd rfl (Zkq hb)
    | cons t0 ts =>
    obtain ⟨x,hx,rfl,hp⟩:=ho.get;refine ⟨ZDN x,oM,by rw [show a+1 - 1=a by omega];simp [Z6,hx],wN ?_⟩;exact h _ oM ak
   | false =>
   rw [Y9,Tb (by rw [hb];simp)] at h;(conv=>whnf);exact mq72
  exact h.elim
 exact h.elim
def ZsI:OKw w0 nG [(179,ZbD),(129,Zks),(104,Zkr),(162,Jx)] 220 (ZaR ZC):=by
 refine pwo Tryz.func220 fun args σ K h=>?_
 unfold ZaR XU at h
 split at h
 ·rename_i rest t rows a en dp
  obtain ⟨L,ts,rfl,ho,h⟩:=h;split at h
  ·skip
   refine pwv [] 1 false ?_;refine ⟨L,ts,rfl,ho,fun fin=>Or.inl ⟨rfl,wN ?_⟩⟩;refine ZJU (fun h1=>wN ?_) (fun h1=>wN ?_)
   ·refine ZJU (fun _=>wN ?_) (fun g=>absurd h1 g);exact h _ (by rw [ZC,Tg oM])
   refine ZJU (fun h2=>wN ?_) (fun h2=>wN ?_)
   ·exact h _ (by rw [ZC,Tg oM])
   refine ZJU (fun h3=>wN ?_) (fun h3=>wN ?_)
   ·refine ⟨L,ts,rfl,ho,[[45],[126],[40],[91],[36]],rfl,sM,fun b hb=>wN ?_⟩;exact h _ (by rw [ZC,Tb oM,Tg oM];exact hb)
   refine ZJU (fun h4=>wN ?_) (fun h4=>wN ?_)
   ·have e0:ZC ts=(!ZeZ (hd ts).text || (decide ((hd ts).text=[110,105,108]) || decide (Z1 (hd ts).text≠0))):=by rw [ZC,Tb oM,Tb oM,Tg oM]
    rw [e0] at h;intro b hb
    rw [hb] at h
    cases b with
    | false => conv => whnf
               exact h _ rfl
    | true =>
    conv=>whnf
    refine ZJU (fun h5=>wN ?_) (fun h5=>wN ?_)
    ·exact h _ (by rw [Sj (p:=(hd ts).text=[110,105,108]) h5];rfl)
    intro n hn
    conv=>whnf
    exact h _ (by rw [decide_eq_false (p:=(hd ts).text=[110,105,108]) h5,<- hn];by_cases g:Z1 (hd ts).text=0 <;> simp [g])
   exact h _ (by rw [ZC,Tb oM,Tb oM,Tb oM])
  exact h.elim
 exact h.elim
def ZvX:Zq:=XU fun rest L en dp a ts K=>match rest with
 | []=>∀n k:Int,((VR ts).1:Int)=n->((VR ts).2:Int)=k->K (.ret (.tuple [.d (.int .i64 n),.d (.int .u8 k)])) a dp
 | _=>False
def ZsJ:OKw w0 nG [(179,ZbD)] 267 ZvX:=by
 refine pwo Tryz.func267 fun args σ K h=>?_
 unfold ZvX XU at h
 split at h
 ·rename_i rest t rows a en dp
  obtain ⟨L,ts,rfl,ho,h⟩:=h;split at h
  ·skip
   refine pwv [] 1 false ?_;refine ⟨L,ts,rfl,ho,fun fin=>Or.inl ⟨rfl,wN ?_⟩⟩;refine ZJX (fun h1=>wN ?_) (fun h1=>?_)
   ·refine ZJX (fun h2=>wN ?_) (fun h2=>?_)
    ·have e0:VR ts=(0,0):=by rw [VR,Tg oM]
     exact h _ _ (by rw [e0];rfl) (by rw [e0];rfl)
    have hn:¬((hd ts).kind≠1/\(hd ts).kind≠4):=by omega
    clear h1 h2
    exact mq109
   have hn:¬((hd ts).kind≠1/\(hd ts).kind≠4):=by omega
   clear h1
   exact mq109
  exact h.elim
 exact h.elim
def ZsK (body:List PV->List Tok->Int->Int->Int->Ts->RK->Prop):Zq:=fun args σ K=>match args,σ with
 | .ptr 0 0::rest,⟨[.cells t0 [.ptr 1 0],.cells t [.d (.sl rows),.d (.int .i64 a),.d (.int .i64 en),.d (.int .i64 dp)]],[],0⟩=>∃L ts,rows=Z6 L/\ROK L a ts /\
   body rest L en dp a ts fun pe a' dp'=>K pe ⟨[.cells t0 [.ptr 1 0],.cells t [.d (.sl (Z6 L)),.d (.int .i64 a'),.d (.int .i64 en),.d (.int .i64 dp')]],[],0⟩
 | _,_=>False
def ZDl {α:Type} (enc:List Tok->Int->α->PV) (P:Ts->R α) (lo:Int):Zq:=ZsK fun rest L en dp a ts K=>match rest with
 | []=>∀x,P ts=x->RKk (enc L en) L en dp (a+lo) x K
 | _=>False
def Zoc (p:Ts->Bool):Zq:=ZsK fun rest L en dp a ts K=>match rest with
 | []=>∀b,p ts=b->K (.ret (.d (.bool b))) a dp
 | _=>False
def ZlM {α:Type} (enc:List Tok->Int->α->PV) (P:Ts->R α) (lo:Int) (d:Nat):Zq:=XU fun rest L en dp a ts K=>match rest with
 | []=>(dp=64 - (d:Int)/\0<=dp)/\∀x,P ts=x->RKk (enc L en) L en dp (a+lo) x K
 | _=>False
def ZB {α β:Type} (f:α->β) (l:List α) (x:α):l.map f++[f x]=(l++[x]).map f:=sM
def Jy {α : Type} (sign : Bs) (most : Nat) (st : Ts -> Bool) (one : Ts -> R α) (f : Nat) (l : List α) (ts : Ts) : Yw sign most st one (f + 1) l ts = if st ts = true /\ l.length = most then .err ts.length 3
      else (one ts).bind fun x ts=>if isW ts [sign]=true then Yw sign most st one f (l++[x]) ts.tail else .ok (l++[x]) ts:=rfl
def ZaT:Zq:=fun args σ K=>match args,σ with
 | [.ptr 0 0,.d (.str sg),.d (.int .i64 m),.func g1 [.ptr 0 0] [],.func g2 [] [.ptr 1 0]],⟨[.cells t [.d (.sl rows),.d (.int .i64 a),.d (.int .i64 en),.d (.int .i64 dp)],.cells t0 [.ptr 0 0]],[],0⟩ =>
   (sg=[44]/\m=12/\g1=138/\g2=217)/\∃L ts,rows=Z6 L/\ROK L a ts/\∀x,Xf [44] 12 Zt Wr ts=x ->
    RKk (fun (l:List Fi)=>.d (.sl (l.map (Zn)))) L en dp a x fun pe a' dp'=>K pe ⟨[.cells t [.d (.sl (Z6 L)),.d (.int .i64 a'),.d (.int .i64 en),.d (.int .i64 dp')],.cells t0 [.ptr 0 0]],[],0⟩
 | _,_=>False
def Zkv:OKw w0 nG ([(138,(ZaR Zt)),(128,Xd),(217,(ZDl (fun _ _ (v:Fi)=>ZcB (Zn v)) Wr 1)),(181,Ws)]) 216 (ZaT):=by
 refine pwo Tryz.func216 fun args σ K h=>?_
 unfold ZaT at h
 split at h
 ·rename_i sg m g1 g2 t rows a en dp t0
  obtain ⟨⟨rfl,rfl,rfl,rfl⟩,L,ts,rfl,ho,h⟩:=h;have h:=h _ rfl;have hl:=ho.len;have cy:=ho.big;have lp:=ho.lo;refine pwu [(2,⟨[11],[0,1,2,3,4],fun vs σ=>∃(l:List Fi) (a':Int) (ts':Ts) (f:Nat),vs=[.sl 0 56 (l.map (Zn))] /\
   σ=⟨[.cells t [.d (.sl (Z6 L)),.d (.int .i64 a'),.d (.int .i64 en),.d (.int .i64 dp)],.cells t0 [.ptr 0 0]],[0],1⟩/\ROK L a' ts'/\a+l.length<=a'/\ts'.length<f /\
   Xf [44] 12 Zt Wr ts=Yw [44] 12 Zt Wr f l ts',
   fun _ σ=>match σ with | ⟨.cells _ [_,.d (.int _ i),_,_]::_,_,_⟩=>((L.length:Int) - i).toNat | _=>0⟩)] 2 false ?_
  conv=>whnf
  refine ⟨⟨[],a,ts,ts.length+1,rfl,rfl,ho,sM,oM,rfl⟩,?_⟩;intro vs σ hI
  obtain ⟨l,a1,ts1,f,rfl,rfl,aw,hla,hf,hm⟩:=hI;obtain ⟨f,rfl⟩:∃g,f=g+1:=⟨f - 1,oM⟩
  rw [Jy] at hm;have du:=aw.len;have qs:=aw.hi;(conv=>whnf);refine ⟨L,ts1,rfl,aw,fun b hb=>?_⟩;have step:(¬(Zt ts1=true/\l.length=12))->Xf [44] 12 Zt Wr ts=((Wr) ts1).bind fun x ts=>if isW ts [[44]]=true then Yw [44] 12 Zt Wr f (l++[x]) ts.tail else .ok (l++[x]) ts:=fun g=>by rw [hm,Tb g]
  cases b with
  | false =>
   have step:=step (by rw [hb];simp);(conv=>whnf);exact mq21
  | true =>
  conv=>whnf
  refine ZJU (fun hc=>wN ?_) (fun hc=>wN ?_)
  ·have hc:l.length=12:=by
    have hc:((l.map (Zn)).length:Int)=12:=hc;rw [Tf] at hc;omega
   exact mq68
  have step:=step (fun g=>hc (by show ((l.map (Zn)).length:Int)=12;rw [Tf,g.2];rfl));exact mq21
 exact h.elim
def Ze3:Zq:=fun args σ K=>match args,σ with
 | [.ptr 0 0,.d (.str sg),.d (.int .i64 m),.func g1 [.ptr 0 0] [],.func g2 [.ptr 0 0] []],⟨[.cells t [.d (.sl rows),.d (.int .i64 a),.d (.int .i64 en),.d (.int .i64 dp)]],[],0⟩ =>
   (sg=[44]/\m=12/\g1=138/\g2=135)/\∃L ts,rows=Z6 L/\ROK L a ts/\∀x,Xf [44] 12 Zt Y9 ts=x ->
    RKk (fun (l:List Bs)=>.d (.sl (l.map (YF)))) L en dp a x fun pe a' dp'=>K pe ⟨[.cells t [.d (.sl (Z6 L)),.d (.int .i64 a'),.d (.int .i64 en),.d (.int .i64 dp')]],[],0⟩
 | _,_=>False
def Zqj:OKw w0 nG ([(138,(ZaR Zt)),(128,Xd),(135,X1),(181,Ws)]) 187 (Ze3):=by
 refine pwo Tryz.func187 fun args σ K h=>?_
 unfold Ze3 at h
 split at h
 ·rename_i sg m g1 g2 t rows a en dp
  obtain ⟨⟨rfl,rfl,rfl,rfl⟩,L,ts,rfl,ho,h⟩:=h;have h:=h _ rfl;have hl:=ho.len;have cy:=ho.big;have lp:=ho.lo;refine pwu [(2,⟨[11],[0,1,2,3,4],fun vs σ=>∃(l:List Bs) (a':Int) (ts':Ts) (f:Nat),vs=[.sl 0 9 (l.map (YF))] /\
   σ=⟨[.cells t [.d (.sl (Z6 L)),.d (.int .i64 a'),.d (.int .i64 en),.d (.int .i64 dp)]],[0],1⟩/\ROK L a' ts'/\a+l.length<=a'/\ts'.length<f /\
   Xf [44] 12 Zt Y9 ts=Yw [44] 12 Zt Y9 f l ts',
   fun _ σ=>match σ with | ⟨.cells _ [_,.d (.int _ i),_,_]::_,_,_⟩=>((L.length:Int) - i).toNat | _=>0⟩)] 1 false ?_
  conv=>whnf
  refine ⟨⟨[],a,ts,ts.length+1,rfl,rfl,ho,sM,oM,rfl⟩,?_⟩;intro vs σ hI
  obtain ⟨l,a1,ts1,f,rfl,rfl,aw,hla,hf,hm⟩:=hI;obtain ⟨f,rfl⟩:∃g,f=g+1:=⟨f - 1,oM⟩
  rw [Jy] at hm;have du:=aw.len;have qs:=aw.hi;(conv=>whnf);refine ⟨L,ts1,rfl,aw,fun b hb=>?_⟩;have step:(¬(Zt ts1=true/\l.length=12))->Xf [44] 12 Zt Y9 ts=((Y9) ts1).bind fun x ts=>if isW ts [[44]]=true then Yw [44] 12 Zt Y9 f (l++[x]) ts.tail else .ok (l++[x]) ts:=fun g=>by rw [hm,Tb g]
  cases b with
  | false =>
   have step:=step (by rw [hb];simp);(conv=>whnf);exact mq22
  | true =>
  conv=>whnf
  refine ZJU (fun hc=>wN ?_) (fun hc=>wN ?_)
  ·have hc:l.length=12:=by
    have hc:((l.map (YF)).length:Int)=12:=hc;rw [Tf] at hc;omega
   exact mq68
  have step:=step (fun g=>hc (by show ((l.map (YF)).length:Int)=12;rw [Tf,g.2];rfl));exact mq22
 exact h.elim
def ZcE:Zq:=fun args σ K=>match args,σ with
 | [.ptr 0 0,.d (.str sg),.d (.int .i64 m),.func g1 [.ptr 0 0] [],.func g2 [] [.ptr 1 0]],⟨[.cells t [.d (.sl rows),.d (.int .i64 a),.d (.int .i64 en),.d (.int .i64 dp)],.cells t0 [.ptr 0 0]],[],0⟩ =>
   (sg=[124]/\m=64/\g1=138/\g2=184)/\∃L ts,rows=Z6 L/\ROK L a ts/\∀x,Xf [124] 64 Zt Jt ts=x ->
    RKk (fun (l:List Ca)=>.d (.sl (l.map (Zy)))) L en dp a x fun pe a' dp'=>K pe ⟨[.cells t [.d (.sl (Z6 L)),.d (.int .i64 a'),.d (.int .i64 en),.d (.int .i64 dp')],.cells t0 [.ptr 0 0]],[],0⟩
 | _,_=>False
def ZmC:OKw w0 nG ([(138,(ZaR Zt)),(128,Xd),(184,(ZDl (fun _ _ (v:Ca)=>ZcB (Zy v)) Jt 1)),(181,Ws)]) 183 (ZcE):=by
 refine pwo Tryz.func183 fun args σ K h=>?_
 unfold ZcE at h
 split at h
 ·rename_i sg m g1 g2 t rows a en dp t0
  obtain ⟨⟨rfl,rfl,rfl,rfl⟩,L,ts,rfl,ho,h⟩:=h;have h:=h _ rfl;have hl:=ho.len;have cy:=ho.big;have lp:=ho.lo;refine pwu [(2,⟨[11],[0,1,2,3,4],fun vs σ=>∃(l:List Ca) (a':Int) (ts':Ts) (f:Nat),vs=[.sl 0 45 (l.map (Zy))] /\
   σ=⟨[.cells t [.d (.sl (Z6 L)),.d (.int .i64 a'),.d (.int .i64 en),.d (.int .i64 dp)],.cells t0 [.ptr 0 0]],[0],1⟩/\ROK L a' ts'/\a+l.length<=a'/\ts'.length<f /\
   Xf [124] 64 Zt Jt ts=Yw [124] 64 Zt Jt f l ts',
   fun _ σ=>match σ with | ⟨.cells _ [_,.d (.int _ i),_,_]::_,_,_⟩=>((L.length:Int) - i).toNat | _=>0⟩)] 2 false ?_
  conv=>whnf
  refine ⟨⟨[],a,ts,ts.length+1,rfl,rfl,ho,sM,oM,rfl⟩,?_⟩;intro vs σ hI
  obtain ⟨l,a1,ts1,f,rfl,rfl,aw,hla,hf,hm⟩:=hI;obtain ⟨f,rfl⟩:∃g,f=g+1:=⟨f - 1,oM⟩
  rw [Jy] at hm;have du:=aw.len;have qs:=aw.hi;(conv=>whnf);refine ⟨L,ts1,rfl,aw,fun b hb=>?_⟩;have step:(¬(Zt ts1=true/\l.length=64))->Xf [124] 64 Zt Jt ts=((Jt) ts1).bind fun x ts=>if isW ts [[124]]=true then Yw [124] 64 Zt Jt f (l++[x]) ts.tail else .ok (l++[x]) ts:=fun g=>by rw [hm,Tb g]
  cases b with
  | false =>
   have step:=step (by rw [hb];simp);(conv=>whnf);exact mq20
  | true =>
  conv=>whnf
  refine ZJU (fun hc=>wN ?_) (fun hc=>wN ?_)
  ·have hc:l.length=64:=by
    have hc:((l.map (Zy)).length:Int)=64:=hc;rw [Tf] at hc;omega
   exact mq68
  have step:=step (fun g=>hc (by show ((l.map (Zy)).length:Int)=64;rw [Tf,g.2];rfl));exact mq20
 exact h.elim
def ZbE (d:Nat):Zq:=fun args σ K=>match args,σ with
 | [.ptr 0 0,.d (.str sg),.d (.int .i64 m),.func g1 [.ptr 0 0] [],.func g2 [.ptr 0 0] []],⟨[.cells t [.d (.sl rows),.d (.int .i64 a),.d (.int .i64 en),.d (.int .i64 dp)]],[],0⟩ =>
   (sg=[44]/\m=12/\g1=220/\g2=221/\(dp=64 - (d:Int)/\0<=dp))/\∃L ts,rows=Z6 L/\ROK L a ts/\∀x,Xf [44] 12 ZC (Vl d) ts=x ->
    RKk (fun (l:List Ex)=>.d (.sl (l.map (Z7 (Zc L en))))) L en dp a x fun pe a' dp'=>K pe ⟨[.cells t [.d (.sl (Z6 L)),.d (.int .i64 a'),.d (.int .i64 en),.d (.int .i64 dp')]],[],0⟩
 | _,_=>False
def ZsM (d:Nat):OKw w0 nG [(220,(ZaR ZC)),(128,Xd),(221,(ZlM (fun L en (v:Ex)=>ZcB (Z7 (Zc L en) v)) (Vl d) 0 d)),(181,Ws)] 219 (ZbE d):=by
 refine pwo Tryz.func219 fun args σ K h=>?_
 unfold ZbE at h
 split at h
 ·rename_i sg m g1 g2 t rows a en dp
  obtain ⟨⟨rfl,rfl,rfl,rfl,ff⟩,L,ts,rfl,ho,h⟩:=h;have h:=h _ rfl;have hl:=ho.len;have cy:=ho.big;have lp:=ho.lo;refine pwu [(2,⟨[11],[0,1,2,3,4],fun vs σ=>∃(l:List Ex) (a':Int) (ts':Ts) (f:Nat),vs=[.sl 0 59 (l.map (Z7 (Zc L en)))] /\
   σ=⟨[.cells t [.d (.sl (Z6 L)),.d (.int .i64 a'),.d (.int .i64 en),.d (.int .i64 dp)]],[0],1⟩/\ROK L a' ts'/\a+l.length<=a'/\ts'.length<f /\
   Xf [44] 12 ZC (Vl d) ts=Yw [44] 12 ZC (Vl d) f l ts',
   fun _ σ=>match σ with | ⟨.cells _ [_,.d (.int _ i),_,_]::_,_,_⟩=>((L.length:Int) - i).toNat | _=>0⟩)] 1 false ?_
  conv=>whnf
  refine ⟨⟨[],a,ts,ts.length+1,rfl,rfl,ho,sM,oM,rfl⟩,?_⟩;intro vs σ hI
  obtain ⟨l,a1,ts1,f,rfl,rfl,aw,hla,hf,hm⟩:=hI;obtain ⟨f,rfl⟩:∃g,f=g+1:=⟨f - 1,oM⟩
  rw [Jy] at hm;have du:=aw.len;have qs:=aw.hi;(conv=>whnf);refine ⟨L,ts1,rfl,aw,fun b hb=>?_⟩;have step:(¬(ZC ts1=true/\l.length=12))->Xf [44] 12 ZC (Vl d) ts=(((Vl d)) ts1).bind fun x ts=>if isW ts [[44]]=true then Yw [44] 12 ZC (Vl d) f (l++[x]) ts.tail else .ok (l++[x]) ts:=fun g=>by rw [hm,Tb g]
  cases b with
  | false =>
   have step:=step (by rw [hb];simp);(conv=>whnf);exact mq18
  | true =>
  conv=>whnf
  refine ZJU (fun hc=>wN ?_) (fun hc=>wN ?_)
  ·have hc:l.length=12:=by
    have hc:((l.map (Z7 (Zc L en))).length:Int)=12:=hc;rw [Tf] at hc;omega
   exact mq68
  have step:=step (fun g=>hc (by show ((l.map (Z7 (Zc L en))).length:Int)=12;rw [Tf,g.2];rfl));exact mq18
 exact h.elim
def Ziy (d:Nat):Zq:=fun args σ K=>match args,σ with
 | [.ptr 0 0,.d (.str sg),.d (.int .i64 m),.func g1 [] [.ptr 1 0],.func g2 [.ptr 0 0] []],⟨[.cells t [.d (.sl rows),.d (.int .i64 a),.d (.int .i64 en),.d (.int .i64 dp)],.cells t0 [.ptr 0 0]],[],0⟩ =>
   (sg=[44]/\m=32/\g1=223/\g2=224/\(dp=64 - (d:Int)/\0<=dp))/\∃L ts,rows=Z6 L/\ROK L a ts/\∀x,Xf [44] 32 Yj (Zbf d (UM d)) ts=x ->
    RKk (fun (l:List Li)=>.d (.sl (l.map (XD (Zc L en))))) L en dp a x fun pe a' dp'=>K pe ⟨[.cells t [.d (.sl (Z6 L)),.d (.int .i64 a'),.d (.int .i64 en),.d (.int .i64 dp')],.cells t0 [.ptr 0 0]],[],0⟩
 | _,_=>False
def ZsO (d:Nat):OKw w0 nG [(223,(Zoc Yj)),(128,Xd),(224,(ZlM (fun L en (v:Li)=>ZcB (XD (Zc L en) v)) (Zbf d (UM d)) 0 d)),(181,Ws)] 222 (Ziy d):=by
 refine pwo Tryz.func222 fun args σ K h=>?_
 unfold Ziy at h
 split at h
 ·rename_i sg m g1 g2 t rows a en dp t0
  obtain ⟨⟨rfl,rfl,rfl,rfl,ff⟩,L,ts,rfl,ho,h⟩:=h;have h:=h _ rfl;have hl:=ho.len;have cy:=ho.big;have lp:=ho.lo;refine pwu [(2,⟨[11],[0,1,2,3,4],fun vs σ=>∃(l:List Li) (a':Int) (ts':Ts) (f:Nat),vs=[.sl 0 75 (l.map (XD (Zc L en)))] /\
   σ=⟨[.cells t [.d (.sl (Z6 L)),.d (.int .i64 a'),.d (.int .i64 en),.d (.int .i64 dp)],.cells t0 [.ptr 0 0]],[0],1⟩/\ROK L a' ts'/\a+l.length<=a'/\ts'.length<f /\
   Xf [44] 32 Yj (Zbf d (UM d)) ts=Yw [44] 32 Yj (Zbf d (UM d)) f l ts',
   fun _ σ=>match σ with | ⟨.cells _ [_,.d (.int _ i),_,_]::_,_,_⟩=>((L.length:Int) - i).toNat | _=>0⟩)] 2 false ?_
  conv=>whnf
  refine ⟨⟨[],a,ts,ts.length+1,rfl,rfl,ho,sM,oM,rfl⟩,?_⟩;intro vs σ hI
  obtain ⟨l,a1,ts1,f,rfl,rfl,aw,hla,hf,hm⟩:=hI;obtain ⟨f,rfl⟩:∃g,f=g+1:=⟨f - 1,oM⟩
  rw [Jy] at hm;have du:=aw.len;have qs:=aw.hi;(conv=>whnf);refine ⟨L,ts1,rfl,aw,fun b hb=>?_⟩;have step:(¬(Yj ts1=true/\l.length=32))->Xf [44] 32 Yj (Zbf d (UM d)) ts=(((Zbf d (UM d))) ts1).bind fun x ts=>if isW ts [[44]]=true then Yw [44] 32 Yj (Zbf d (UM d)) f (l++[x]) ts.tail else .ok (l++[x]) ts:=fun g=>by rw [hm,Tb g]
  cases b with
  | false =>
   have step:=step (by rw [hb];simp);(conv=>whnf);exact mq17
  | true =>
  conv=>whnf
  refine ZJU (fun hc=>wN ?_) (fun hc=>wN ?_)
  ·have hc:l.length=32:=by
    have hc:((l.map (XD (Zc L en))).length:Int)=32:=hc;rw [Tf] at hc;omega
   exact mq68
  have step:=step (fun g=>hc (by show ((l.map (XD (Zc L en))).length:Int)=32;rw [Tf,g.2];rfl));exact mq17
 exact h.elim
abbrev Ziz:Zq:=ZDl (fun _ _ (v:Fi)=>ZcB (Zn v)) Wr 1
abbrev ZmD:Zq:=ZDl (fun _ _ (v:Ca)=>ZcB (Zy v)) Jt 1
def J0:Zq:=XU fun rest L en dp a ts K=>match rest with
 | [.d (.str w)]=>∀x,Wo w ts=x->RKk (fun (v:List Fi)=>.d (.sl (v.map Zn))) L en dp a x K
 | _=>False
abbrev Ze4:Zq:=spR (fun _ _ (v:List Bs)=>.d (.sl (v.map YF))) Zg5 0
abbrev ZiA:Zq:=spR (fun L en (v:Ty)=>ZcB (Zv (Zc L en) v)) Ju 0
abbrev Zod:Zq:=spR (fun L en (v:Re)=>ZcB (ZO (Zc L en) v)) Ze0 0
def ZsQ:OKw w0 nG [(135,X1),(136,XV)] 217 Ziz:=by
 refine pwo Tryz.func217 fun args σ K h=>?_
 unfold Ziz ZDl ZsK at h
 split at h
 ·rename_i rest t0 t rows a en dp
  obtain ⟨L,ts,rfl,ho,h⟩:=h;split at h
  ·skip
   have h0:=ho.lo;have h1:=ho.hi;have h2:=ho.big;refine pwv [] 2 false ?_;have h:=h _ rfl;unfold Wr at h
   refine ⟨L,ts,rfl,ho,fun x dm=>?_⟩;rcases x with ⟨v1,ts1⟩ | ⟨r1,e1⟩
   rotate_left
   ·exact mq50
   rw [dm,R.bind_ok] at h;intro a1 ee aw
   have cq:=aw.hi;(conv=>whnf);refine ⟨L,ts1,rfl,aw,fun x cd=>?_⟩;exact mq168
  exact h.elim
 exact h.elim
def ZsS:OKw w0 nG [(129,Zks),(216,ZaT)] 182 J0:=by
 refine pwo Tryz.func182 fun args σ K h=>?_
 unfold J0 XU at h
 split at h
 ·rename_i rest t rows a en dp
  obtain ⟨L,ts,rfl,ho,h⟩:=h;split at h
  ·rename_i w
   have h0:=ho.lo;have h1:=ho.hi;have h2:=ho.big;refine pwv [] 1 false ?_;have h:=h _ rfl;unfold Wo at h
   refine ⟨L,ts,rfl,ho,[w],rfl,sM,fun b1 ek=>?_⟩
   cases b1 with
   | true =>
    rw [Tg ek] at h;(conv=>whnf);exact h _ oM ho
   | false =>
   rw [Tb (by rw [ek];simp)] at h;(conv=>whnf);refine ⟨⟨rfl,rfl,rfl,rfl⟩,L,ts,rfl,ho,fun x cd=>?_⟩;rcases x with ⟨v2,ts2⟩ | ⟨r2,e2⟩
   rotate_left
   ·rw [cd] at h;intro a9 d9;(conv=>whnf);exact h _ _
   rw [cd] at h;intro a2 f9 ak
   have ge:=ak.hi;(conv=>whnf);exact h _ oM ak
  exact h.elim
 exact h.elim
def ZvZ:OKw w0 nG [(181,Ws),(187,Ze3),(136,XV)] 137 Ze4:=by
 refine pwo Tryz.func137 fun args σ K h=>?_
 unfold Ze4 spR XU at h
 split at h
 ·rename_i rest t rows a en dp
  obtain ⟨L,ts,rfl,ho,h⟩:=h;split at h
  ·skip
   have h0:=ho.lo;have h1:=ho.hi;have h2:=ho.big;refine pwv [] 1 false ?_;have h:=h _ rfl;unfold Zg5 at h
   refine ⟨L,ts,rfl,ho,[[60]],rfl,sM,fun ek aw=>wN ?_,fun ek=>wN ?_⟩
   ·rw [Tg ek] at h;have cq:=aw.hi;refine ⟨⟨rfl,rfl,rfl,rfl⟩,L,ts.tail,rfl,aw,fun x cd=>?_⟩;exact mq168
   rw [Tb (by rw [ek];simp)] at h;exact h _ oM ho
  exact h.elim
 exact h.elim
def Zv1:OKw w0 nG [(135,X1),(136,XV),(182,J0)] 184 ZmD:=by
 refine pwo Tryz.func184 fun args σ K h=>?_
 unfold ZmD ZDl ZsK at h
 split at h
 ·rename_i rest t0 t rows a en dp
  obtain ⟨L,ts,rfl,ho,h⟩:=h;split at h
  ·skip
   have h0:=ho.lo;have h1:=ho.hi;have h2:=ho.big;refine pwv [] 2 false ?_;have h:=h _ rfl;unfold Jt at h
   refine ⟨L,ts,rfl,ho,fun x dm=>?_⟩;rcases x with ⟨v1,ts1⟩ | ⟨r1,e1⟩
   rotate_left
   ·exact mq50
   rw [dm,R.bind_ok] at h;intro a1 ee aw
   have cq:=aw.hi;(conv=>whnf);refine ⟨L,ts1,rfl,aw,fun x cd=>?_⟩;rcases x with ⟨v2,ts2⟩ | ⟨r2,e2⟩
   rotate_left
   ·exact mq44
   rw [cd,R.bind_ok] at h;intro a2 f9 ak
   have ge:=ak.hi;(conv=>whnf);refine ⟨L,ts2,rfl,ak,fun x et=>?_⟩;rcases x with ⟨v3,ts3⟩ | ⟨r3,e3⟩
   rotate_left
   ·exact mq19
   rw [et,R.bind_ok] at h;intro a3 gk bq
   have ka:=bq.hi;(conv=>whnf);refine ⟨L,ts3,rfl,bq,fun x mt=>?_⟩;rcases x with ⟨v4,ts4⟩ | ⟨r4,e4⟩
   rotate_left
   ·exact mq99
   rw [mt,R.bind_ok] at h;intro a4 ni gd
   have sb:=gd.hi;(conv=>whnf);exact h _ oM gd
  exact h.elim
 exact h.elim
def Zv3:OKw w0 nG [(134,W8),(135,X1),(181,Ws),(136,XV),(182,J0),(183,ZcE)] 131 ZiA:=by
 refine pwo Tryz.func131 fun args σ K h=>?_
 unfold ZiA spR XU at h
 split at h
 ·rename_i rest t rows a en dp
  obtain ⟨L,ts,rfl,ho,h⟩:=h;split at h
  ·skip
   have h0:=ho.lo;have h1:=ho.hi;have h2:=ho.big;refine pwv [] 1 false ?_;have h:=h _ rfl;unfold Ju at h
   refine ⟨L,ts,rfl,ho,wN ?_⟩;refine ⟨L,ts,rfl,ho,fun x dm=>?_⟩;rcases x with ⟨v1,ts1⟩ | ⟨r1,e1⟩
   rotate_left
   ·exact mq50
   rw [dm,R.bind_ok] at h;intro a1 ee aw
   have cq:=aw.hi;(conv=>whnf);refine ⟨L,ts1,rfl,aw,[[60,58]],rfl,sM,fun pu ak=>wN ?_,fun pu=>wN ?_⟩
   ·rw [Tg pu] at h;have ge:=ak.hi;refine ⟨L,ts1.tail,rfl,ak,fun x et=>?_⟩;rcases x with ⟨v3,ts3⟩ | ⟨r3,e3⟩
    rotate_left
    ·exact mq19
    exact mq106
   rw [Tb (by rw [pu];simp)] at h;refine ⟨L,ts1,rfl,aw,fun x et=>?_⟩;rcases x with ⟨v3,ts3⟩ | ⟨r3,e3⟩
   rotate_left
   ·exact mq19
   rw [et,R.bind_ok] at h;intro a3 gk bq
   have ka:=bq.hi;(conv=>whnf);refine ⟨L,ts3,rfl,bq,[[91]],rfl,sM,fun pp gd=>wN ?_,fun pp=>wN ?_⟩
   ·rw [Tg pp] at h;have sb:=gd.hi;refine ⟨L,ts3.tail,rfl,gd,fun x lc=>?_⟩;rcases x with ⟨v5,ts5⟩ | ⟨r5,e5⟩
    rotate_left
    ·exact mq43
    rw [lc,R.bind_ok] at h;intro a5 ma gt
    have ux:=gt.hi;(conv=>whnf);refine ⟨L,ts5,rfl,gt,fun x qt=>?_⟩;rcases x with ⟨v6,ts6⟩ | ⟨r6,e6⟩
    rotate_left
    ·rw [qt,R.bind_err] at h;intro a9 d9;(conv=>whnf);exact h _ _
    rw [qt,R.bind_ok] at h;intro a6 ye nz
    have hb6:=nz.hi;(conv=>whnf);exact h _ oM nz
   rw [Tb (by rw [pp];simp)] at h;refine ⟨⟨rfl,rfl,rfl,rfl⟩,L,ts3,rfl,bq,fun x lc=>?_⟩;rcases x with ⟨v5,ts5⟩ | ⟨r5,e5⟩
   rotate_left
   ·exact mq43
   rw [lc,R.bind_ok] at h;intro a5 ma gt
   have ux:=gt.hi;(conv=>whnf);exact h _ oM gt
  exact h.elim
 exact h.elim
def Zbg (i o n:Bool):Nat:=(match i with | true=>0 | false=>1)+(match o with | true=>0 | false=>1)+(match n with | true=>0 | false=>1)
def Zqk (f : Nat) (i o n : Bool) (ts : Ts) : Yn (f + 1) i o n ts = if i = false /\ isW ts [[105, 110, 112, 117, 116]] = true then Yn f true o n ts.tail
      else if o=false/\isW ts [[111,117,116,112,117,116]]=true then Yn f i true n ts.tail
      else if n=false/\isW ts [[105,110,108,105,110,101]]=true then Yn f i o true ts.tail
      else ((i,o,n),ts):=rfl
def ZzC:OKw w0 nG [(134,W8),(135,X1),(181,Ws),(136,XV),(182,J0)] 132 Zod:=by
 refine pwo Tryz.func132 fun args σ K h=>?_
 unfold Zod spR XU at h
 split at h
 ·rename_i rest t rows a en dp
  obtain ⟨L,ts,rfl,ho,h⟩:=h;split at h
  ·skip
   have h0:=ho.lo;have h1:=ho.hi;have h2:=ho.big;refine pwv [(7,⟨[],[0,2,3],fun vs σ=>∃(nm:Bs) (l:List Fi) (a5:Int) (ts5:Ts) (i o n:Bool) (a':Int) (ts':Ts) (f:Nat),vs=[]/\σ=⟨[.cells t [.d (.sl (Z6 L)),.d (.int .i64 a'),.d (.int .i64 en),.d (.int .i64 dp)],.cells 47 [.d (.str []),.sl 0 56 [],.d (.bool false),.d (.bool false),.d (.bool false),.d (.int .i64 0)],.cells 47 [.d (.str nm),.d (.sl (l.map Zn)),.d (.bool i),.d (.bool o),.d (.bool n),.d (.int .i64 (Zc L en ts.length))]],[0],1⟩/\ROK L a' ts'/\a<=a'/\Zbg i o n<f/\RKk (fun (v:Re)=>ZcB (ZO (Zc L en) v)) L en dp (a+0) (R.ok ⟨nm,l,(Yn f i o n ts').1.1,(Yn f i o n ts').1.2.1,(Yn f i o n ts').1.2.2,ts.length⟩ (Yn f i o n ts').2) (fun pe a' dp'=>K pe ⟨[.cells t [.d (.sl (Z6 L)),.d (.int .i64 a'),.d (.int .i64 en),.d (.int .i64 dp')]],[],0⟩),fun _ σ=>match σ with | ⟨[_,_,.cells _ [_,_,.d (.bool i),.d (.bool o),.d (.bool n),_]],_,_⟩=>Zbg i o n | _=>0⟩)] 1 false ?_;have h:=h _ rfl;unfold Ze0 at h
   refine ⟨L,ts,rfl,ho,wN ?_⟩;refine ⟨L,ts,rfl,ho,fun x dm=>?_⟩;rcases x with ⟨v1,ts1⟩ | ⟨r1,e1⟩
   rotate_left
   ·exact mq50
   rw [dm,R.bind_ok] at h;intro a1 ee aw
   have cq:=aw.hi;(conv=>whnf);refine ⟨L,ts1,rfl,aw,fun x cd=>?_⟩;rcases x with ⟨v2,ts2⟩ | ⟨r2,e2⟩
   rotate_left
   ·exact mq44
   rw [cd,R.bind_ok] at h;intro a2 f9 ak
   have ge:=ak.hi;(conv=>whnf);refine ⟨L,ts2,rfl,ak,fun x et=>?_⟩;rcases x with ⟨v3,ts3⟩ | ⟨r3,e3⟩
   rotate_left
   ·exact mq19
   rw [et,R.bind_ok] at h;intro a3 gk bq
   have ka:=bq.hi;(conv=>whnf);refine ⟨L,ts3,rfl,bq,fun x mt=>?_⟩;rcases x with ⟨v4,ts4⟩ | ⟨r4,e4⟩
   rotate_left
   ·exact mq99
   rw [mt,R.bind_ok] at h;intro a4 ni gd
   have sb:=gd.hi;(conv=>whnf);refine ⟨⟨v1,v3,a4,ts4,false,false,false,a4,ts4,4,rfl,rfl,gd,oM,dM,h⟩,?_⟩
   clear h dm cd et mt aw ak bq gd cq ge ka sb ee f9 gk ni
   intro vs σ hI
   obtain ⟨nm,l,a5,ts5,i,o,n,a',ts',f,rfl,rfl,ct,am,hf,h⟩:=hI;obtain ⟨f,rfl⟩:∃g,f=g+1:=⟨f - 1,oM⟩
   rw [Zqk] at h;have qz:=ct.hi;(conv=>whnf)
   cases i with
   | true =>
    rw [Tb sM] at h;(conv=>whnf)
    cases o with
    | true =>
     rw [Tb sM] at h;(conv=>whnf)
     cases n with
     | true =>
      exact mq143
     | false =>
     conv=>whnf
     refine ⟨L,ts',rfl,ct,[[105,110,108,105,110,101]],rfl,sM,fun gl gu=>wN ?_,fun gl=>wN ?_⟩
     ·rw [Tg ⟨rfl,gl⟩] at h;have sc:=gu.hi;refine ⟨⟨nm,l,a5,ts5,true,true,true,a'+1,ts'.tail,f,rfl,rfl,gu,oM,?_,h⟩,?_⟩
      ·(simp only [Zbg] at hf |-;omega)
      show Zbg true true true<Zbg true true false
      (simp only [Zbg];omega)
     exact mq138
    | false =>
    conv=>whnf
    refine ⟨L,ts',rfl,ct,[[111,117,116,112,117,116]],rfl,sM,fun gl gu=>wN ?_,fun gl=>wN ?_⟩
    ·rw [Tg ⟨rfl,gl⟩] at h;have sc:=gu.hi;refine ⟨⟨nm,l,a5,ts5,true,true,n,a'+1,ts'.tail,f,rfl,rfl,gu,oM,?_,h⟩,?_⟩
     ·cases n <;> (simp only [Zbg] at hf |-;omega)
     show Zbg true true n<Zbg true false n
     cases n <;> (simp only [Zbg];omega)
    rw [Tb (by rw [gl];simp)] at h
    cases n with
    | true =>
     exact mq143
    | false =>
    conv=>whnf
    refine ⟨L,ts',rfl,ct,[[105,110,108,105,110,101]],rfl,sM,fun gl gu=>wN ?_,fun gl=>wN ?_⟩
    ·rw [Tg ⟨rfl,gl⟩] at h;have sc:=gu.hi;refine ⟨⟨nm,l,a5,ts5,true,false,true,a'+1,ts'.tail,f,rfl,rfl,gu,oM,?_,h⟩,?_⟩
     ·(simp only [Zbg] at hf |-;omega)
     show Zbg true false true<Zbg true false false
     (simp only [Zbg];omega)
    exact mq138
   | false =>
   conv=>whnf
   refine ⟨L,ts',rfl,ct,[[105,110,112,117,116]],rfl,sM,fun gl gu=>wN ?_,fun gl=>wN ?_⟩
   ·rw [Tg ⟨rfl,gl⟩] at h;have sc:=gu.hi;refine ⟨⟨nm,l,a5,ts5,true,o,n,a'+1,ts'.tail,f,rfl,rfl,gu,oM,?_,h⟩,?_⟩
    ·cases o <;> cases n <;> (simp only [Zbg] at hf |-;omega)
    show Zbg true o n<Zbg false o n
    cases o <;> cases n <;> (simp only [Zbg];omega)
   rw [Tb (by rw [gl];simp)] at h
   cases o with
   | true =>
    rw [Tb sM] at h;(conv=>whnf)
    cases n with
    | true =>
     exact mq143
    | false =>
    conv=>whnf
    refine ⟨L,ts',rfl,ct,[[105,110,108,105,110,101]],rfl,sM,fun gl gu=>wN ?_,fun gl=>wN ?_⟩
    ·rw [Tg ⟨rfl,gl⟩] at h;have sc:=gu.hi;refine ⟨⟨nm,l,a5,ts5,false,true,true,a'+1,ts'.tail,f,rfl,rfl,gu,oM,?_,h⟩,?_⟩
     ·(simp only [Zbg] at hf |-;omega)
     show Zbg false true true<Zbg false true false
     (simp only [Zbg];omega)
    exact mq138
   | false =>
   conv=>whnf
   refine ⟨L,ts',rfl,ct,[[111,117,116,112,117,116]],rfl,sM,fun gl gu=>wN ?_,fun gl=>wN ?_⟩
   ·rw [Tg ⟨rfl,gl⟩] at h;have sc:=gu.hi;refine ⟨⟨nm,l,a5,ts5,false,true,n,a'+1,ts'.tail,f,rfl,rfl,gu,oM,?_,h⟩,?_⟩
    ·cases n <;> (simp only [Zbg] at hf |-;omega)
    show Zbg false true n<Zbg false false n
    cases n <;> (simp only [Zbg];omega)
   rw [Tb (by rw [gl];simp)] at h
   cases n with
   | true =>
    exact mq143
   | false =>
   conv=>whnf
   refine ⟨L,ts',rfl,ct,[[105,110,108,105,110,101]],rfl,sM,fun gl gu=>wN ?_,fun gl=>wN ?_⟩
   ·rw [Tg ⟨rfl,gl⟩] at h;have sc:=gu.hi;refine ⟨⟨nm,l,a5,ts5,false,false,true,a'+1,ts'.tail,f,rfl,rfl,gu,oM,?_,h⟩,?_⟩
    ·(simp only [Zbg] at hf |-;omega)
    show Zbg false false true<Zbg false false false
    (simp only [Zbg];omega)
   exact mq138
  exact h.elim
 exact h.elim
def Zoe (fn:Func) (tb:Tbl):Zq:=fun args σ K=>∃K0:PEnd->St->Prop,(∀e σ,K0 e σ->K e σ)/\args.length<=fn.ntmps/\WF (ctx ZaM tb (Zr [])) fn σ.bx.length false args σ K0
def ZsT (fn:Func) (tb:Tbl):ZL (Zoe fn tb):=fun args σ K K' hK ⟨K0,h1,h2⟩=>⟨K0,fun e σ h=>hK _ _ (h1 e σ h),h2⟩
def ZDW (fn:Func) (unr:Nat->Nat) (tb:Tbl):Zq:=fun args σ K=>∃K0:PEnd->St->Prop,(∀e σ,K0 e σ->K e σ)/\args.length<=fn.ntmps/\WF (ZHa ZaM tb (Zr []) unr (YG [])) fn σ.bx.length false args σ K0
def _root_.Go.PM.PCalls.closed {G:GE} {g:FuncId} {sp:Zq} (h:PCalls G g sp):PCalls G g (fun args σ K=>∃K0:PEnd->St->Prop,(∀e σ,K0 e σ->K e σ)/\sp args σ K0):=⟨h.enters,fun args σ K ⟨K0,hK,hs⟩ n e w vs hS ha =>
 (h.calls args σ K0 hs n e w vs hS ha).mono fun en w' ⟨pe,σ',e',hk,hr⟩=>⟨pe,σ',e',hK _ _ hk,hr⟩⟩
def ZdF {g : FuncId} {fn : Func} {c : Code} {tb : Tbl} (ht : TO w0 nG tb) (hf : (GG w0 nG).P.funcs[g]? = some fn) (hb : fn.body = some c) (ax : (fn.name == "runtime.NumGoroutine") = false) (ba : ZF fn.ntmps c = true) : PC w0 nG g (Zoe fn tb) := by
 have h:PC w0 nG g (fun args σ K=>args.length<=fn.ntmps/\WF (ctx ZaM tb (Zr [])) fn σ.bx.length false args σ K):=by
  refine Zka ZR mixed ht hf hb ax ba ?_;intro args σ K h
  exact ⟨Zr [],σ.bx.length,false,Tw _,h.1,h.2⟩
 exact h.closed
def ZDX {g : FuncId} {fn : Func} {c : Code} {unr : Nat -> Nat} {tb : Tbl} (ht : TO w0 nG tb) (hf : (GG w0 nG).P.funcs[g]? = some fn) (hb : fn.body = some c) (ax : (fn.name == "runtime.NumGoroutine") = false) (ba : ZF fn.ntmps c = true) : PC w0 nG g (ZDW fn unr tb) := by
 have h:PC w0 nG g (fun args σ K=>args.length<=fn.ntmps/\WF (ZHa ZaM tb (Zr []) unr (YG [])) fn σ.bx.length false args σ K):=by
  refine VI ZR mixed ht hf hb ax ba ?_;intro args σ K h
  exact ⟨Zr [],unr,YG [],σ.bx.length,false,Tw _,h.1,h.2⟩
 exact h.closed
def ZzD {α:Type} (enc:List Tok->Int->α->PV) (P:Ts->R α) (lo:Int) (d:Nat):Zq:=XU fun rest L en dp a ts K=>match rest with
 | []=>(0<d/\dp=65 - (d:Int)/\0<=dp)/\∀x,P ts=x->RKk (enc L en) L en dp (a+lo) x K
 | _=>False
def Ze5 {α:Type} {enc:List Tok->Int->α->PV} {P:Ts->R α} {lo:Int} {g:FuncId} (h:VX (GG w0 nG).P g):PC w0 nG g (ZzD enc P lo 0):=⟨h,fun args σ K hs=>by
 exfalso;unfold ZzD XU at hs
 split at hs
 ·obtain ⟨L,ts,_,_,hs⟩:=hs;split at hs
  ·have:=hs.1.1;omega
  exact hs
 exact hs⟩
def _root_.Go.PM.PCalls.weaken1 {G:GE} {g:FuncId} {sp sp':Zq} (h:PCalls G g sp) (hw:∀args σ K,sp' args σ K->sp args σ K):PCalls G g sp':=⟨h.enters,fun args σ K hs=>h.calls args σ K (hw _ _ _ hs)⟩
def Ze6 {α:Type} {enc:List Tok->Int->α->PV} {P:Ts->R α} {lo:Int} {d:Nat} {g:FuncId} (h:PC w0 nG g (ZlM enc P lo d)):PC w0 nG g (ZzD enc P lo (d+1)):=h.weaken1 fun args σ K hs=>by
 unfold ZzD XU at hs
 unfold ZlM XU
 split at hs
 ·obtain ⟨L,ts,h1,h2,hs⟩:=hs;refine ⟨L,ts,h1,h2,?_⟩;split at hs
  ·exact ⟨by have:=hs.1.2;omega,hs.2⟩
  exact hs.elim
 exact hs
def ZcF:Zq:=fun args σ K=>match args,σ with
 | [.d (.str w),.ptr 0 0],⟨[.cells t0 [.ptr 1 0],.cells t [.d (.sl rows),.d (.int .i64 a),.d (.int .i64 en),.d (.int .i64 dp)]],[],0⟩=>∃L ts,rows=Z6 L/\ROK L a ts /\
   (isW ts [w]=true->ROK L (a+1) ts.tail->K (.ret (.d (.bool true))) ⟨[.cells t0 [.ptr 1 0],.cells t [.d (.sl (Z6 L)),.d (.int .i64 (a+1)),.d (.int .i64 en),.d (.int .i64 dp)]],[],0⟩) /\
   (isW ts [w]=false->K (.ret (.d (.bool false))) ⟨[.cells t0 [.ptr 1 0],.cells t [.d (.sl (Z6 L)),.d (.int .i64 a),.d (.int .i64 en),.d (.int .i64 dp)]],[],0⟩)
 | _,_=>False
def Zof:Tbl:=[(181,Ws)]
def ZsU:OKw w0 nG Zof 249 ZcF:=by
 refine pwo Tryz.func249 fun args σ K h=>?_
 exact mq70
def ZsV:OKw w0 nG Zof 250 ZcF:=by
 refine pwo Tryz.func250 fun args σ K h=>?_
 exact mq70
def Zv4:Zq:=fun args σ K=>match args,σ with
 | [.asl 0 0 n,.func g [] [.ptr 1 0]],⟨[.cells tA cs,.cells t0 [.ptr 2 0],.cells t [.d (.sl rows),.d (.int .i64 a),.d (.int .i64 en),.d (.int .i64 dp)]],[],0⟩=>∃L ts ws,rows=Z6 L/\ROK L a ts /\
   ((ws=ZU/\g=249)\/(ws=Z5/\g=250))/\n=ws.length/\cs=ws.map (fun w=>PV.d (.str w)) /\
   (∀k:Nat,Vw ts 0 ws=some k->ROK L (a+1) ts.tail->K (.ret (.d (.int .i64 k))) ⟨[.cells tA cs,.cells t0 [.ptr 2 0],.cells t [.d (.sl (Z6 L)),.d (.int .i64 (a+1)),.d (.int .i64 en),.d (.int .i64 dp)]],[],0⟩) /\
   (Vw ts 0 ws=none->K (.ret (.d (.int .i64 (-1)))) ⟨[.cells tA cs,.cells t0 [.ptr 2 0],.cells t [.d (.sl (Z6 L)),.d (.int .i64 a),.d (.int .i64 en),.d (.int .i64 dp)]],[],0⟩)
 | _,_=>False
def Zye:Tbl:=[(249,ZcF),(250,ZcF)]
def ZDY (ht:TO w0 nG Zye):PC w0 nG 144 Zv4:=by
 refine VI ZR mixed (tbl:=Zye) ht Tryz.func144 rfl kR kR ?_;intro args σ K h
 unfold Zv4 at h
 split at h
 ·rename_i n g tA cs t0 t rows a en dp
  obtain ⟨L,ts,ws,rfl,ho,hws,rfl,rfl,h1,h2⟩:=h;refine ⟨Zr [],Wk [(2,8)],YG [],3,false,sM,Td rfl,?_⟩;rcases hws with ⟨rfl,rfl⟩ | ⟨rfl,rfl⟩
  ·conv=>whnf
   refine ⟨dM,dM,wN ?_⟩;refine ⟨L,ts,rfl,ho,fun hw0 ak=>wN ?_,fun hw0=>wN ?_⟩
   ·exact h1 0 (by simp [Vw,ZU, *]) ak
   refine Zl ?_;refine ⟨dM,dM,wN ?_⟩;refine ⟨L,ts,rfl,ho,fun ek ak=>wN ?_,fun ek=>wN ?_⟩
   ·exact h1 1 (by simp [Vw,ZU, *]) ak
   refine Zl ?_;refine ⟨dM,dM,wN ?_⟩;refine ⟨L,ts,rfl,ho,fun pu ak=>wN ?_,fun pu=>wN ?_⟩
   ·exact h1 2 (by simp [Vw,ZU, *]) ak
   refine Zl ?_;refine ⟨dM,dM,wN ?_⟩;refine ⟨L,ts,rfl,ho,fun o7 ak=>wN ?_,fun o7=>wN ?_⟩
   ·exact h1 3 (by simp [Vw,ZU, *]) ak
   refine Zl ?_;refine ⟨dM,dM,wN ?_⟩;refine ⟨L,ts,rfl,ho,fun pp ak=>wN ?_,fun pp=>wN ?_⟩
   ·exact h1 4 (by simp [Vw,ZU, *]) ak
   refine Zl ?_;refine ⟨dM,dM,wN ?_⟩;refine ⟨L,ts,rfl,ho,fun hw5 ak=>wN ?_,fun hw5=>wN ?_⟩
   ·exact h1 5 (by simp [Vw,ZU, *]) ak
   refine Zl ?_;exact h2 (by simp [Vw,ZU, *])
  conv=>whnf
  refine ⟨dM,dM,wN ?_⟩;refine ⟨L,ts,rfl,ho,fun hw0 ak=>wN ?_,fun hw0=>wN ?_⟩
  ·exact h1 0 (by simp [Vw,Z5, *]) ak
  refine Zl ?_;refine ⟨dM,dM,wN ?_⟩;refine ⟨L,ts,rfl,ho,fun ek ak=>wN ?_,fun ek=>wN ?_⟩
  ·exact h1 1 (by simp [Vw,Z5, *]) ak
  refine Zl ?_;refine ⟨dM,dM,wN ?_⟩;refine ⟨L,ts,rfl,ho,fun pu ak=>wN ?_,fun pu=>wN ?_⟩
  ·exact h1 2 (by simp [Vw,Z5, *]) ak
  refine Zl ?_;refine ⟨dM,dM,wN ?_⟩;refine ⟨L,ts,rfl,ho,fun o7 ak=>wN ?_,fun o7=>wN ?_⟩
  ·exact h1 3 (by simp [Vw,Z5, *]) ak
  refine Zl ?_;exact h2 (by simp [Vw,Z5, *])
 exact h.elim
def ZiB:Nat->Ts->R Ex
 | 0=>fun _=>.err 0 150
 | d+1=>Ya d
def Zv5 (d:Nat):Jv d=fun ts=>XK (ZiB d) 6 1 ts:=by cases d <;> rfl
def Zql (d:Nat) (ts:Ts):Ya d ts=Xg d (ZiB d) ts:=by cases d <;> rfl
def Zqm {ts:Ts} (h:ZC ts=true):ts≠[]:=by rintro rfl;simp [ZC,hd] at h
abbrev ZmE (d:Nat):Zq:=ZzD (fun L en (v:Ex)=>ZcB (Z7 (Zc L en) v)) (Jv d) 0 d
abbrev Zkw (d:Nat):Zq:=ZzD (fun L en (v:Ex)=>ZcB (Z7 (Zc L en) v)) (ZiB d) 0 d
abbrev Zg7 (d:Nat):Zq:=ZlM (fun L en (v:Ex)=>ZcB (Z7 (Zc L en) v)) (Vl d) 0 d
abbrev ZdY (d:Nat):Zq:=ZlM (fun L en (v:Ex)=>ZcB (Z7 (Zc L en) v)) (Ya d) 0 d
abbrev ZbF (d:Nat):Zq:=ZlM (fun L en (v:Ex)=>ZcB (Z7 (Zc L en) v)) (YK d (Jv d)) 0 d
def Ze7 (d:Nat):Zq:=XU fun rest L en dp a ts K=>match rest with
 | [.d (.str fr),.d (.str tw)]=>((dp=64 - (d:Int)/\0<=dp)/\tw≠[])/\∀x,Zad d (Jv d) fr tw ts=x->RKk (fun (l:List Ex)=>.d (.sl (l.map (Z7 (Zc L en))))) L en dp a x K
 | _=>False
def Zog (d:Nat):Zq:=XU fun rest L en dp a ts K=>match rest with
 | [.agg [.d (.int .u8 op),.d (.str []),.d (.int .i64 n),.nils e,.d (.int .i64 at')]]=>((dp=64 - (d:Int)/\0<=dp)/\n=0/\e=59)/\∃o:Nat,op=(o:Int)/\∀x,Zm d [40] [41] (Y1 (Jv d) (ZbB o) []) ts=x ->
   RKk (fun (l:List Ex)=>.agg [.d (.int .u8 op),.d (.str []),.d (.int .i64 0),.d (.sl (l.map (Z7 (Zc L en)))),.d (.int .i64 at')]) L en dp a x K
 | _=>False
def V8 (d:Nat):Zq:=fun args σ K=>match args,σ with
 | [.ptr 0 0,.d (.str sg),.d (.int .i64 m),.func g1 [.ptr 0 0] [],.func g2 [.ptr 0 0] []],⟨[.cells t [.d (.sl rows),.d (.int .i64 a),.d (.int .i64 en),.d (.int .i64 dp)]],[],0⟩ =>
   (sg=[44]/\m=12/\g1=220/\g2=221/\0<d/\dp=65 - (d:Int)/\0<=dp)/\∃L ts,rows=Z6 L/\ROK L a ts/\∀x,Xf [44] 12 ZC (Jv d) ts=x ->
    RKk (fun (l:List Ex)=>.d (.sl (l.map (Z7 (Zc L en))))) L en dp a x fun pe a' dp'=>K pe ⟨[.cells t [.d (.sl (Z6 L)),.d (.int .i64 a'),.d (.int .i64 en),.d (.int .i64 dp')]],[],0⟩
 | _,_=>False
def Zoh (d:Nat):Tbl:=[(129,Zks),(219,V8 d)]
def Zoi (d:Nat):Tbl:=[(129,Zks),(136,XV),(128,Xd),(218,Zoe Tryz.f218 (Zoh d))]
def ZzF {d:Nat}:OKw w0 nG [(185,Zoe Tryz.f185 (Zoi d))] 188 (Ze7 d):=by
 refine pwo Tryz.func188 fun args σ K h=>?_
 unfold Ze7 XU at h
 split at h
 ·rename_i rest t rows a en dp
  obtain ⟨L,ts,rfl,ho,h⟩:=h;split at h
  ·rename_i fr tw
   obtain ⟨⟨ff,l8⟩,h⟩:=h;have h0:=ho.lo;have h1:=ho.hi;have h2:=ho.big;refine pwv [] 1 false ?_;have h:=h _ rfl;unfold Zad at h
   refine ⟨_,fun _ _ h=>h,Td rfl,wN ?_⟩;refine ⟨L,ts,rfl,ho,[fr],rfl,sM,fun b ek=>?_⟩
   cases b with
   | false =>
    exact mq181
   | true =>
   rw [Zm,Tg ek] at h;(conv=>whnf);refine ZJU (fun hc=>wN ?_) (fun hc=>wN ?_)
   ·rw [Tg oM] at h;exact mq72
   rw [Tb oM] at h;refine ⟨L,ts,rfl,ho,fun x hx=>?_⟩;rw [ZM,Tg ek] at hx;subst hx;intro a1 ee aw
   have cq:=aw.hi;(conv=>whnf);refine Zl ?_;refine ⟨_,fun _ _ h=>h,Td rfl,wN ?_⟩;refine ⟨L,ts.tail,rfl,aw,[tw],rfl,sM,fun b pp=>?_⟩;have ib:∀(x:R (List Ex)),(if isW ts.tail [tw]=true then R.ok [] ts.tail else Xf [44] 12 ZC (Jv d) ts.tail)=x->True:=fun _ _=>trivial
   cases b with
   | true =>
    rw [Tg pp,R.bind_ok] at h;(conv=>whnf);have ak:=aw;refine ZJX (fun _=>wN ?_) (fun g=>absurd g l8);rw [Tb l8] at h;refine ⟨L,ts.tail,rfl,aw,fun x et=>?_⟩;exact mq15
   | false =>
   rw [Tb (by rw [pp];simp)] at h;(conv=>whnf);refine ⟨⟨rfl,rfl,rfl,rfl,oM,oM,oM⟩,L,ts.tail,rfl,aw,fun x cd=>?_⟩;rcases x with ⟨v2,ts2⟩ | ⟨r2,e2⟩
   rotate_left
   ·exact mq44
   rw [cd,R.bind_ok] at h;intro a2 f9 ak
   have ge:=ak.hi;(conv=>whnf);refine ZJX (fun _=>wN ?_) (fun g=>absurd g l8);rw [Tb l8] at h;refine ⟨L,ts2,rfl,ak,fun x et=>?_⟩;exact mq15
  exact h.elim
 exact h.elim
def V9 (ex:Ts->R Ex) (k:Nat) (l:List Ex) (ts:Ts):Y1 ex (k+1) l ts=(if l=[] then .ok () ts else ZM [44] ts).bind fun _ ts=>(ex ts).bind fun e ts=>Y1 ex k (l++[e]) ts:=rfl
def Zoj (d:Nat):Tbl:=[(136,XV),(221,ZmE d)]
def Zok (d:Nat):Tbl:=[(129,Zks),(136,XV),(128,Xd),(298,ZDW Tryz.f298 (Wk [(1,5)]) (Zoj d))]
def ZzH {d:Nat}:OKw w0 nG [(185,Zoe Tryz.f185 (Zok d))] 294 (Zog d):=by
 refine pwo Tryz.func294 fun args σ K h=>?_
 unfold Zog XU at h
 split at h
 ·rename_i rest t rows a en dp
  obtain ⟨L,ts,rfl,ho,h⟩:=h;split at h
  ·rename_i op n e at'
   obtain ⟨⟨ff,rfl,rfl⟩,o,rfl,h⟩:=h;have h:=h _ rfl;have h0:=ho.lo;have h1:=ho.hi;have h2:=ho.big;refine pwv [] 1 false ?_;refine ZJU (fun fp=>?_) (fun fp=>wN ?_)
   ·obtain rfl:o=22:=by omega
    have yg:ZbB 22=3:=rfl;(conv=>whnf);refine V5 ?_;refine V5 ?_;rw [yg] at h;refine ⟨_,fun _ _ h=>h,Td rfl,wN ?_⟩;refine ⟨L,ts,rfl,ho,[[40]],rfl,sM,fun b ek=>?_⟩
    cases b with
    | false =>
     exact mq181
    | true =>
    rw [Zm,Tg ek] at h;(conv=>whnf);refine ZJU (fun hc=>wN ?_) (fun hc=>wN ?_)
    ·rw [Tg oM] at h;exact mq72
    rw [Tb oM] at h;refine ⟨L,ts,rfl,ho,fun x hx=>?_⟩;rw [ZM,Tg ek] at hx;subst hx;intro a1 ee aw
    have cq:=aw.hi;(conv=>whnf);refine Zl ?_;refine ⟨_,fun _ _ h=>h,Td rfl,wN ?_⟩;rw [V9] at h;rw [Tg rfl,R.bind_ok] at h;refine ⟨L,ts.tail,rfl,aw,⟨oM,oM,oM⟩,fun x nj=>?_⟩;rcases x with ⟨v10,ts10⟩ | ⟨r10,e10⟩
    rotate_left
    ·exact mq133
    rw [nj,R.bind_ok] at h;intro a10 sd ld
    have yj:=ld.hi;obtain ⟨v10a,v10b,v10c,v10d,v10e⟩:=v10;(conv=>whnf);refine ⟨rfl,rfl,Td rfl,Td rfl,wN ?_⟩
    repeat (refine ⟨rfl,?_⟩;conv=>whnf)
    refine V5 ?_;rw [V9] at h;rw [Tb sM] at h;refine ⟨L,ts10,rfl,ld,fun x kb=>?_⟩;rcases x with ⟨v11,ts11⟩ | ⟨r11,e11⟩
    rotate_left
    ·rw [kb,R.bind_err,R.bind_err] at h;intro a9 d9;(conv=>whnf);exact h _ _
    rw [kb,R.bind_ok] at h;intro a11 se lf
    have yk:=lf.hi;(conv=>whnf);refine ⟨L,ts11,rfl,lf,⟨oM,oM,oM⟩,fun x lg=>?_⟩;rcases x with ⟨v12,ts12⟩ | ⟨r12,e12⟩
    rotate_left
    ·rw [lg,R.bind_err,R.bind_err] at h;intro a9 d9;(conv=>whnf);exact h _ _
    rw [lg,R.bind_ok] at h;intro a12 si lh
    have ym:=lh.hi;obtain ⟨v12a,v12b,v12c,v12d,v12e⟩:=v12;(conv=>whnf);refine ⟨rfl,rfl,Td rfl,Td rfl,wN ?_⟩
    repeat (refine ⟨rfl,?_⟩;conv=>whnf)
    refine V5 ?_;rw [V9] at h;rw [Tb sM] at h;refine ⟨L,ts12,rfl,lh,fun x yo=>?_⟩;rcases x with ⟨v13,ts13⟩ | ⟨r13,e13⟩
    rotate_left
    ·rw [yo,R.bind_err,R.bind_err] at h;intro a9 d9;(conv=>whnf);exact h _ _
    rw [yo,R.bind_ok] at h;intro a13 aee yq
    have af8:=yq.hi;(conv=>whnf);refine ⟨L,ts13,rfl,yq,⟨oM,oM,oM⟩,fun x yu=>?_⟩;rcases x with ⟨v14,ts14⟩ | ⟨r14,e14⟩
    rotate_left
    ·rw [yu,R.bind_err,R.bind_err] at h;intro a9 d9;(conv=>whnf);exact h _ _
    rw [yu,R.bind_ok] at h;intro a14 aef yv
    have af9:=yv.hi;obtain ⟨v14a,v14b,v14c,v14d,v14e⟩:=v14;(conv=>whnf);refine ⟨rfl,rfl,Td rfl,Td rfl,wN ?_⟩
    repeat (refine ⟨rfl,?_⟩;conv=>whnf)
    refine V5 ?_;rw [Y1] at h;rw [R.bind_ok] at h;have yw:ts14=ts14:=rfl;have ak:=yv;obtain ⟨ts2,o8⟩:∃t,t=ts14:=⟨_,rfl⟩
    rw [<- o8] at h ak;exact mq177
   refine ZJU (fun uy=>?_) (fun uy=>wN ?_)
   ·obtain rfl:o=20:=by omega
    have yg:ZbB 20=2:=rfl;(conv=>whnf);refine V5 ?_;rw [yg] at h;refine ⟨_,fun _ _ h=>h,Td rfl,wN ?_⟩;refine ⟨L,ts,rfl,ho,[[40]],rfl,sM,fun b ek=>?_⟩
    cases b with
    | false =>
     exact mq181
    | true =>
    rw [Zm,Tg ek] at h;(conv=>whnf);refine ZJU (fun hc=>wN ?_) (fun hc=>wN ?_)
    ·rw [Tg oM] at h;exact mq72
    rw [Tb oM] at h;refine ⟨L,ts,rfl,ho,fun x hx=>?_⟩;rw [ZM,Tg ek] at hx;subst hx;intro a1 ee aw
    have cq:=aw.hi;(conv=>whnf);refine Zl ?_;refine ⟨_,fun _ _ h=>h,Td rfl,wN ?_⟩;rw [V9] at h;rw [Tg rfl,R.bind_ok] at h;refine ⟨L,ts.tail,rfl,aw,⟨oM,oM,oM⟩,fun x nj=>?_⟩;rcases x with ⟨v10,ts10⟩ | ⟨r10,e10⟩
    rotate_left
    ·exact mq133
    rw [nj,R.bind_ok] at h;intro a10 sd ld
    have yj:=ld.hi;obtain ⟨v10a,v10b,v10c,v10d,v10e⟩:=v10;(conv=>whnf);refine ⟨rfl,rfl,Td rfl,Td rfl,wN ?_⟩
    repeat (refine ⟨rfl,?_⟩;conv=>whnf)
    refine V5 ?_;rw [V9] at h;rw [Tb sM] at h;refine ⟨L,ts10,rfl,ld,fun x kb=>?_⟩;rcases x with ⟨v11,ts11⟩ | ⟨r11,e11⟩
    rotate_left
    ·rw [kb,R.bind_err,R.bind_err] at h;intro a9 d9;(conv=>whnf);exact h _ _
    rw [kb,R.bind_ok] at h;intro a11 se lf
    have yk:=lf.hi;(conv=>whnf);refine ⟨L,ts11,rfl,lf,⟨oM,oM,oM⟩,fun x lg=>?_⟩;rcases x with ⟨v12,ts12⟩ | ⟨r12,e12⟩
    rotate_left
    ·rw [lg,R.bind_err,R.bind_err] at h;intro a9 d9;(conv=>whnf);exact h _ _
    rw [lg,R.bind_ok] at h;intro a12 si lh
    have ym:=lh.hi;obtain ⟨v12a,v12b,v12c,v12d,v12e⟩:=v12;(conv=>whnf);refine ⟨rfl,rfl,Td rfl,Td rfl,wN ?_⟩
    repeat (refine ⟨rfl,?_⟩;conv=>whnf)
    refine V5 ?_;rw [Y1] at h;rw [R.bind_ok] at h;have yw:ts12=ts12:=rfl;have ak:=lh;obtain ⟨ts2,o8⟩:∃t,t=ts12:=⟨_,rfl⟩
    rw [<- o8] at h ak;exact mq177
   have yg:ZbB o=1:=by rw [ZbB,Tb oM,Tb oM]
   rw [yg] at h;refine ⟨_,fun _ _ h=>h,Td rfl,wN ?_⟩;refine ⟨L,ts,rfl,ho,[[40]],rfl,sM,fun b ek=>?_⟩
   cases b with
   | false =>
    exact mq181
   | true =>
   rw [Zm,Tg ek] at h;(conv=>whnf);refine ZJU (fun hc=>wN ?_) (fun hc=>wN ?_)
   ·rw [Tg oM] at h;exact mq72
   rw [Tb oM] at h;refine ⟨L,ts,rfl,ho,fun x hx=>?_⟩;rw [ZM,Tg ek] at hx;subst hx;intro a1 ee aw
   have cq:=aw.hi;(conv=>whnf);refine Zl ?_;refine ⟨_,fun _ _ h=>h,Td rfl,wN ?_⟩;rw [V9] at h;rw [Tg rfl,R.bind_ok] at h;refine ⟨L,ts.tail,rfl,aw,⟨oM,oM,oM⟩,fun x nj=>?_⟩;rcases x with ⟨v10,ts10⟩ | ⟨r10,e10⟩
   rotate_left
   ·exact mq133
   rw [nj,R.bind_ok] at h;intro a10 sd ld
   have yj:=ld.hi;obtain ⟨v10a,v10b,v10c,v10d,v10e⟩:=v10;(conv=>whnf);refine ⟨rfl,rfl,Td rfl,Td rfl,wN ?_⟩
   repeat (refine ⟨rfl,?_⟩;conv=>whnf)
   refine V5 ?_;rw [Y1] at h;rw [R.bind_ok] at h;have yw:ts10=ts10:=rfl;have ak:=ld;obtain ⟨ts2,o8⟩:∃t,t=ts10:=⟨_,rfl⟩
   rw [<- o8] at h ak;exact mq177
  exact h.elim
 exact h.elim
def Zol (d:Nat):Tbl:=[(221,ZmE d)]
def Zom (d:Nat):Tbl:=[(129,Zks),(136,XV),(128,Xd),(293,Zoe Tryz.f293 (Zol d))]
def ZsW (d:Nat):Tbl:=[(220,ZaR ZC),(128,Xd),(179,ZbD),(185,Zoe Tryz.f185 (Zom d)),(188,Ze7 d),(135,X1),(129,Zks),(162,Jx),(294,Zog d)]
def Zqn {d:Nat} (ht:TO w0 nG (ZsW d)):PC w0 nG 282 (ZbF d):=by
 refine Zmn ZR mixed (tbl:=ZsW d) ht Tryz.func282 rfl kR kR ?_;intro args σ K h
 unfold ZbF ZlM XU at h
 split at h
 ·rename_i rest t rows a en dp
  obtain ⟨L,ts,rfl,ho,h⟩:=h;split at h
  ·obtain ⟨ff,h⟩:=h;have h0:=ho.lo;have h1:=ho.hi;have h2:=ho.big;refine ⟨Zr [],Wk [],YG [],YG [],YG [294],1,false,sM,Td rfl,wN ?_⟩;have h:=h _ rfl;refine ⟨L,ts,rfl,ho,fun b hst=>?_⟩
   cases b with
   | false =>
    rw [YK,Tg hst] at h;(conv=>whnf);exact mq72
   | true =>
   rw [YK,Tb (by rw [hst];simp)] at h;have wp:=ho.tl (Zqm hst);have hbt:=wp.hi;(conv=>whnf);refine ⟨L,ts,rfl,ho,fun fin=>Or.inl ⟨rfl,wN ?_⟩⟩;refine ZJU (fun hc=>wN ?_) (fun hc=>wN ?_)
   ·rw [Tg (show (hd ts).kind=2 by omega)] at h;exact mq126
   rw [Tb (show ¬(hd ts).kind=2 by omega)] at h;refine ZJU (fun hc=>wN ?_) (fun hc=>wN ?_)
   ·rw [Tg (show (hd ts).kind=3 by omega)] at h;exact mq126
   rw [Tb (show ¬(hd ts).kind=3 by omega)] at h;refine ZJU (fun hc=>wN ?_) (fun hc=>wN ?_)
   ·rw [Tg (show (hd ts).text=[40] from hc)] at h;refine ⟨_,fun _ _ h=>h,Td rfl,wN ?_⟩;refine ⟨L,ts,rfl,ho,[[40]],rfl,sM,fun b ek=>?_⟩
    cases b with
    | false =>
     exact mq181
    | true =>
    rw [Zm,Tg ek] at h;(conv=>whnf);refine ZJU (fun hc=>wN ?_) (fun hc=>wN ?_)
    ·rw [Tg oM] at h;exact mq72
    rw [Tb oM] at h;refine ⟨L,ts,rfl,ho,fun x hx=>?_⟩;rw [ZM,Tg ek] at hx;subst hx;intro a1 ee aw
    have cq:=aw.hi;(conv=>whnf);refine Zl ?_;refine ⟨_,fun _ _ h=>h,Td rfl,wN ?_⟩;refine ⟨L,ts.tail,rfl,aw,⟨oM,oM,oM⟩,fun x cd=>?_⟩;rcases x with ⟨v2,ts2⟩ | ⟨r2,e2⟩
    rotate_left
    ·exact mq44
    rw [cd,R.bind_ok] at h;intro a2 f9 ak
    have ge:=ak.hi;obtain ⟨v2a,v2b,v2c,v2d,v2e⟩:=v2;(conv=>whnf);exact mq177
   rw [Tb (show ¬(hd ts).text=[40] from hc)] at h;refine ZJU (fun hc=>wN ?_) (fun hc=>wN ?_)
   ·rw [Tg (show (hd ts).text=[91] from hc)] at h;refine ⟨L,ts,rfl,ho,⟨ff,sM⟩,fun x dm=>?_⟩;rcases x with ⟨v1,ts1⟩ | ⟨r1,e1⟩
    rotate_left
    ·exact mq50
    rw [dm,R.bind_ok] at h;intro a1 ee aw
    have cq:=aw.hi;(conv=>whnf);rw [<- Zd];exact h _ oM aw
   rw [Tb (show ¬(hd ts).text=[91] from hc)] at h;refine ZJU (fun hc=>wN ?_) (fun hc=>wN ?_)
   ·rw [Tg (show (hd ts).text=[36] from hc)] at h;refine Zl ?_;refine ⟨L,ts.tail,rfl,wp,fun x dm=>?_⟩;rcases x with ⟨v1,ts1⟩ | ⟨r1,e1⟩
    rotate_left
    ·exact mq50
    rw [dm,R.bind_ok] at h;intro a1 ee aw
    have cq:=aw.hi;(conv=>whnf);refine ⟨L,ts1,rfl,aw,[[40]],rfl,sM,fun b pu=>?_⟩
    cases b with
    | false =>
     rw [Tb (by rw [pu];simp)] at h;(conv=>whnf);exact h _ oM aw
    | true =>
    rw [Tg pu] at h;(conv=>whnf);refine ⟨L,ts1,rfl,aw,⟨ff,sM⟩,fun x et=>?_⟩;rcases x with ⟨v3,ts3⟩ | ⟨r3,e3⟩
    rotate_left
    ·exact mq19
    exact mq142
   rw [Tb (show ¬(hd ts).text=[36] from hc)] at h;intro n hn
   conv=>whnf
   refine ZJX (fun hc=>wN ?_) (fun hc=>wN ?_)
   ·rw [Tg (show Z1 (hd ts).text≠0 by omega)] at h;refine Zl ?_;intro n2 ip
    conv=>whnf
    refine ⟨L,ts.tail,rfl,wp,⟨ff,rfl,rfl⟩,Z1 (hd ts).text,ip.symm,fun x dm=>?_⟩;rcases x with ⟨v1,ts1⟩ | ⟨r1,e1⟩
    rotate_left
    ·exact mq50
    rw [dm,R.bind_ok] at h;intro a1 ee aw
    have cq:=aw.hi;(conv=>whnf);rw [<- ip,<- Zd];exact h _ oM aw
   rw [Tb (show ¬Z1 (hd ts).text≠0 by omega)] at h;refine ZJU (fun hc=>wN ?_) (fun hc=>wN ?_)
   ·rw [Tg (show (hd ts).text=[110,105,108] from hc)] at h;refine Zl ?_;exact h _ oM wp
   rw [Tb (show ¬(hd ts).text=[110,105,108] from hc)] at h;refine ZJU (fun hc=>wN ?_) (fun hc=>wN ?_)
   ·rw [Tg (show (hd ts).text=[95] from hc)] at h;refine Zl ?_;exact h _ oM wp
   rw [Tb (show ¬(hd ts).text=[95] from hc)] at h;exact mq126
  exact h.elim
 exact h.elim
def Zon (d:Nat):Tbl:=[(266,Zkw d)]
def Zoo (d:Nat):Tbl:=[(129,Zks),(136,XV),(128,Xd),(281,Zoe Tryz.f281 (Zon d))]
def Zop (d:Nat):Tbl:=[(134,W8),(129,Zks),(185,Zoe Tryz.f185 (Zoo d)),(282,ZbF d)]
def ZsX {d:Nat} (ht:TO w0 nG (Zop d)):PC w0 nG 266 (ZdY d):=by
 refine VI ZR mixed (tbl:=Zop d) ht Tryz.func266 rfl kR kR ?_;intro args σ K h
 unfold ZdY ZlM XU at h
 split at h
 ·rename_i rest t rows a en dp
  obtain ⟨L,ts,rfl,ho,h⟩:=h;split at h
  ·obtain ⟨ff,h⟩:=h;have h0:=ho.lo;have h1:=ho.hi;have h2:=ho.big;refine ⟨Zr [],Wk [(3,4)],YG [],1,false,sM,Td rfl,wN ?_⟩;have h:=h _ rfl;rw [Zql,Xg] at h;refine ⟨L,ts,rfl,ho,wN ?_⟩;refine ⟨dM,dM,wN ?_⟩;refine ⟨L,ts,rfl,ho,[[45]],rfl,sM,fun b hw8=>?_⟩
   cases b with
   | true =>
    rw [Tg hw8] at h;(conv=>whnf);refine ⟨_,fun _ _ h=>h,Td rfl,wN ?_⟩;refine ⟨L,ts,rfl,ho,[[45]],rfl,sM,fun b ek=>?_⟩;exact mq16
   | false =>
   rw [Tb (by rw [hw8];simp)] at h;(conv=>whnf);refine V5 ?_;refine ⟨dM,dM,wN ?_⟩;refine ⟨L,ts,rfl,ho,[[126]],rfl,sM,fun b gl=>?_⟩
   cases b with
   | true =>
    rw [Tg gl] at h;(conv=>whnf);refine ⟨_,fun _ _ h=>h,Td rfl,wN ?_⟩;refine ⟨L,ts,rfl,ho,[[126]],rfl,sM,fun b ek=>?_⟩;exact mq16
   | false =>
   rw [Tb (by rw [gl];simp)] at h;(conv=>whnf);refine V5 ?_;rw [show XK (ZiB d) 6 1=Jv d from (Zv5 d).symm] at h;refine ⟨L,ts,rfl,ho,ff,fun x dm=>?_⟩;exact mq80
  exact h.elim
 exact h.elim
def Zg8 (d j:Nat):Zq:=XU fun rest L en dp a ts K=>match rest with
 | [.d (.int .i64 least)]=>((dp=64 - (d:Int)/\0<=dp)/\1<=least/\least<=6/\6<=least+(j:Int))/\∀x,XK (Ya d) j least.toNat ts=x->RKk (fun (v:Ex)=>ZcB (Z7 (Zc L en) v)) L en dp a x K
 | _=>False
def Ze8 (d j:Nat):Zq:=XU fun rest L en dp a ts K=>match rest with
 | [.d (.int .i64 least)]=>((dp=64 - (d:Int)/\0<=dp)/\0<j/\1<=least/\least<=6/\7<=least+(j:Int))/\∀x,XK (Ya d) (j - 1) least.toNat ts=x->RKk (fun (v:Ex)=>ZcB (Z7 (Zc L en) v)) L en dp a x K
 | _=>False
def ZsY (ts:Ts):(VR ts).1<=5/\(VR ts).2<=255:=by
 unfold VR
 repeat' (first | (split;decide) | split)
 all_goals decide
def Zkx (sub : Nat -> Ts -> R Ex) (least f : Nat) (e : Ex) (ts : Ts) : XJ sub least (f + 1) e ts = if (VR ts).1 < least \/ (VR ts).1 = 0 then .ok e ts
      else (sub ((VR ts).1+1) ts.tail).bind fun g ts'=>XJ sub least f (.mk (VR ts).2 [] 0 [e,g] e.at') ts':=rfl
def Zqo {sub:Nat->Ts->R Ex} {least f:Nat} {e:Ex} {ts:Ts} (h:6<=least):XJ sub least (f+1) e ts=.ok e ts:=by
 rw [Zkx,Tg];have:=(ZsY ts).1;omega
def ZzI {ts:Ts} (h:(VR ts).1≠0):ts≠[]:=by rintro rfl;exact h rfl
def Zv6 (sg:Ts->R Ex) (j least:Nat) (ts:Ts) (h:6<=least+j):XK sg j least ts=(sg ts).bind fun e ts=>XJ (XK sg (j - 1)) least (ts.length+1) e ts:=by
 cases j with
 | zero =>
  rw [XK]
  cases sg ts with
  | ok e ts=>rw [R.bind_ok,Zqo oM]
  | err r e=>rfl
 | succ j=>rfl
def ZsZ {d j:Nat}:OKw w0 nG [(266,ZdY d),(267,ZvX),(248,Ze8 d j)] 248 (Zg8 d j):=by
 refine pwo Tryz.func248 fun args σ K h=>?_
 unfold Zg8 XU at h
 split at h
 ·rename_i rest t rows a en dp
  obtain ⟨L,ts,rfl,ho,h⟩:=h;split at h
  ·rename_i least
   obtain ⟨⟨ff,du,fc,mb⟩,h⟩:=h;have h0:=ho.lo;have h1:=ho.hi;have h2:=ho.big;refine pwv [(2,⟨[],[0,1,4,5],fun vs σ=>∃(u1:Nat) (u2:Bs) (u3:Int) (u4:List Ex) (u5:Nat) (a':Int) (ts':Ts) (f:Nat),vs=[]/\σ=⟨[.cells t [.d (.sl (Z6 L)),.d (.int .i64 a'),.d (.int .i64 en),.d (.int .i64 dp)],.cells 59 [.d (.int .u8 0),.d (.str []),.d (.int .i64 0),.sl 0 59 [],.d (.int .i64 0)],.cells 59 [.d (.int .u8 u1),.d (.str u2),.d (.int .i64 u3),.d (.sl (Zs (Zc L en) u4)),.d (.int .i64 (Zc L en u5))]],[0],1⟩/\ROK L a' ts'/\a<=a'/\ts'.length<f/\RKk (fun (v:Ex)=>ZcB (Z7 (Zc L en) v)) L en dp a (XJ (XK (Ya d) (j - 1)) least.toNat f (.mk u1 u2 u3 u4 u5) ts') (fun pe a' dp'=>K pe ⟨[.cells t [.d (.sl (Z6 L)),.d (.int .i64 a'),.d (.int .i64 en),.d (.int .i64 dp')]],[],0⟩),fun _ σ=>match σ with | ⟨.cells _ [_,.d (.int _ i),_,_]::_,_,_⟩=>((L.length:Int) - i).toNat | _=>0⟩)] 1 false ?_;have h:=h _ rfl;rw [Zv6 _ _ _ _ oM] at h;refine ⟨L,ts,rfl,ho,ff,fun x dm=>?_⟩;rcases x with ⟨v1,ts1⟩ | ⟨r1,e1⟩
   rotate_left
   ·exact mq50
   rw [dm,R.bind_ok] at h;intro a1 ee aw
   have cq:=aw.hi;obtain ⟨v1a,v1b,v1c,v1d,v1e⟩:=v1;(conv=>whnf);refine ⟨⟨v1a,v1b,v1c,v1d,v1e,a1,ts1,ts1.length+1,rfl,rfl,aw,oM,oM,h⟩,?_⟩
   clear h dm aw cq ee
   intro vs σ hI
   obtain ⟨u1,u2,u3,u4,u5,a',ts',f,rfl,rfl,ct,acr,hf,h⟩:=hI;obtain ⟨f,rfl⟩:∃g,f=g+1:=⟨f - 1,oM⟩
   rw [Zkx] at h;have pz:=ct.hi;have sj:=ct.len;(conv=>whnf);refine ⟨L,ts',rfl,ct,fun n op hn fp=>wN ?_⟩;have yx:=ZsY ts';refine ZJU (fun hc=>wN ?_) (fun hc=>wN ?_)
   ·rw [Tg oM] at h;exact h _ oM ct
   refine ZJU (fun bw=>wN ?_) (fun bw=>wN ?_)
   ·rw [Tg oM] at h;exact h _ oM ct
   rw [Tb oM] at h;have ak:=ct.tl (ZzI oM);have ge:=ak.hi;have fy:=ak.len;refine Zl ?_;refine Zl ?_;refine ⟨L,ts'.tail,rfl,ak,⟨ff,oM,oM,oM,oM⟩,fun x et=>?_⟩;rw [show (n+1).toNat=(VR ts').1+1 by omega] at et;rcases x with ⟨v3,ts3⟩ | ⟨r3,e3⟩
   rotate_left
   ·exact mq19
   rw [et,R.bind_ok] at h;intro a3 gk bq
   have ka:=bq.hi;obtain ⟨v3a,v3b,v3c,v3d,v3e⟩:=v3;(conv=>whnf);have jo:=bq.len;obtain rfl:op=((VR ts').2:Int):=fp.symm;refine ⟨⟨(VR ts').2,[],0,[.mk u1 u2 u3 u4 u5,.mk v3a v3b v3c v3d v3e],u5,a3,ts3,f,rfl,rfl,bq,oM,oM,h⟩,?_⟩;exact mq166
  exact h.elim
 exact h.elim
def ZzL {d:Nat}:OKw w0 nG [(248,Zg8 d 6)] 221 (Zg7 d):=by
 refine pwo Tryz.func221 fun args σ K h=>?_
 unfold Zg7 ZlM XU at h
 split at h
 ·rename_i rest t rows a en dp
  obtain ⟨L,ts,rfl,ho,h⟩:=h;split at h
  ·obtain ⟨ff,h⟩:=h;have h0:=ho.lo;have h1:=ho.hi;have h2:=ho.big;refine pwv [] 1 false ?_;have h:=h _ rfl;refine ⟨L,ts,rfl,ho,⟨ff,oM,oM,oM⟩,fun x dm=>?_⟩;rw [Vl] at h
   change XK (Ya d) 6 1 ts=x at dm
   exact mq80
  exact h.elim
 exact h.elim
abbrev ZzM (d:Nat):Zq:=ZlM (fun L en (v:Li)=>ZcB (XD (Zc L en) v)) (Zbf d (UM d)) 0 d
abbrev Zky (d:Nat):Zq:=ZlM (fun L en (v:List Li)=>.d (.sl (v.map (XD (Zc L en))))) (Zgu d) 0 d
abbrev ZiC (d:Nat):Zq:=ZzD (fun L en (v:List Li)=>.d (.sl (v.map (XD (Zc L en))))) (UM d) 0 d
def Zv7 (d:Nat):Zgu d=Xf [44] 32 Yj (Zbf d (UM d)):=by cases d <;> rfl
def Zoq (d:Nat):Zq:=XU fun rest L en dp a ts K=>match rest with
 | [.d (.bool b)]=>(dp=64 - (d:Int)/\0<=dp)/\∀x,ZdE d b ts=x->RKk (fun (v:Ru)=>ZcB (ZH (Zc L en) v)) L en dp (a+1) x K
 | _=>False
def ZaU {ts:Ts}:∀{ws:List Bs} {i k:Nat},Vw ts i ws=some k->i<=k/\k<i+ws.length
 | [],i,k,h=>by simp [Vw] at h
 | w::ws,i,k,h=>by
  rw [Vw] at h;split at h
  ·cases h;simp
  have:=ZaU h;simp only [Te];omega
def ZcG {ts:Ts} (h:Vw ts 0 ZU=none):Vm ts=.err ts.length 150:=by rw [Vm,h]
def Ze9 {ts:Ts} {j:Nat} (h:Vw ts 0 ZU=some 0) (h2:Vw ts.tail 0 Z5=some j):Vm ts=.ok (9+j) ts.tail.tail:=by rw [Vm,h];simp only [h2]
def ZiD {ts:Ts} (h:Vw ts 0 ZU=some 0) (h2:Vw ts.tail 0 Z5=none):Vm ts=.ok 3 ts.tail:=by rw [Vm,h];simp only [h2]
def Zfa {ts:Ts} {k:Nat} (h:Vw ts 0 ZU=some (k+1)):Vm ts=.ok (3+(k+1)) ts.tail:=by rw [Vm,h];rfl
def Zv9:OKw w0 nG [(220,(ZaR ZC)),(129,Zks)] 223 (Zoc Yj):=by
 refine pwo Tryz.func223 fun args σ K h=>?_
 unfold Zoc ZsK at h
 split at h
 ·rename_i rest t0 t rows a en dp
  obtain ⟨L,ts,rfl,ho,h⟩:=h;split at h
  ·skip
   refine pwv [] 2 false ?_;refine ⟨L,ts,rfl,ho,fun b hb=>?_⟩
   cases b with
   | true =>
    conv=>whnf
    exact h _ (by rw [Yj,hb];rfl)
   | false =>
   conv=>whnf
   refine ⟨L,ts,rfl,ho,[[33]],rfl,sM,fun b hw=>wN ?_⟩;exact h _ (by rw [Yj,hb,hw];rfl)
  exact h.elim
 exact h.elim
def ZzO {d:Nat}:OKw w0 nG [(222,Ziy d)] 189 (Zky d):=by
 refine pwo Tryz.func189 fun args σ K h=>?_
 unfold Zky ZlM XU at h
 split at h
 ·rename_i rest t rows a en dp
  obtain ⟨L,ts,rfl,ho,h⟩:=h;split at h
  ·obtain ⟨ff,h⟩:=h;have h0:=ho.lo;have h1:=ho.hi;have h2:=ho.big;refine pwv [] 1 false ?_;have h:=h _ rfl;rw [Zv7] at h;refine ⟨⟨rfl,rfl,rfl,rfl,ff⟩,L,ts,rfl,ho,fun x dm=>?_⟩;rcases x with ⟨v1,ts1⟩ | ⟨r1,e1⟩
   rotate_left
   ·rw [dm] at h;intro a9 d9;(conv=>whnf);exact h _ _
   rw [dm] at h;intro a1 ee aw
   have cq:=aw.hi;(conv=>whnf);exact h _ oM aw
  exact h.elim
 exact h.elim
def Zs0 (d:Nat):Tbl:=[(189,ZiC d)]
def Zs1 (d:Nat):Tbl:=[(129,Zks),(136,XV),(128,Xd),(251,Zoe Tryz.f251 (Zs0 d))]
def Zyf (d:Nat):Tbl:=[(134,W8),(181,Ws),(179,ZbD),(138,ZaR Zt),(135,X1),(188,Ze7 d),(221,Zg7 d),(144,Zv4),(128,Xd),(136,XV),(185,Zoe Tryz.f185 (Zs1 d))]
def ZDZ {d:Nat} (ht:TO w0 nG (Zyf d)):PC w0 nG 224 (ZzM d):=by
 refine Zmn ZR mixed (tbl:=Zyf d) ht Tryz.func224 rfl kR kR ?_;intro args σ K h
 unfold ZzM ZlM XU at h
 split at h
 ·rename_i rest t rows a en dp
  obtain ⟨L,ts,rfl,ho,h⟩:=h;split at h
  ·obtain ⟨ff,h⟩:=h;have h0:=ho.lo;have h1:=ho.hi;have h2:=ho.big;refine ⟨Zr [],Wk [],YG [],YG [50],YG [],1,false,sM,Td rfl,wN ?_⟩;have h:=h _ rfl;rw [Zbf] at h;refine ⟨L,ts,rfl,ho,wN ?_⟩;refine ⟨L,ts,rfl,ho,[[33]],rfl,sM,fun ek aw=>wN ?_,fun ek=>wN ?_⟩
   ·rw [Tg ek] at h;have cq:=aw.hi;refine ⟨L,ts.tail,rfl,aw,fun fin=>Or.inr ⟨rfl,wN ?_⟩⟩;rw [W7] at h;refine ⟨L,ts.tail,rfl,aw,fun x kb=>?_⟩;exact mq46
   rw [Tb (by rw [ek];simp)] at h;refine ⟨L,ts,rfl,ho,fun fin=>Or.inr ⟨rfl,wN ?_⟩⟩;refine ⟨L,ts,rfl,ho,fun b hn=>?_⟩
   cases b with
   | false =>
    rw [Tb (by rw [hn];simp)] at h;(conv=>whnf);exact mq0
   | true =>
   conv=>whnf
   refine ZJU (fun hc=>wN ?_) (fun hc=>wN ?_)
   ·refine ZJU (fun bw=>wN ?_) (fun bw=>wN ?_)
    ·rw [Tg ⟨hn,oM,bw⟩] at h;rw [W7] at h;refine ⟨L,ts,rfl,ho,fun x kb=>?_⟩;exact mq46
    rw [Tb (fun g=>bw g.2.2)] at h;exact mq0
   rw [Tb (fun g=>hc (by have:=g.2.1;omega))] at h;exact mq0
  exact h.elim
 exact h.elim
def ZzQ {d:Nat}:OKw w0 nG [(134,W8),(135,X1),(188,Ze7 d),(181,Ws),(189,Zky d),(136,XV)] 139 (Zoq d):=by
 refine pwo Tryz.func139 fun args σ K h=>?_
 unfold Zoq XU at h
 split at h
 ·rename_i rest t rows a en dp
  obtain ⟨L,ts,rfl,ho,h⟩:=h;split at h
  ·rename_i bodies
   obtain ⟨ff,h⟩:=h;have h0:=ho.lo;have h1:=ho.hi;have h2:=ho.big;refine pwv [] 1 false ?_;have h:=h _ rfl;rw [ZdE] at h;refine ⟨L,ts,rfl,ho,wN ?_⟩;refine ⟨L,ts,rfl,ho,fun x dm=>?_⟩;rcases x with ⟨v1,ts1⟩ | ⟨r1,e1⟩
   rotate_left
   ·exact mq50
   rw [dm,R.bind_ok] at h;intro a1 ee aw
   have cq:=aw.hi;(conv=>whnf);refine ⟨L,ts1,rfl,aw,⟨ff,sM⟩,fun x cd=>?_⟩;have aga:=ff;rcases x with ⟨v2,ts2⟩ | ⟨r2,e2⟩
   rotate_left
   ·exact mq44
   rw [cd,R.bind_ok] at h;intro a2 f9 ak
   have ge:=ak.hi;(conv=>whnf)
   cases bodies with
   | false =>
    rw [Tb sM] at h;(conv=>whnf);refine ⟨L,ts2,rfl,ak,fun x et=>?_⟩;rcases x with ⟨v3,ts3⟩ | ⟨r3,e3⟩
    rotate_left
    ·exact mq19
    exact mq142
   | true =>
   conv=>whnf
   refine ⟨L,ts2,rfl,ak,[[58,45]],rfl,sM,fun o7 bq=>wN ?_,fun o7=>wN ?_⟩
   ·rw [Tg ⟨rfl,o7⟩] at h;have ka:=bq.hi;refine ⟨L,ts2.tail,rfl,bq,ff,fun x mt=>?_⟩;rcases x with ⟨v4,ts4⟩ | ⟨r4,e4⟩
    rotate_left
    ·exact mq99
    rw [mt,R.bind_ok] at h;intro a4 ni gd
    have sb:=gd.hi;(conv=>whnf);refine ⟨L,ts4,rfl,gd,fun x lc=>?_⟩;rcases x with ⟨v5,ts5⟩ | ⟨r5,e5⟩
    rotate_left
    ·exact mq43
    rw [lc,R.bind_ok] at h;intro a5 ma gt
    have ux:=gt.hi;(conv=>whnf);rw [<- Zd,<- Zp];exact h _ oM gt
   rw [Tb (by rw [o7];simp)] at h;refine ⟨L,ts2,rfl,ak,fun x mt=>?_⟩;rcases x with ⟨v4,ts4⟩ | ⟨r4,e4⟩
   rotate_left
   ·exact mq99
   rw [mt,R.bind_ok] at h;intro a4 ni gd
   have sb:=gd.hi;(conv=>whnf);rw [<- Zd];exact h _ oM gd
  exact h.elim
 exact h.elim
def Zqp:Nat->Ts->R Un
 | 0=>fun _=>.err 0 150
 | d+1=>ZsB d
def Zwa (d:Nat):ZsB d=Zkp true d (Zqp d):=by cases d <;> rfl
def ZzR (b:Bool) (d:Nat) (ts:Ts):R Un:=Zkp b d (Zqp d) ts
def Zfb (d:Nat):Zq:=XU fun rest L en dp a ts K=>match rest with
 | [.d (.bool b)]=>(dp=64 - (d:Int)/\0<=dp)/\∀x,ZzR b d ts=x->RKk (fun (v:Un)=>ZcB (WI (Zc L en) v)) L en dp a x K
 | _=>False
def Jz (d:Nat):Zq:=XU fun rest L en dp a ts K=>match rest with
 | [.d (.bool b)]=>(0<d/\dp=65 - (d:Int)/\0<=dp/\b=true)/\∀x,Zqp d ts=x->RKk (fun (v:Un)=>ZcB (WI (Zc L en) v)) L en dp a x K
 | _=>False
abbrev Zor (d:Nat):Zq:=ZlM (fun L en (v:Co)=>ZcB (Wi (Zc L en) v)) (Zsy d (Zqp d)) 0 d
def Zos (d:Nat):Tbl:=[(72,Jz d)]
def Zot (d:Nat):Tbl:=[(129,Zks),(136,XV),(128,Xd),(186,Zoe Tryz.f186 (Zos d))]
def ZzT {d:Nat}:OKw w0 nG [(134,W8),(135,X1),(137,Ze4),(181,Ws),(185,Zoe Tryz.f185 (Zot d))] 133 (Zor d):=by
 refine pwo Tryz.func133 fun args σ K h=>?_
 unfold Zor ZlM XU at h
 split at h
 ·rename_i rest t rows a en dp
  obtain ⟨L,ts,rfl,ho,h⟩:=h;split at h
  ·obtain ⟨ff,h⟩:=h;have h0:=ho.lo;have h1:=ho.hi;have h2:=ho.big;refine pwv [] 1 false ?_;have h:=h _ rfl;rw [Zsy] at h;refine ⟨L,ts,rfl,ho,wN ?_⟩;refine ⟨L,ts,rfl,ho,fun x dm=>?_⟩;rcases x with ⟨v1,ts1⟩ | ⟨r1,e1⟩
   rotate_left
   ·exact mq50
   rw [dm,R.bind_ok] at h;intro a1 ee aw
   have cq:=aw.hi;(conv=>whnf);refine ⟨L,ts1,rfl,aw,fun x cd=>?_⟩;rcases x with ⟨v2,ts2⟩ | ⟨r2,e2⟩
   rotate_left
   ·exact mq44
   rw [cd,R.bind_ok] at h;intro a2 f9 ak
   have ge:=ak.hi;(conv=>whnf);refine ⟨L,ts2,rfl,ak,[[58]],rfl,sM,fun o7 bq=>wN ?_,fun o7=>wN ?_⟩
   ·rw [Tg o7] at h;have ka:=bq.hi;refine ⟨L,ts2.tail,rfl,bq,fun x mt=>?_⟩;rcases x with ⟨v4,ts4⟩ | ⟨r4,e4⟩
    rotate_left
    ·exact mq99
    rw [mt,R.bind_ok] at h;intro a4 ni gd
    have sb:=gd.hi;(conv=>whnf);refine ⟨L,ts4,rfl,gd,fun x lc=>?_⟩;rcases x with ⟨v5,ts5⟩ | ⟨r5,e5⟩
    rotate_left
    ·exact mq43
    rw [lc,R.bind_ok] at h;intro a5 ma gt
    have ux:=gt.hi;(conv=>whnf);refine ⟨_,fun _ _ h=>h,Td rfl,wN ?_⟩;refine ⟨L,ts5,rfl,gt,[[123]],rfl,sM,fun b mw=>?_⟩
    cases b with
    | false =>
     rw [Zm,Tb (by rw [mw];simp),R.bind_err] at h;(conv=>whnf);refine ⟨L,ts5,rfl,gt,fun x hx=>?_⟩;rw [ZM,Tb (by rw [mw];simp)] at hx;exact mq174
    | true =>
    rw [Zm,Tg mw] at h;(conv=>whnf);refine ZJU (fun hc=>wN ?_) (fun hc=>wN ?_)
    ·rw [Tg oM,R.bind_err] at h;refine ⟨L,ts5,rfl,gt,wN ?_⟩;exact h _ _
    rw [Tb oM] at h;refine ⟨L,ts5,rfl,gt,fun x hx=>?_⟩;rw [ZM,Tg mw] at hx;subst hx;intro a7 yy sk
    have hb7:=sk.hi;(conv=>whnf);refine Zl ?_;refine ⟨_,fun _ _ h=>h,Td rfl,wN ?_⟩;refine ⟨L,ts5.tail,rfl,sk,⟨oM,oM,oM,rfl⟩,fun x wq=>?_⟩;exact mq41
   rw [Tb (by rw [o7];simp)] at h;refine ⟨_,fun _ _ h=>h,Td rfl,wN ?_⟩;refine ⟨L,ts2,rfl,ak,[[123]],rfl,sM,fun b mw=>?_⟩
   cases b with
   | false =>
    rw [Zm,Tb (by rw [mw];simp),R.bind_err] at h;(conv=>whnf);refine ⟨L,ts2,rfl,ak,fun x hx=>?_⟩;rw [ZM,Tb (by rw [mw];simp)] at hx;exact mq174
   | true =>
   rw [Zm,Tg mw] at h;(conv=>whnf);refine ZJU (fun hc=>wN ?_) (fun hc=>wN ?_)
   ·rw [Tg oM,R.bind_err] at h;refine ⟨L,ts2,rfl,ak,wN ?_⟩;exact h _ _
   rw [Tb oM] at h;refine ⟨L,ts2,rfl,ak,fun x hx=>?_⟩;rw [ZM,Tg mw] at hx;subst hx;intro a7 yy sk
   have hb7:=sk.hi;(conv=>whnf);refine Zl ?_;refine ⟨_,fun _ _ h=>h,Td rfl,wN ?_⟩;refine ⟨L,ts2.tail,rfl,sk,⟨oM,oM,oM,rfl⟩,fun x wq=>?_⟩;exact mq41
  exact h.elim
 exact h.elim
def Zkz (inside:Bool) (d:Nat) (un:Ts->R Un) (f:Nat) (tys:List Ty) (rels:List Re) (rules:List Ru) (comps:List Co) (inits:List Ini) (overs:List Ov) (ts:Ts):ZG inside d un (f+1) (.mk tys rels rules comps inits overs) ts =
  if ts=[]\/(inside=true/\isW ts [[125]]=true) then .ok (.mk tys rels rules comps inits overs) ts
  else if isW ts [[116,121,112,101]]=true then (if tys.length=256 then .err ts.length 3 else (Ju ts.tail).bind fun x ts=>ZG inside d un f (.mk (tys++[x]) rels rules comps inits overs) ts)
  else if isW ts [[100,101,99,108]]=true then (if rels.length=256 then .err ts.length 3 else (Ze0 ts.tail).bind fun x ts=>ZG inside d un f (.mk tys (rels++[x]) rules comps inits overs) ts)
  else if isW ts [[99,111,109,112]]=true then (if comps.length=64 then .err ts.length 3 else (Zsy d un ts.tail).bind fun x ts=>ZG inside d un f (.mk tys rels rules (comps++[x]) inits overs) ts)
  else if isW ts [[105,110,105,116]]=true then (if inits.length=256 then .err ts.length 3 else (Zsz ts.tail).bind fun x ts=>ZG inside d un f (.mk tys rels rules comps (inits++[x]) overs) ts)
  else if isW ts [[111,118,101,114,114,105,100,101]]=true then (if overs.length=256 then .err ts.length 3 else (ZsA ts.tail).bind fun x ts=>ZG inside d un f (.mk tys rels rules comps inits (overs++[x])) ts)
  else if Zt ts=true then (if rules.length=1024 then .err ts.length 3 else (ZdE d true ts).bind fun x ts=>ZG inside d un f (.mk tys rels (rules++[x]) comps inits overs) ts)
  else .err ts.length 150:=rfl
def ZzV {d:Nat}:OKw w0 nG [(129,Zks),(130,Zob),(131,ZiA),(132,Zod),(133,Zor d),(134,W8),(135,X1),(136,XV),(137,Ze4),(138,ZaR Zt),(139,Zoq d),(128,Xd)] 72 (Zfb d):=by
 refine pwo Tryz.func72 fun args σ K h=>?_
 unfold Zfb XU at h
 split at h
 ·rename_i rest t rows a en dp
  obtain ⟨L,ts,rfl,ho,h⟩:=h;split at h
  ·rename_i inside
   obtain ⟨ff,h⟩:=h;have h0:=ho.lo;have h1:=ho.hi;have h2:=ho.big;refine pwv [(1,⟨[],[0,1,4],fun vs σ=>∃(tys:List Ty) (rels:List Re) (rules:List Ru) (comps:List Co) (inits:List Ini) (overs:List Ov) (a':Int) (ts':Ts) (f:Nat),vs=[]/\σ=⟨[.cells t [.d (.sl (Z6 L)),.d (.int .i64 a'),.d (.int .i64 en),.d (.int .i64 dp)],.cells 65 [.sl 0 42 (tys.map (Zv (Zc L en))),.sl 1 47 (rels.map (ZO (Zc L en))),.sl 2 37 (rules.map (ZH (Zc L en))),.sl 3 136 (comps.map (Wi (Zc L en))),.sl 4 141 (inits.map (WG (Zc L en))),.sl 5 145 (overs.map (WH (Zc L en)))]],[5,4,3,2,1,0],6⟩/\ROK L a' ts'/\a<=a'/\ts'.length<f/\(tys.length<=256/\rels.length<=256/\rules.length<=1024/\comps.length<=64/\inits.length<=256/\overs.length<=256)/\RKk (fun (v:Un)=>ZcB (WI (Zc L en) v)) L en dp a (ZG inside d (Zqp d) f (.mk tys rels rules comps inits overs) ts') (fun pe a' dp'=>K pe ⟨[.cells t [.d (.sl (Z6 L)),.d (.int .i64 a'),.d (.int .i64 en),.d (.int .i64 dp')]],[],0⟩),fun _ σ=>match σ with | ⟨.cells _ [_,.d (.int _ i),_,_]::_,_,_⟩=>((L.length:Int) - i).toNat | _=>0⟩)] 1 false ?_;have h:=h _ rfl;rw [ZzR,Zkp] at h;refine ⟨⟨[],[],[],[],[],[],a,ts,ts.length+1,rfl,rfl,ho,oM,oM,sM,h⟩,?_⟩
   clear h
   intro vs σ hI
   obtain ⟨tys,rels,rules,comps,inits,overs,a',ts',f,rfl,rfl,ct,acr,hf,agb,h⟩:=hI;obtain ⟨f,rfl⟩:∃g,f=g+1:=⟨f - 1,oM⟩
   rw [Zkz] at h;have pz:=ct.hi;have sj:=ct.len;have w5:=ct.lo;(conv=>whnf);refine ZJU (fun hc=>wN ?_) (fun hc=>wN ?_)
   ·have aj:ts'≠[]:=by rintro rfl;have hc:a'<((Z6 L).length:Int):=hc;rw [Wh] at hc;simp at sj;omega
    cases inside with
    | false =>
     rw [Tb (by simp [aj])] at h;exact mq1
    | true =>
    conv=>whnf
    refine ⟨L,ts',rfl,ct,[[125]],rfl,sM,fun b hw=>?_⟩
    cases b with
    | true =>
     rw [Tg (.inr ⟨rfl,hw⟩)] at h;(conv=>whnf)
     repeat (refine ⟨rfl,?_⟩;conv=>whnf)
     have h:=h _ oM ct;simp only [ZcB,WI,Xo,Tz,TN] at h;exact h
    | false =>
    rw [Tb (by simp [aj,hw])] at h;exact mq1
   have aq:ts'=[]:=by have hc:¬a'<((Z6 L).length:Int):=hc;rw [Wh] at hc;exact TH oM
   rw [Tg (.inl aq)] at h;have h:=h _ oM ct;simp only [ZcB,WI,Xo,Tz,TN] at h;exact h
  exact h.elim
 exact h.elim
def Zdh:PC w0 nG 134 W8:=ZvS ⟨ZaS,trivial⟩
def cIs:PC w0 nG 129 Zks:=ZHs ⟨ZaS,ZmA,trivial⟩
def Zg9:PC w0 nG 138 (ZaR Zt):=ZvU ⟨ZaS,Zmz,trivial⟩
def U8:PC w0 nG 128 Xd:=Zzu ⟨Zdh,trivial⟩
def ZbG:PC w0 nG 181 Ws:=Zzw ⟨cIs,trivial⟩
def ZaV:PC w0 nG 136 XV:=Zzy ⟨ZbG,U8,trivial⟩
def ZHt:PC w0 nG 130 Zob:=ZzA ⟨U8,trivial⟩
def Zau:PC w0 nG 135 X1:=ZvW ⟨Zg9,U8,trivial⟩
def ZmF:PC w0 nG 220 (ZaR ZC):=ZsI ⟨ZaS,cIs,Zmz,ZcD,trivial⟩
def Zs2:PC w0 nG 267 ZvX:=ZsJ ⟨ZaS,trivial⟩
def ZzW:PC w0 nG 217 Ziz:=ZsQ ⟨Zau,ZaV,trivial⟩
def ZmG:PC w0 nG 182 J0:=ZsS ⟨cIs,Zkv ⟨Zg9,U8,ZzW,ZbG,trivial⟩,trivial⟩
def Zyg:PC w0 nG 137 Ze4:=ZvZ ⟨ZbG,Zqj ⟨Zg9,U8,Zau,ZbG,trivial⟩,ZaV,trivial⟩
def ZD0:PC w0 nG 184 ZmD:=Zv1 ⟨Zau,ZaV,ZmG,trivial⟩
def ZD1:PC w0 nG 131 ZiA:=Zv3 ⟨Zdh,Zau,ZbG,ZaV,ZmG,ZmC ⟨Zg9,U8,ZD0,ZbG,trivial⟩,trivial⟩
def ZHu:PC w0 nG 132 Zod:=ZzC ⟨Zdh,Zau,ZbG,ZaV,ZmG,trivial⟩
def ZJj:PC w0 nG 144 Zv4:=ZDY ⟨ZsU ⟨ZbG,trivial⟩,ZsV ⟨ZbG,trivial⟩,trivial⟩
def ZkA (h:VX (GG w0 nG).P 219):PC w0 nG 219 (V8 0):=⟨h,fun args σ K hs=>by
 exfalso;unfold V8 at hs
 split at hs
 ·exact absurd hs.1.2.2.2.2.1 oM
 exact hs⟩
def ZkB {d:Nat} (h:PC w0 nG 219 (ZbE d)):PC w0 nG 219 (V8 (d+1)):=h.weaken1 fun args σ K hs=>by
 unfold V8 at hs
 unfold ZbE
 split at hs
 ·obtain ⟨⟨h1,h2,h3,h4,h5,h6,h7⟩,hs⟩:=hs;exact ⟨⟨h1,h2,h3,h4,oM,h7⟩,hs⟩
 exact hs.elim
def Zqq (d:Nat) (h:VX (GG w0 nG).P 248):PC w0 nG 248 (Ze8 d 0):=⟨h,fun args σ K hs=>by
 exfalso;unfold Ze8 XU at hs
 split at hs
 ·obtain ⟨L,ts,_,_,hs⟩:=hs;split at hs
  ·exact absurd hs.1.2.1 oM
  exact hs
 exact hs⟩
def Zqr {d j:Nat} (h:PC w0 nG 248 (Zg8 d j)):PC w0 nG 248 (Ze8 d (j+1)):=h.weaken1 fun args σ K hs=>by
 unfold Ze8 XU at hs
 unfold Zg8 XU
 split at hs
 ·obtain ⟨L,ts,h1,h2,hs⟩:=hs;refine ⟨L,ts,h1,h2,?_⟩;split at hs
  ·exact ⟨⟨hs.1.1,hs.1.2.2.1,hs.1.2.2.2.1,by have:=hs.1.2.2.2.2;omega⟩,hs.2⟩
  exact hs.elim
 exact hs
structure Deep (w0:World) (nG d:Nat):Prop where
 sg:PC w0 nG 266 (Zkw d)
 ex:PC w0 nG 221 (ZmE d)
 many:PC w0 nG 219 (V8 d)
def Zou {d:Nat} (D:Deep w0 nG d):PC w0 nG 188 (Ze7 d):=ZzF ⟨(ZdF (tb:=Zoi d) ⟨cIs,ZaV,U8,(ZdF (tb:=Zoh d) ⟨cIs,D.many,trivial⟩ Tryz.func218 rfl kR kR),trivial⟩ Tryz.func185 rfl kR kR),trivial⟩
def Zwb {d:Nat} (D:Deep w0 nG d):PC w0 nG 294 (Zog d):=ZzH ⟨(ZdF (tb:=Zok d) ⟨cIs,ZaV,U8,(ZDX (tb:=Zoj d) ⟨ZaV,D.ex,trivial⟩ Tryz.func298 rfl kR kR),trivial⟩ Tryz.func185 rfl kR kR),trivial⟩
def ZmH {d:Nat} (D:Deep w0 nG d):PC w0 nG 282 (ZbF d):=Zqn ⟨ZmF,U8,ZaS,(ZdF (tb:=Zom d) ⟨cIs,ZaV,U8,(ZdF (tb:=Zol d) ⟨D.ex,trivial⟩ Tryz.func293 rfl kR kR),trivial⟩ Tryz.func185 rfl kR kR),Zou D,Zau,cIs,ZcD,Zwb D,trivial⟩
def ZcH {d:Nat} (D:Deep w0 nG d):PC w0 nG 266 (ZdY d):=ZsX ⟨Zdh,cIs,(ZdF (tb:=Zoo d) ⟨cIs,ZaV,U8,(ZdF (tb:=Zon d) ⟨D.sg,trivial⟩ Tryz.func281 rfl kR kR),trivial⟩ Tryz.func185 rfl kR kR),ZmH D,trivial⟩
def Zov {d:Nat} (D:Deep w0 nG d):∀j,PC w0 nG 248 (Zg8 d j)
 | 0=>ZsZ ⟨ZcH D,Zs2,Zqq d (Zg Tryz.func248 kR rfl),trivial⟩
 | j+1=>ZsZ ⟨ZcH D,Zs2,Zqr (Zov D j),trivial⟩
def ZiE {d:Nat} (D:Deep w0 nG d):PC w0 nG 221 (Zg7 d):=ZzL ⟨Zov D 6,trivial⟩
def Zs3 {d:Nat} (h:PC w0 nG 221 (Zg7 d)):PC w0 nG 219 (ZbE d):=ZsM d ⟨ZmF,U8,h,ZbG,trivial⟩
def ZD2:∀d,Deep w0 nG d
 | 0=>⟨Ze5 (Zg Tryz.func266 kR rfl),Ze5 (Zg Tryz.func221 kR rfl),ZkA (Zg Tryz.func219 kR rfl)⟩
 | d+1=>⟨Ze6 (ZcH (ZD2 d)),Ze6 (ZiE (ZD2 d)),ZkB (Zs3 (ZiE (ZD2 d)))⟩
def ZD3 (d:Nat):PC w0 nG 188 (Ze7 d):=Zou (ZD2 d)
def ZHv (d:Nat):PC w0 nG 221 (Zg7 d):=ZiE (ZD2 d)
def ZD4:PC w0 nG 223 (Zoc Yj):=Zv9 ⟨ZmF,cIs,trivial⟩
def ZzX {d:Nat} (h:PC w0 nG 189 (ZiC d)):PC w0 nG 224 (ZzM d):=ZDZ ⟨Zdh,ZbG,ZaS,Zg9,Zau,ZD3 d,ZHv d,ZJj,U8,ZaV,(ZdF (tb:=Zs1 d) ⟨cIs,ZaV,U8,(ZdF (tb:=Zs0 d) ⟨h,trivial⟩ Tryz.func251 rfl kR kR),trivial⟩ Tryz.func185 rfl kR kR),trivial⟩
def Zow {d:Nat} (h:PC w0 nG 189 (ZiC d)):PC w0 nG 189 (Zky d):=ZzO ⟨ZsO d ⟨ZD4,U8,ZzX h,ZbG,trivial⟩,trivial⟩
def Zyh:∀d,PC w0 nG 189 (ZiC d)
 | 0=>Ze5 (Zg Tryz.func189 kR rfl)
 | d+1=>Ze6 (Zow (Zyh d))
def ZHw (d:Nat):PC w0 nG 189 (Zky d):=Zow (Zyh d)
def ZHx (d:Nat):PC w0 nG 139 (Zoq d):=ZzQ ⟨Zdh,Zau,ZD3 d,ZbG,ZHw d,ZaV,trivial⟩
def Zqs (h:VX (GG w0 nG).P 72):PC w0 nG 72 (Jz 0):=⟨h,fun args σ K hs=>by
 exfalso;unfold Jz XU at hs
 split at hs
 ·obtain ⟨L,ts,_,_,hs⟩:=hs;split at hs
  ·exact absurd hs.1.1 oM
  exact hs
 exact hs⟩
def Zqt {d:Nat} (h:PC w0 nG 72 (Zfb d)):PC w0 nG 72 (Jz (d+1)):=h.weaken1 fun args σ K hs=>by
 unfold Jz XU at hs
 unfold Zfb XU
 split at hs
 ·obtain ⟨L,ts,h1,h2,hs⟩:=hs;refine ⟨L,ts,h1,h2,?_⟩;split at hs
  ·obtain ⟨⟨g1,g2,g3,rfl⟩,hs⟩:=hs;refine ⟨oM,?_⟩;rw [Zqp,Zwa] at hs;exact hs
  exact hs.elim
 exact hs
def Zwc {d:Nat} (h:PC w0 nG 72 (Jz d)):PC w0 nG 133 (Zor d):=ZzT ⟨Zdh,Zau,Zyg,ZbG,(ZdF (tb:=Zot d) ⟨cIs,ZaV,U8,(ZdF (tb:=Zos d) ⟨h,trivial⟩ Tryz.func186 rfl kR kR),trivial⟩ Tryz.func185 rfl kR kR),trivial⟩
def Zox {d:Nat} (h:PC w0 nG 72 (Jz d)):PC w0 nG 72 (Zfb d):=ZzV ⟨cIs,ZHt,ZD1,ZHu,Zwc h,Zdh,Zau,ZaV,Zyg,Zg9,ZHx d,U8,trivial⟩
def Zyi:∀d,PC w0 nG 72 (Jz d)
 | 0=>Zqs (Zg Tryz.func72 kR rfl)
 | d+1=>Zqt (Zox (Zyi d))
def ZHy (d:Nat):PC w0 nG 72 (Zfb d):=Zox (Zyi d)
def R.good {α:Type} (x:R α):Prop:=match x with | .ok _ _=>True | .err _ e=>e≠0
def ZJV {α β:Type} {x:R α} {f:α->Ts->R β} (h:x.good) (hf:∀a ts,(f a ts).good):(x.bind f).good:=by
 cases x with
 | ok a ts=>exact hf a ts
 | err r e=>exact h
def ZKi {α:Type} (a:α) (ts:Ts):(R.ok a ts:R α).good:=trivial
def ZJW {α:Type} {c:Prop} [Decidable c] {x y:R α} (h1:x.good) (h2:y.good):(if c then x else y).good:=by split;exact h1;exact h2
def ZJZ {α:Type} {r e:Nat} (h:e≠0):(R.err r e:R α).good:=h
def Ys (w:Bs) (ts:Ts):(ZM w ts).good:=ZJW trivial (ZJZ dM)
def Z2 (ts:Ts):(Y9 ts).good:=ZJW trivial (ZJZ dM)
def Y2 {α:Type} {d:Nat} {fr tw:Bs} {read:Ts->R α} (h:∀ts,(read ts).good) (ts:Ts):(Zm d fr tw read ts).good :=
 ZJW (ZJW (ZJZ dM) (ZJV (h _) fun _ _=>ZJW trivial (ZJV (Ys _ _) fun _ _=>trivial))) (ZJZ dM)
def Zfc {α:Type} {sign:Bs} {most:Nat} {st:Ts->Bool} {one:Ts->R α} (h:∀ts,(one ts).good):∀f l ts,(Yw sign most st one f l ts).good
 | 0,_,_=>ZJZ dM
 | f+1,l,ts=>ZJW (ZJZ dM) (ZJV (h _) fun _ _=>ZJW (Zfc h f _ _) trivial)
def Ua {α:Type} {sign:Bs} {most:Nat} {st:Ts->Bool} {one:Ts->R α} (h:∀ts,(one ts).good) (ts:Ts):(Xf sign most st one ts).good:=Zfc h _ _ _
def Zqu (ts:Ts):(Wr ts).good:=ZJV (Z2 _) fun _ _=>ZJV (Ys _ _) fun _ _=>ZJV (Z2 _) fun _ _=>trivial
def ZaW (w:Bs) (ts:Ts):(Wo w ts).good:=ZJW trivial (Ua Zqu _)
def ZcI (ts:Ts):(Zg5 ts).good:=ZJW (ZJV (Ua Z2 _) fun _ _=>ZJV (Ys _ _) fun _ _=>trivial) trivial
def Zs4 (ts:Ts):(Jt ts).good:=ZJV (Z2 _) fun _ _=>ZJV (Ys _ _) fun _ _=>ZJV (ZaW _ _) fun _ _=>ZJV (Ys _ _) fun _ _=>trivial
def Zqv (ts:Ts):(Ju ts).good:=ZJV (Z2 _) fun _ _=>ZJW (ZJV (Z2 _) fun _ _=>trivial) (ZJV (Ys _ _) fun _ _ =>
 ZJW (ZJV (ZaW _ _) fun _ _=>ZJV (Ys _ _) fun _ _=>trivial) (ZJV (Ua Zs4 _) fun _ _=>trivial))
def Zs5 (ts:Ts):(Ze0 ts).good:=ZJV (Z2 _) fun _ _=>ZJV (Ys _ _) fun _ _=>ZJV (ZaW _ _) fun _ _=>ZJV (Ys _ _) fun _ _=>trivial
def ZbH {d:Nat} {ex:Ts->R Ex} (h:∀ts,(ex ts).good) (fr tw:Bs) (ts:Ts):(Zad d ex fr tw ts).good:=by
 unfold Zad
 exact Y2 (fun ts=>ZJW (ZKi _ _) (Ua h _)) ts
def Zfd {ex:Ts->R Ex} (h:∀ts,(ex ts).good):∀k l ts,(Y1 ex k l ts).good
 | 0,_,_=>trivial
 | k+1,l,ts=>ZJV (ZJW trivial (Ys _ _)) fun _ _=>ZJV (h _) fun _ _=>Zfd h k _ _
def ZkC {d:Nat} {ex:Ts->R Ex} (h:∀ts,(ex ts).good) (ts:Ts):(YK d ex ts).good :=
 ZJW (ZJZ dM) <| ZJW trivial <| ZJW trivial <| ZJW (Y2 h _) <| ZJW (ZJV (ZbH h _ _ _) fun _ _=>trivial) <|
 ZJW (ZJV (Z2 _) fun _ _=>ZJW (ZJV (ZbH h _ _ _) fun _ _=>trivial) trivial) <|
 ZJW (ZJV (Y2 (Zfd h _ _) _) fun _ _=>trivial) <| ZJW trivial <| ZJW trivial trivial
def Zfe {sub:Nat->Ts->R Ex} (h:∀n ts,(sub n ts).good) (least:Nat):∀f e ts,(XJ sub least f e ts).good
 | 0,_,_=>ZJZ dM
 | f+1,e,ts=>ZJW trivial (ZJV (h _ _) fun _ _=>Zfe h least f _ _)
def ZcJ {sg:Ts->R Ex} (h:∀ts,(sg ts).good):∀k least ts,(XK sg k least ts).good
 | 0,_,_=>h _
 | k+1,least,ts=>ZJV (h _) fun _ _=>Zfe (fun n ts=>ZcJ h k n ts) _ _ _ _
def Zdi {d:Nat} {sg:Ts->R Ex} (h:∀ts,(sg ts).good) (ts:Ts):(Xg d sg ts).good :=
 ZJW (ZJV (Y2 h _) fun _ _=>trivial) <| ZJW (ZJV (Y2 h _) fun _ _=>trivial) (ZkC (fun ts=>ZcJ h _ _ _) _)
def Zff:∀d ts,(Ya d ts).good
 | 0,ts=>Zdi (fun _=>(ZJZ dM)) ts
 | d+1,ts=>Zdi (Zff d) ts
def Zfg (d:Nat) (ts:Ts):(Vl d ts).good:=ZcJ (Zff d) _ _ _
def Zha:∀d ts,(Jv d ts).good
 | 0,_=>(ZJZ dM)
 | d+1,ts=>Zfg d ts
def Zqw (ts:Ts):(Vm ts).good:=by
 unfold Vm
 split
 ·exact ZJZ dM
 ·split <;> trivial
 trivial
def Zdj (d op a:Nat) (ts:Ts):(W7 d op a ts).good:=ZJV (Z2 _) fun _ _=>ZJV (ZbH (Zha d) _ _ _) fun _ _=>trivial
def Zfh {d:Nat} {bd:Ts->R (List Li)} (h:∀ts,(bd ts).good) (a op:Nat) (l:List Ex) (ts:Ts):(YV d bd a op l ts).good :=
 ZJW (ZJV (Ys _ _) fun _ _=>ZJV (Y2 h _) fun _ _=>trivial) trivial
def Zoy {d:Nat} {bd:Ts->R (List Li)} (h:∀ts,(bd ts).good) (ts:Ts):(Zbf d bd ts).good :=
 ZJW (Zdj _ _ _ _) <| ZJW (Zdj _ _ _ _) <| ZJV (Zfg _ _) fun _ _=>ZJV (Zqw _) fun _ _=>ZJW (Zfh h _ _ _ _) (ZJV (Zfg _ _) fun _ _=>Zfh h _ _ _ _)
def ZkD:∀d ts,(Zgu d ts).good
 | 0,ts=>Ua (Zoy fun _=>(ZJZ dM)) ts
 | d+1,ts=>Ua (Zoy (ZkD d)) ts
def Zs6 (d:Nat) (b:Bool) (ts:Ts):(ZdE d b ts).good:=ZJV (Z2 _) fun _ _=>ZJV (ZbH (Zha d) _ _ _) fun _ _ =>
 ZJW (ZJV (ZkD _ _) fun _ _=>ZJV (Ys _ _) fun _ _=>trivial) (ZJV (Ys _ _) fun _ _=>trivial)
def Zs7 {d:Nat} {un:Ts->R Un} (h:∀ts,(un ts).good) (ts:Ts):(Zsy d un ts).good:=ZJV (Z2 _) fun _ _=>ZJV (ZcI _) fun _ _ =>
 ZJW (ZJV (Z2 _) fun _ _=>ZJV (ZcI _) fun _ _=>ZJV (Y2 h _) fun _ _=>trivial) (ZJV (Y2 h _) fun _ _=>trivial)
def Zs8 (ts:Ts):(Zsz ts).good:=ZJV (Z2 _) fun _ _=>ZJV (Ys _ _) fun _ _=>ZJV (Z2 _) fun _ _=>ZJV (ZcI _) fun _ _=>trivial
def Zs9 (ts:Ts):(ZsA ts).good:=ZJV (Z2 _) fun _ _=>trivial
def YL {b:Bool} {d:Nat} {un:Ts->R Un} (h:∀ts,(un ts).good):∀f u ts,(ZG b d un f u ts).good
 | 0,_,_=>ZJZ dM
 | f+1,.mk tys rels rules comps inits overs,ts=>by
  rw [Zkz];exact ZJW trivial <| ZJW (ZJW (ZJZ dM) (ZJV (Zqv _) fun _ _=>YL h f _ _)) <| ZJW (ZJW (ZJZ dM) (ZJV (Zs5 _) fun _ _=>YL h f _ _)) <|
   ZJW (ZJW (ZJZ dM) (ZJV (Zs7 h _) fun _ _=>YL h f _ _)) <| ZJW (ZJW (ZJZ dM) (ZJV (Zs8 _) fun _ _=>YL h f _ _)) <|
   ZJW (ZJW (ZJZ dM) (ZJV (Zs9 _) fun _ _=>YL h f _ _)) <| ZJW (ZJW (ZJZ dM) (ZJV (Zs6 _ _ _) fun _ _=>YL h f _ _)) (ZJZ dM)
def Zhb:∀d ts,(ZsB d ts).good
 | 0,ts=>YL (fun _=>(ZJZ dM)) _ _ _
 | d+1,ts=>YL (Zhb d) _ _ _
def ZkE (ts:Ts):(Wp ts).good:=YL (Zhb 63) _ _ _
def Zqx {a:Nat} {r:Bs} {room:Bool} {t:Tok} (h:Vk a r room=.tok t):room=true:=by
 cases room with
 | true=>rfl
 | false =>
 unfold Vk at h
 simp only at h;split at h
 ·cases h
 simp at h
def Zoz:∀(f:Nat) (m:Int) (a:Nat) (r:Bs),(Wn f m a r).1.length<=m.toNat
 | 0,m,a,r=>by simp [Wn]
 | f+1,m,a,r=>by
  unfold Wn
  split
  ·simp
  simp only;split
  ·simp
  split
  ·simp
  rename_i t ht
  have hr:=Zqx ht;rw [TV] at hr;have:=Zoz f (m - 1) t.fin ((r.drop (ZT r).2).drop (t.fin - (a+(ZT r).2)));simp only [Te];omega
def ZzY (s:Bs) (m:Int):(ZeR s m).1.length<=m.toNat:=Zoz _ _ _ _
inductive Top (α:Type) where
 | ok (v:α) (L:List Tok) | err (p:Int) (e:Nat)
def JA {α:Type} (bytes most:Nat) (P:Ts->R α) (s:Bs):Top α :=
 if bytes<s.length then .err 0 3
 else if (ZeR s most).2.2≠0 then .err (ZeR s most).2.1 (ZeR s most).2.2
 else match P ((ZeR s most).1.map Tok.t0) with
  | .ok v []=>.ok v (ZeR s most).1
  | .ok v (_::ts)=>.err (Zc (ZeR s most).1 s.length (ts.length+1)) 150
  | .err r e=>.err (Zc (ZeR s most).1 s.length r) e
def ZmI {α:Type} {bytes most:Nat} {P:Ts->R α} (hP:∀ts,(P ts).good) {s:Bs} {p:Int} {e:Nat} (h:JA bytes most P s=.err p e):e≠0:=by
 unfold JA at h
 split at h
 ·cases h;decide
 split at h
 ·rename_i hn;cases h;exact hn
 split at h
 ·cases h
 ·cases h;decide
 rename_i r e' he
 cases h
 have:=hP ((ZeR s most).1.map Tok.t0);rw [he] at this;exact this
def Zhc:Zq:=fun args σ K=>match args,σ with
 | [.d (.str s),.d (.int .i64 m)],⟨[],[],0⟩=>s.length<4294967281 /\
   ∀l p c,ZeR s m=(l,(p,c))->(c=0->K (.ret (.tuple [.d (.sl (Z6 l)),.d (.int .i64 p),.d (.int .i64 0)])) ⟨[],[],0⟩) /\
    (c≠0->K (.ret (.tuple [.d (.sl []),.d (.int .i64 p),.d (.int .i64 c)])) ⟨[],[],0⟩)
 | _,_=>False
def ZmJ:ZL Zhc:=fun args σ K K' hK h=>by
 unfold Zhc at h |-
 split at h
 ·exact ⟨h.1,fun l p c hx=>⟨fun g=>hK _ _ ((h.2 l p c hx).1 g),fun g=>hK _ _ ((h.2 l p c hx).2 g)⟩⟩
 exact h.elim
def ZzZ (h:PC w0 nG 126 ZbA):PC w0 nG 126 Zhc:=h.weaken1 fun args σ K hs=>by
 unfold Zhc at hs
 unfold ZbA
 split at hs
 ·rename_i s m
  obtain ⟨h1,hs⟩:=hs;refine ⟨h1,?_⟩;have hs:=hs (ZeR s m).1 (ZeR s m).2.1 (ZeR s m).2.2 rfl
  by_cases hc:(ZeR s m).2.2=0
  ·rw [Tg hc,hc];exact hs.1 hc
  rw [Tb hc];exact hs.2 hc
 exact hs.elim
def recOf:Nat×Nat×Code:=match ZDR (Xm Tryz.f127) with | some x=>x | none=>(0,0,.skip)
def ZD5:List PV->St->(St->Prop)->Prop:=fun args σ K=>args.length<=Tryz.f127.ntmps/\W (ctx ZaM [] (Zr [])) recOf.2.2 (Zzp ZaM Tryz.f127 σ.bx.length K) (U6 (U6 (Zen 0 args) recOf.1 (.d .nili)) recOf.2.1 (.d .nili)) σ
def ZD6:PV->List PV->St->(St->Prop)->Prop:=fun pv args σ K=>args.length<=Tryz.f127.ntmps/\W (ctx ZaM [] (Zr [])) recOf.2.2 (Zzp ZaM Tryz.f127 σ.bx.length K) (U6 (U6 (Zen 0 args) recOf.1 pv) recOf.2.1 pv) σ
def ZD7:PDef (GG w0 nG) 127 ZD5 ZD6 :=
 ZsD (a:=recOf.1) (b:=recOf.2.1) (rest:=recOf.2.2) ZR mixed Tryz.func127 rfl kR rfl kR (fun args σ K h=>⟨ZvH ZaM [] (Zr []) (fun _=>0) (fun _=>false),σ.bx.length,CxG.of (tbl:=[]) ZR trivial trivial _ _ _,Tw _,h.1,h.2⟩) (fun pv args σ K h=>⟨ZvH ZaM [] (Zr []) (fun _=>0) (fun _=>false),σ.bx.length,CxG.of (tbl:=[]) ZR trivial trivial _ _ _,Tw _,h.1,h.2⟩)
def WhK {α:Type} (tU:TypeId) (enc:List Tok->Int->α->List PV) (bad:List PV->Prop) (n:Int) (x:Top α) (K:PEnd->St->Prop):Prop:=match x with
 | .ok v L=>K (.ret (.tuple [.d (.int .i64 0),.d (.int .i64 0)])) ⟨[.cells tU (enc L n v)],[],0⟩
 | .err p e=>∀cs,bad cs->K (.ret (.tuple [.d (.int .i64 p),.d (.int .i64 e)])) ⟨[.cells tU cs],[],0⟩
def Zta {l:List Tok} (h:l.length<=1048576):ROK l 0 (l.map Tok.t0):=⟨oM,oM,h,by simp [tz]⟩
def ZJk (cs:List PV):Prop:=∃a b c d e f:List (List D),cs=[.d (.sl a),.d (.sl b),.d (.sl c),.d (.sl d),.d (.sl e),.d (.sl f)]
def ZoA:Tbl:=[(72,Zfb 64)]
def Zz0:Zq:=fun args σ K=>match args,σ with
 | [.d (.str s),.d (.int .i64 by'),.d (.int .i64 most),.func g [] [.ptr 0 0]],⟨[.cells tU c0],tk,n⟩=>(g=71/\by'=65536/\most=16384/\c0=[.sl 0 42 [],.sl 1 47 [],.sl 2 37 [],.sl 3 136 [],.sl 4 141 [],.sl 5 145 []]/\tk=[5,4,3,2,1,0]/\n=6)/\s.length<4294967281 /\
   ∀x,JA 65536 16384 Wp s=x->WhK tU (fun L n (v:Un)=>(WI (Zc L n) v).map .d) ZJk s.length x K
 | _,_=>False
def Zyj:Tbl:=[(126,Zhc),(71,Zoe Tryz.f71 ZoA),(128,Xd)]
def Ztb (ht:TO w0 nG Zyj):PC w0 nG 70 Zz0:=by
 refine Ziw ZR mixed Tryz.func70 rfl kR kR ZD7 ?_;intro args σ K h
 unfold Zz0 at h
 split at h
 ·obtain ⟨⟨rfl,rfl,rfl,rfl,rfl,rfl⟩,hs,h⟩:=h
  rename_i s tU
  have h:=h _ rfl;refine ⟨ZvH ZaM Zyj (Zr []) (Wk []) (YG []),1,false,CxG.of ZR ht ⟨ZmJ,ZsT _ _,Zmy,trivial⟩ _ _ _,sM,Td rfl,wN ?_⟩;unfold JA at h
  refine ZJU (fun hc=>wN ?_) (fun hc=>wN ?_)
  ·rw [Tg oM] at h;exact h _ ⟨_,_,_,_,_,_,rfl⟩
  rw [Tb oM] at h;refine ⟨hs,fun l p c hx=>?_⟩;have aa:=ZzY s 16384;rw [show ((16384:Nat):Int)=16384 from rfl,hx] at h;rw [hx] at aa;refine ⟨fun h0=>?_,fun h0=>wN ?_⟩
  ·subst h0;rw [Tb sM] at h;simp only at h aa;have ho:=Zta (l:=l) (by simp at aa;omega)
   clear hx aa
   generalize s8:l.map Tok.t0=ts at h ho;(conv=>whnf);refine ⟨_,fun _ _ h=>h,Td rfl,wN ?_⟩;refine ⟨l,ts,rfl,ho,oM,fun x hx=>?_⟩;rw [show Wp ts=ZzR false 64 ts from rfl,hx] at h;rcases x with ⟨⟨v1,v2,v3,v4,v5,v6⟩,ts2⟩ | ⟨r,e⟩
   rotate_left
   ·intro a9 d9;(conv=>whnf);refine ⟨Td rfl,?_⟩;(conv=>whnf);(repeat (refine ⟨rfl,?_⟩;conv=>whnf));exact h _ ⟨_,_,_,_,_,_,rfl⟩
   intro a2 f9 ak
   conv=>whnf
   have fc:=ak.len
   (repeat (refine ⟨rfl,?_⟩;conv=>whnf))
   refine ZJU (fun j8=>?_) (fun j8=>?_)
   ·have j8:a2<l.length:=by have j8:a2<((Z6 l).length:Int):=j8;rw [Wh] at j8;exact j8
    cases ts2 with
    | nil=>simp at fc;omega
    | cons t0 ts3 =>
    conv=>whnf
    refine ⟨l,_,rfl,ak,wN ?_⟩;refine ⟨Td rfl,wN ?_⟩
    (repeat (refine ⟨rfl,?_⟩;conv=>whnf))
    exact h _ ⟨_,_,_,_,_,_,rfl⟩
   have j8:¬a2<l.length:=by have j8:¬a2<((Z6 l).length:Int):=j8;rw [Wh] at j8;exact j8
   obtain rfl:ts2=[]:=TH oM;(conv=>whnf);refine ⟨Td rfl,wN ?_⟩;exact h
  rw [Tg h0] at h;refine ZJX (fun bw=>?_) (fun bw=>absurd (show c=0 by omega) h0);(conv=>whnf)
  (repeat (refine ⟨rfl,?_⟩;conv=>whnf))
  exact h _ ⟨_,_,_,_,_,_,rfl⟩
 exact h.elim
def ZIF {α:Type} (enc:List Tok->α->PV) (zero:PV) (x:Top α) (K:PEnd->St->Prop):Prop:=match x with
 | .ok v L=>K (.ret (.tuple [enc L v,.d (.int .i64 0),.d (.int .i64 0)])) ⟨[],[],0⟩
 | .err p e=>K (.ret (.tuple [zero,.d (.int .i64 p),.d (.int .i64 e)])) ⟨[],[],0⟩
def ZoB:Zq:=fun args σ K=>match args,σ with
 | [.d (.str s)],⟨[],[],0⟩=>s.length<4294967281/\∀x,JA 65536 16384 Wp s=x->ZIF (fun L (v:Un)=>ZcB (WI (Zc L s.length) v)) (ZcB (WI (fun _=>0) .nil)) x K
 | _,_=>False
def Zz2:OKw w0 nG [(70,Zz0)] 25 ZoB:=by
 refine pwo Tryz.func25 fun args σ K h=>?_
 unfold ZoB at h
 split at h
 ·rename_i s
  obtain ⟨hs,h⟩:=h;refine pwv [] 0 false ?_;refine ⟨⟨rfl,rfl,rfl,rfl,rfl,rfl⟩,hs,fun x hx=>?_⟩;have h:=h x hx
  cases x with
  | ok v L =>
   obtain ⟨v1,v2,v3,v4,v5,v6⟩:=v;exact mq52
  | err p e =>
  have he:=ZmI ZkE hx;intro cs dk
  obtain ⟨b1,b2,b3,b4,b5,b6,rfl⟩:=dk;(conv=>whnf);refine ZJX (fun hc=>?_) (fun hc=>absurd (show e=0 by omega) he);exact mq52
 exact h.elim
def Zqy (hg:GlobOK w0 nG):PC w0 nG 126 Zhc:=ZzZ (Zzo hg)
def ZHz (hg:GlobOK w0 nG):PC w0 nG 25 ZoB:=Zz2 ⟨Ztb ⟨Zqy hg,ZdF (tb:=ZoA) ⟨ZHy 64,trivial⟩ Tryz.func71 rfl kR kR,U8,trivial⟩,trivial⟩
mutual
def szE:Ex->Nat
 | .mk _ _ _ l _=>1+Ztc l
def Ztc:List Ex->Nat
 | []=>0
 | x::l=>1+szE x+Ztc l
end
def ZoC:∀(l:List Ex),l.length<=Ztc l
 | []=>Tw _
 | x::l=>by have:=ZoC l;simp only [Te,Ztc];omega
def ZoD:∀(l:List Ex) (i:Nat) (h:i<l.length),szE l[i]<Ztc l
 | x::l,0,h=>by simp only [List.getElem_cons_zero,Ztc];omega
 | x::l,i+1,h=>by have:=ZoD l i (by simpa using h);simp only [List.getElem_cons_succ,Ztc];omega
def Li.op:Li->Nat | .mk o _ _ _ _=>o
end Go.PM.Lex
end
