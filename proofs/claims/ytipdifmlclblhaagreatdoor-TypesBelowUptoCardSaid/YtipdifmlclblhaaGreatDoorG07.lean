/- A part of the proof: plain logic, contracts and laws over the given program. -/
import Derived.Lib.ValidU
import Derived.Test.YtipdifmlclblhaaGreatDoorValid
import Derived.Shelf.Unicode.ValidAny
import Derived.Lib.MapLaws
import Derived.Test.YtipdifmlclblhaaGreatDoorG06
set_option linter.unusedVariables false
set_option linter.unusedSimpArgs false
set_option linter.all false
set_option maxRecDepth 100000
set_option maxHeartbeats 16000000
section
namespace Go.PM.Lex
structure T0 where
 kind:Nat
 text:Bs
 n:Int
 deriving DecidableEq
def Tok.t0 (t:Tok):T0:=⟨t.kind,t.text,t.n⟩
abbrev Ts:=List T0
inductive R (α:Type) where
 | ok (a:α) (ts:Ts) | err (r e:Nat)
def R.bind {α β:Type} (x:R α) (f:α->Ts->R β):R β:=match x with
 | .ok a ts=>f a ts
 | .err r e=>.err r e
@[simp] theorem R.bind_ok {α β:Type} (a:α) (ts:Ts) (f:α->Ts->R β):(R.ok a ts).bind f=f a ts:=rfl
@[simp] theorem R.bind_err {α β:Type} (r e:Nat) (f:α->Ts->R β):(R.err r e:R α).bind f=.err r e:=rfl
inductive Ex where
 | mk (op:Nat) (text:Bs) (n:Int) (args:List Ex) (at':Nat)
inductive Li where
 | mk (op:Nat) (rel:Bs) (args:List Ex) (body:List Li) (at':Nat)
structure Ru where
 head:Bs
 args:List Ex
 body:List Li
 at':Nat
structure Fi where
 name:Bs
 typ:Bs
structure Ca where
 name:Bs
 fields:List Fi
structure Ty where
 kind:Nat
 name:Bs
 base:Bs
 fields:List Fi
 cases:List Ca
 at':Nat
structure Re where
 name:Bs
 fields:List Fi
 inn:Bool
 out:Bool
 inl:Bool
 at':Nat
structure Ini where
 name:Bs
 comp:Bs
 types:List Bs
 at':Nat
structure Ov where
 rel:Bs
 at':Nat
mutual
inductive Un where
 | mk (types:List Ty) (rels:List Re) (rules:List Ru) (comps:List Co) (inits:List Ini) (overs:List Ov)
inductive Co where
 | mk (name:Bs) (params:List Bs) (base:Bs) (types:List Bs) (unit:Un) (at':Nat)
end
def hd (ts:Ts):T0:=match ts with
 | []=>⟨0,[],0⟩
 | t::_=>t
def YO (s:Bs):Nat :=
 if s=[99,97,116] then 20 else if s=[115,116,114,108,101,110] then 21 else if s=[115,117,98,115,116,114] then 22 else if s=[99,111,100,101] then 23 else if s=[115,116,114] then 24 else if s=[110,117,109] then 25 else 0
def keptWords:List Bs:=[[116,121,112,101],[100,101,99,108],[105,110,112,117,116],[111,117,116,112,117,116],[105,110,108,105,110,101],[99,111,109,112],[105,110,105,116],[111,118,101,114,114,105,100,101],[110,105,108],[99,111,117,110,116],[115,117,109],[109,105,110],[109,97,120],[98,111,114],[98,120,111,114],[98,97,110,100],[115,104,108],[115,104,114]]
def Zml (s:Bs):Bool:=keptWords.contains s || decide (YO s≠0)
def isW (ts:Ts) (ws:List Bs):Bool:=(decide ((hd ts).kind=1) || decide ((hd ts).kind=4)) && ws.contains (hd ts).text
def ZE (ts:Ts):Bool:=decide ((hd ts).kind=1) && (!decide ((hd ts).text=[95]) && !Zml (hd ts).text)
def ZV (ts:Ts):Bool :=
 if (hd ts).kind=2\/(hd ts).kind=3 then true
 else if (hd ts).kind=4 then isW ts [[45],[126],[40],[91],[36]]
 else if (hd ts).kind=1 then !Zml (hd ts).text || (decide ((hd ts).text=[110,105,108]) || decide (YO (hd ts).text≠0))
 else false
def ZaU (ts:Ts):Nat×Nat :=
 if (hd ts).kind≠1/\(hd ts).kind≠4 then (0,0)
 else if (hd ts).text=[98,111,114] then (1,16) else if (hd ts).text=[98,120,111,114] then (1,17) else if (hd ts).text=[98,97,110,100] then (2,15) else if (hd ts).text=[115,104,108] then (3,18) else if (hd ts).text=[115,104,114] then (3,19)
 else if (hd ts).text=[43] then (4,10) else if (hd ts).text=[45] then (4,11) else if (hd ts).text=[42] then (5,12) else if (hd ts).text=[47] then (5,13) else if (hd ts).text=[37] then (5,14) else (0,0)
def ZW (w:Bs) (ts:Ts):R Unit:=if isW ts [w]=true then .ok () ts.tail else .err ts.length 150
def XV (ts:Ts):R Bs:=if ZE ts=true then .ok (hd ts).text ts.tail else .err ts.length 150
def Zt {α:Type} (d:Nat) (fr tw:Bs) (read:Ts->R α) (ts:Ts):R α :=
 if isW ts [fr]=true then
  (if d=0 then .err ts.length 151 else (read ts.tail).bind fun x ts=>if tw=[] then .ok x ts else (ZW tw ts).bind fun _ ts=>.ok x ts)
 else .err ts.length 150
def Wt {α:Type} (sign:Bs) (au:Nat) (starts:Ts->Bool) (one:Ts->R α):Nat->List α->Ts->R (List α)
 | 0,_,_=>.err 0 150
 | f+1,l,ts=>if starts ts=true/\l.length=au then .err ts.length 3
   else (one ts).bind fun x ts=>if isW ts [sign]=true then Wt sign au starts one f (l++[x]) ts.tail else .ok (l++[x]) ts
def XW {α:Type} (sign:Bs) (au:Nat) (starts:Ts->Bool) (one:Ts->R α) (ts:Ts):R (List α):=Wt sign au starts one (ts.length+1) [] ts
def Uk (ts:Ts):R Fi:=(XV ts).bind fun a ts=>(ZW [58] ts).bind fun _ ts=>(XV ts).bind fun b ts=>.ok ⟨a,b⟩ ts
def ZaV (fin:Bs) (ts:Ts):R (List Fi):=if isW ts [fin]=true then .ok [] ts else XW [44] 12 ZE Uk ts
def Ze2 (ts:Ts):R (List Bs):=if isW ts [[60]]=true then (XW [44] 12 ZE XV ts.tail).bind fun l ts=>(ZW [62] ts).bind fun _ ts=>.ok l ts else .ok [] ts
def Zdf (ts:Ts):R Ca:=(XV ts).bind fun a ts=>(ZW [123] ts).bind fun _ ts=>(ZaV [125] ts).bind fun l ts=>(ZW [125] ts).bind fun _ ts=>.ok ⟨a,l⟩ ts
def ZhK (t0:Ts):R Ty:=(XV t0).bind fun nm ts =>
 if isW ts [[60,58]]=true then (XV ts.tail).bind fun b ts=>.ok ⟨1,nm,b,[],[],t0.length⟩ ts
 else (ZW [61] ts).bind fun _ ts =>
  if isW ts [[91]]=true then (ZaV [93] ts.tail).bind fun l ts=>(ZW [93] ts).bind fun _ ts=>.ok ⟨2,nm,[],l,[],t0.length⟩ ts
  else (XW [124] 64 ZE Zdf ts).bind fun l ts=>.ok ⟨3,nm,[],[],l,t0.length⟩ ts
def Xa:Nat->Bool->Bool->Bool->Ts->(Bool×Bool×Bool)×Ts
 | 0,i,o,n,ts=>((i,o,n),ts)
 | f+1,i,o,n,ts=>if i=false/\isW ts [[105,110,112,117,116]]=true then Xa f true o n ts.tail
   else if o=false/\isW ts [[111,117,116,112,117,116]]=true then Xa f i true n ts.tail
   else if n=false/\isW ts [[105,110,108,105,110,101]]=true then Xa f i o true ts.tail
   else ((i,o,n),ts)
def Zpd (t0:Ts):R Re:=(XV t0).bind fun nm ts=>(ZW [40] ts).bind fun _ ts=>(ZaV [41] ts).bind fun l ts=>(ZW [41] ts).bind fun _ ts =>
 .ok ⟨nm,l,(Xa 4 false false false ts).1.1,(Xa 4 false false false ts).1.2.1,(Xa 4 false false false ts).1.2.2,t0.length⟩ (Xa 4 false false false ts).2
def ZhL (d:Nat) (ex:Ts->R Ex) (fr tw:Bs) (ts:Ts):R (List Ex):=Zt d fr tw (fun ts=>if isW ts [tw]=true then .ok [] ts else XW [44] 12 ZV ex ts) ts
def Zaa (ex:Ts->R Ex):Nat->List Ex->Ts->R (List Ex)
 | 0,l,ts=>.ok l ts
 | k+1,l,ts=>(if l=[] then .ok () ts else ZW [44] ts).bind fun _ ts=>(ex ts).bind fun e ts=>Zaa ex k (l++[e]) ts
def Zmm (op:Nat):Nat:=if op=22 then 3 else if op=20 then 2 else 1
def Zab (d:Nat) (ex:Ts->R Ex) (ts:Ts):R Ex :=
 if ZV ts=false then .err ts.length 150
 else if (hd ts).kind=2 then .ok (.mk 3 [] (hd ts).n [] ts.length) ts.tail
 else if (hd ts).kind=3 then .ok (.mk 4 (hd ts).text 0 [] ts.length) ts.tail
 else if (hd ts).text=[40] then Zt d [40] [41] ex ts
 else if (hd ts).text=[91] then (ZhL d ex [91] [93] ts).bind fun l ts'=>.ok (.mk 6 [] 0 l ts.length) ts'
 else if (hd ts).text=[36] then (XV ts.tail).bind fun nm ts'=>if isW ts' [[40]]=true then (ZhL d ex [40] [41] ts').bind fun l ts'=>.ok (.mk 7 nm 0 l ts.length) ts' else .ok (.mk 7 nm 0 [] ts.length) ts'
 else if YO (hd ts).text≠0 then (Zt d [40] [41] (Zaa ex (Zmm (YO (hd ts).text)) []) ts.tail).bind fun l ts'=>.ok (.mk (YO (hd ts).text) [] 0 l ts.length) ts'
 else if (hd ts).text=[110,105,108] then .ok (.mk 5 [] 0 [] ts.length) ts.tail
 else if (hd ts).text=[95] then .ok (.mk 2 [] 0 [] ts.length) ts.tail
 else .ok (.mk 1 (hd ts).text 0 [] ts.length) ts.tail
def Ex.at':Ex->Nat | .mk _ _ _ _ a=>a
def U8 (sub:Nat->Ts->R Ex) (least:Nat):Nat->Ex->Ts->R Ex
 | 0,_,_=>.err 0 150
 | f+1,e,ts=>if (ZaU ts).1<least\/(ZaU ts).1=0 then .ok e ts
   else (sub ((ZaU ts).1+1) ts.tail).bind fun g ts'=>U8 sub least f (.mk (ZaU ts).2 [] 0 [e,g] e.at') ts'
def Jx (sg:Ts->R Ex):Nat->Nat->Ts->R Ex
 | 0,_,ts=>sg ts
 | k+1,least,ts=>(sg ts).bind fun e ts=>U8 (Jx sg k) least (ts.length+1) e ts
def Zdg (d:Nat) (sg:Ts->R Ex) (ts:Ts):R Ex :=
 if isW ts [[45]]=true then (Zt d [45] [] sg ts).bind fun e ts'=>.ok (.mk 8 [] 0 [e] ts.length) ts'
 else if isW ts [[126]]=true then (Zt d [126] [] sg ts).bind fun e ts'=>.ok (.mk 9 [] 0 [e] ts.length) ts'
 else Zab d (Jx sg 6 1) ts
def Xw:Nat->Ts->R Ex
 | 0=>Zdg 0 fun _=>.err 0 150
 | d+1=>Zdg (d+1) (Xw d)
def Zac (d:Nat) (ts:Ts):R Ex:=Jx (Xw d) 6 1 ts
def Zdh:Nat->Ts->R Ex
 | 0=>fun _=>.err 0 150
 | d+1=>Zac d
def ZbF (ts:Ts):Nat->List Bs->Option Nat
 | _,[]=>none
 | i,w::ws=>if isW ts [w]=true then some i else ZbF ts (i+1) ws
def ZX:List Bs:=[[61],[33,61],[60],[60,61],[62],[62,61]]
def Ym:List Bs:=[[99,111,117,110,116],[115,117,109],[109,105,110],[109,97,120]]
def Zdi (ts:Ts):R Nat:=match ZbF ts 0 ZX with
 | none=>.err ts.length 150
 | some 0=>match ZbF ts.tail 0 Ym with
  | some j=>.ok (9+j) ts.tail.tail
  | none=>.ok 3 ts.tail
 | some k=>.ok (3+k) ts.tail
def Zdj (d op a:Nat) (ts:Ts):R Li:=(XV ts).bind fun nm ts=>(ZhL d (Zdh d) [40] [41] ts).bind fun l ts=>.ok (.mk op nm l [] a) ts
def Wu (d:Nat) (bd:Ts->R (List Li)) (a op:Nat) (l:List Ex) (ts:Ts):R Li :=
 if 9<=op then (ZW [58] ts).bind fun _ ts=>(Zt d [123] [125] bd ts).bind fun b ts=>.ok (.mk op [] l b a) ts
 else .ok (.mk op [] l [] a) ts
def ZkD (d:Nat) (bd:Ts->R (List Li)) (t0:Ts):R Li:=(Zac d t0).bind fun e ts=>(Zdi ts).bind fun op ts =>
 if op=9 then Wu d bd t0.length op [e] ts else (Zac d ts).bind fun g ts=>Wu d bd t0.length op [e,g] ts
def Zmn (d:Nat) (bd:Ts->R (List Li)) (t0:Ts):R Li :=
 if isW t0 [[33]]=true then Zdj d 2 t0.length t0.tail
 else if ZE t0=true/\(hd t0.tail).kind=4/\(hd t0.tail).text=[40] then Zdj d 1 t0.length t0
 else ZkD d bd t0
def Z5 (ts:Ts):Bool:=ZV ts || isW ts [[33]]
def Zmo:Nat->Ts->R (List Li)
 | 0=>XW [44] 32 Z5 (Zmn 0 fun _=>.err 0 150)
 | d+1=>XW [44] 32 Z5 (Zmn (d+1) (Zmo d))
def Zd8:Nat->Ts->R (List Li)
 | 0=>fun _=>.err 0 150
 | d+1=>Zmo d
def Zpe (d:Nat) (bodies:Bool) (t0:Ts):R Ru:=(XV t0).bind fun nm ts=>(ZhL d (Zdh d) [40] [41] ts).bind fun l ts =>
 if bodies=true/\isW ts [[58,45]]=true then (Zmo d ts.tail).bind fun b ts=>(ZW [46] ts).bind fun _ ts=>.ok ⟨nm,l,b,t0.length⟩ ts
 else (ZW [46] ts).bind fun _ ts=>.ok ⟨nm,l,[],t0.length⟩ ts
def Zpf (d:Nat) (un:Ts->R Un) (t0:Ts):R Co:=(XV t0).bind fun nm ts=>(Ze2 ts).bind fun ps ts =>
 if isW ts [[58]]=true then (XV ts.tail).bind fun b ts=>(Ze2 ts).bind fun tys ts=>(Zt d [123] [125] un ts).bind fun u ts=>.ok (.mk nm ps b tys u t0.length) ts
 else (Zt d [123] [125] un ts).bind fun u ts=>.ok (.mk nm ps [] [] u t0.length) ts
def Zpg (t0:Ts):R Ini:=(XV t0).bind fun nm ts=>(ZW [61] ts).bind fun _ ts=>(XV ts).bind fun c ts=>(Ze2 ts).bind fun tys ts=>.ok ⟨nm,c,tys,t0.length⟩ ts
def Zph (t0:Ts):R Ov:=(XV t0).bind fun nm ts=>.ok ⟨nm,t0.length⟩ ts
def XY (inside:Bool) (d:Nat) (un:Ts->R Un):Nat->Un->Ts->R Un
 | 0,_,_=>.err 0 150
 | f+1,.mk tys rels rules comps inits overs,ts =>
  if ts=[]\/(inside=true/\isW ts [[125]]=true) then .ok (.mk tys rels rules comps inits overs) ts
  else if isW ts [[116,121,112,101]]=true then (if tys.length=256 then .err ts.length 3 else (ZhK ts.tail).bind fun x ts=>XY inside d un f (.mk (tys++[x]) rels rules comps inits overs) ts)
  else if isW ts [[100,101,99,108]]=true then (if rels.length=256 then .err ts.length 3 else (Zpd ts.tail).bind fun x ts=>XY inside d un f (.mk tys (rels++[x]) rules comps inits overs) ts)
  else if isW ts [[99,111,109,112]]=true then (if comps.length=64 then .err ts.length 3 else (Zpf d un ts.tail).bind fun x ts=>XY inside d un f (.mk tys rels rules (comps++[x]) inits overs) ts)
  else if isW ts [[105,110,105,116]]=true then (if inits.length=256 then .err ts.length 3 else (Zpg ts.tail).bind fun x ts=>XY inside d un f (.mk tys rels rules comps (inits++[x]) overs) ts)
  else if isW ts [[111,118,101,114,114,105,100,101]]=true then (if overs.length=256 then .err ts.length 3 else (Zph ts.tail).bind fun x ts=>XY inside d un f (.mk tys rels rules comps inits (overs++[x])) ts)
  else if ZE ts=true then (if rules.length=1024 then .err ts.length 3 else (Zpe d true ts).bind fun x ts=>XY inside d un f (.mk tys rels (rules++[x]) comps inits overs) ts)
  else .err ts.length 150
def Un.nil:Un:=.mk [] [] [] [] [] []
def Zmp (inside:Bool) (d:Nat) (un:Ts->R Un) (ts:Ts):R Un:=XY inside d un (ts.length+1) .nil ts
def Zpi:Nat->Ts->R Un
 | 0=>Zmp true 0 fun _=>.err 0 150
 | d+1=>Zmp true (d+1) (Zpi d)
def ZaW (ts:Ts):R Un:=Zmp false 64 (Zpi 63) ts
end Go.PM.Lex
end

section
noncomputable section
namespace Go.PM.Lex
open Go.Proofs
def tz (L:List Tok) (a:Int):Ts:=(L.drop a.toNat).map Tok.t0
def Ze (L:List Tok) (en:Int) (r:Nat):Int:=match L.drop (L.length - r) with
 | []=>en
 | t::_=>t.at'
structure ROK (L:List Tok) (a:Int) (ts:Ts):Prop where
 lo:0<=a
 hi:a<=L.length
 big:L.length<=1048576
 eq:tz L a=ts
theorem ROK.len {L:List Tok} {a:Int} {ts:Ts} (h:ROK L a ts):(ts.length:Int)=L.length - a:=by
 rw [<- h.eq];simp only [tz,Tf,TA];have:=h.lo;have:=h.hi;omega
theorem ROK.next {L:List Tok} {a:Int} {t:T0} {ts:Ts} (h:ROK L a (t::ts)):ROK L (a+1) ts:=by
 have hl:=h.len;have h0:=h.lo;refine ⟨oM,by simp at hl;omega,h.big,?_⟩;have:=h.eq;simp only [tz] at this |-;rw [show (a+1).toNat=a.toNat+1 by omega,<- TF,List.map_drop,this];rfl
theorem Ul {ts:Ts} {ws:List Bs} (h:isW ts ws=true):ts≠[]:=by rintro rfl;simp [isW,hd] at h
theorem ZhM {ts:Ts} (h:ZE ts=true):ts≠[]:=by rintro rfl;simp [ZE,hd] at h
theorem ROK.tl {L:List Tok} {a:Int} {ts:Ts} (h:ROK L a ts) (hn:ts≠[]):ROK L (a+1) ts.tail:=by
 cases ts with
 | nil=>exact absurd rfl hn
 | cons t ts=>exact h.next
theorem ROK.get {L:List Tok} {a:Int} {t:T0} {ts:Ts} (h:ROK L a (t::ts)):∃x,L[a.toNat]?=some x/\x.t0=t/\∀en,Ze L en (ts.length+1)=x.at':=by
 have hl:=h.len;have h0:=h.lo;have h1:=h.eq;simp only [Tc] at hl;have ai:a.toNat<L.length:=oM;refine ⟨L[a.toNat],Te ai,?_,fun en=>?_⟩
 ·simp only [tz] at h1;rw [TH ai] at h1;simp only [TC,List.cons.injEq] at h1;exact h1.1
 unfold Ze
 rw [show L.length - (ts.length+1)=a.toNat by omega,TH ai]
theorem ROK.none {L:List Tok} {a:Int} (h:ROK L a []):a=L.length:=by have:=h.len;simp at this;omega
theorem ZbG (L:List Tok) (en:Int):Ze L en 0=en:=by simp [Ze]
abbrev Pl:=Nat->Int
mutual
def YP (pl:Pl):Ex->List D
 | .mk op text n args a=>[.int .u8 op,.str text,.int .i64 n,.sl (Yn pl args),.int .i64 (pl a)]
def Yn (pl:Pl):List Ex->List (List D)
 | []=>[]
 | e::l=>YP pl e::Yn pl l
end
mutual
def XD (pl:Pl):Li->List D
 | .mk op rel args body a=>[.int .u8 op,.str rel,.sl (Yn pl args),.sl (Zd9 pl body),.int .i64 (pl a)]
def Zd9 (pl:Pl):List Li->List (List D)
 | []=>[]
 | e::l=>XD pl e::Zd9 pl l
end
def Z8 (pl:Pl) (r:Ru):List D:=[.str r.head,.sl (Yn pl r.args),.sl (Zd9 pl r.body),.int .i64 (pl r.at')]
def Zw (f:Fi):List D:=[.str f.name,.str f.typ]
def Zn (c:Ca):List D:=[.str c.name,.sl (c.fields.map Zw)]
def Zu (pl:Pl) (t:Ty):List D:=[.int .u8 t.kind,.str t.name,.str t.base,.sl (t.fields.map Zw),.sl (t.cases.map Zn),.int .i64 (pl t.at')]
def ZN (pl:Pl) (r:Re):List D:=[.str r.name,.sl (r.fields.map Zw),.bool r.inn,.bool r.out,.bool r.inl,.int .i64 (pl r.at')]
def ZY (s:Bs):List D:=[.str s]
def Xm (pl:Pl) (i:Ini):List D:=[.str i.name,.str i.comp,.sl (i.types.map ZY),.int .i64 (pl i.at')]
def Xn (pl:Pl) (o:Ov):List D:=[.str o.rel,.int .i64 (pl o.at')]
mutual
def Xb (pl:Pl):Un->List D
 | .mk tys rels rules comps inits overs=>[.sl (tys.map (Zu pl)),.sl (rels.map (ZN pl)),.sl (rules.map (Z8 pl)),.sl (ZhN pl comps),.sl (inits.map (Xm pl)),.sl (overs.map (Xn pl))]
def YY (pl:Pl):Co->List D
 | .mk name params base types u a=>[.str name,.sl (params.map ZY),.str base,.sl (types.map ZY)]++Xb pl u++[.int .i64 (pl a)]
def ZhN (pl:Pl):List Co->List (List D)
 | []=>[]
 | e::l=>YY pl e::ZhN pl l
end
theorem Zh (pl:Pl) (l:List Ex):Yn pl l=l.map (YP pl):=by induction l with | nil=>rfl | cons x l ih=>simp [Yn,ih]
theorem Zp (pl:Pl) (l:List Li):Zd9 pl l=l.map (XD pl):=by induction l with | nil=>rfl | cons x l ih=>simp [Zd9,ih]
theorem YH (pl:Pl) (l:List Co):ZhN pl l=l.map (YY pl):=by induction l with | nil=>rfl | cons x l ih=>simp [ZhN,ih]
abbrev ZaX (l:List D):PV:=.agg (l.map .d)
abbrev flt (L:List Tok) (en:Int) (r e:Nat):PV:=.iface 204 (.agg [.d (.int .i64 (Ze L en r)),.d (.int .i64 e)])
abbrev RK:=PEnd->Int->Int->Prop
def RKk {α:Type} (enc:α->PV) (L:List Tok) (en dp lo:Int) (x:R α) (K:RK):Prop:=match x with
 | .ok v ts'=>∀a',lo<=a'->ROK L a' ts'->K (.ret (enc v)) a' dp
 | .err r e=>∀a' dp',K (.panic (flt L en r e)) a' dp'
def Xp (body:List PV->List Tok->Int->Int->Int->Ts->RK->Prop):Zo:=fun args σ K=>match args,σ with
 | .ptr 0 0::rest,⟨[.cells t [.d (.sl rows),.d (.int .i64 a),.d (.int .i64 en),.d (.int .i64 dp)]],[],0⟩=>∃L ts,rows=ZM L/\ROK L a ts /\
   body rest L en dp a ts fun pe a' dp'=>K pe ⟨[.cells t [.d (.sl (ZM L)),.d (.int .i64 a'),.d (.int .i64 en),.d (.int .i64 dp')]],[],0⟩
 | _,_=>False
theorem Zpj {body:List PV->List Tok->Int->Int->Int->Ts->RK->Prop} (hb:∀rest L en dp a ts (K K':RK),(∀pe a d,K pe a d->K' pe a d)->body rest L en dp a ts K->body rest L en dp a ts K'):ZK (Xp body):=fun args σ K K' hK h=>by
 unfold Xp at h |-
 split at h
 ·obtain ⟨L,ts,h1,h2,h3⟩:=h;exact ⟨L,ts,h1,h2,hb _ _ _ _ _ _ _ _ (fun pe a d hk=>hK _ _ hk) h3⟩
 exact h.elim
def Um:Zo:=fun args σ K=>match args,σ with
 | [.d (.str s)],⟨[],[],0⟩=>∀n:Int,(YO s:Int)=n->K (.ret (.d (.int .u8 n))) ⟨[],[],0⟩
 | _,_=>False
def ZhO:Zo:=fun args σ K=>match args,σ with
 | [.d (.str s)],⟨[],[],0⟩=>∀b,Zml s=b->K (.ret (.d (.bool b))) ⟨[],[],0⟩
 | _,_=>False
def Zea (s:Bs):Nat->List Bs->Int
 | _,[]=>-1
 | i,w::ws=>if s=w then i else Zea s (i+1) ws
def Zgd:Zo:=fun args σ K=>match args,σ with
 | [.d (.sl rows),.d (.str s)],⟨[],[],0⟩=>∃ws:List Bs,rows=ws.map ZY/\ws.length<=1048576/\K (.ret (.d (.int .i64 (Zea s 0 ws)))) ⟨[],[],0⟩
 | _,_=>False
def ZaY:Zo:=fun args σ K=>match args,σ with
 | [.d (.sl rows),.d (.str s)],⟨[],[],0⟩=>∃ws:List Bs,rows=ws.map ZY/\ws.length<=1048576/\∀b,ws.contains s=b->K (.ret (.d (.bool b))) ⟨[],[],0⟩
 | _,_=>False
def Zad:Zo:=Xp fun rest L en dp a ts K=>match rest with
 | [.d (.int .i64 n)]=>∀fin,(n=0/\K (.ret (.agg [.d (.int .u8 (hd ts).kind),.d (.str (hd ts).text),.d (.int .i64 (hd ts).n),.d (.int .i64 (Ze L en ts.length)),.d (.int .i64 fin)])) a dp) \/
   (n=1/\K (.ret (.agg [.d (.int .u8 (hd ts.tail).kind),.d (.str (hd ts.tail).text),.d (.int .i64 (hd ts.tail).n),.d (.int .i64 (Ze L en ts.tail.length)),.d (.int .i64 fin)])) a dp)
 | _=>False
def Wv:Zo:=Xp fun rest L en dp a ts K=>match rest with
 | []=>K (.ret (.d (.int .i64 (Ze L en ts.length)))) a dp
 | _=>False
def ZhP:Zo:=Xp fun rest L en dp a ts K=>match rest with
 | [.d (.sl rows)]=>∃ws:List Bs,rows=ws.map ZY/\ws.length<=1048576/\∀b,isW ts ws=b->K (.ret (.d (.bool b))) a dp
 | _=>False
def Jy (p:Ts->Bool):Zo:=Xp fun rest L en dp a ts K=>match rest with
 | []=>∀b,p ts=b->K (.ret (.d (.bool b))) a dp
 | _=>False
def YU:Zo:=Xp fun rest L en dp a ts K=>match rest with
 | [.d (.int .i64 e)]=>K (.panic (.iface 204 (.agg [.d (.int .i64 (Ze L en ts.length)),.d (.int .i64 e)]))) a dp
 | _=>False
theorem Zjj:ZK YU:=Zpj fun rest L en dp a ts K K' hK h=>by
 split at h
 ·exact hK _ _ _ h
 exact h.elim
def XZ:Zo:=Xp fun rest L en dp a ts K=>match rest with
 | [.d (.sl rows)]=>∃ws:List Bs,rows=ws.map ZY/\ws.length<=1048576/\(isW ts ws=true->ROK L (a+1) ts.tail->K (.ret (.d (.bool true))) (a+1) dp)/\(isW ts ws=false->K (.ret (.d (.bool false))) a dp)
 | _=>False
def ZkE:Zo:=Xp fun rest L en dp a ts K=>match rest with
 | [.d (.int .i64 n),.d (.int .i64 m)]=>(n=m->K (.panic (flt L en ts.length 3)) a dp)/\(n≠m->K (.ret (.tuple [])) (a+1) dp)
 | _=>False
def spR {α:Type} (enc:List Tok->Int->α->PV) (P:Ts->R α) (lo:Int):Zo:=Xp fun rest L en dp a ts K=>match rest with
 | []=>∀x,P ts=x->RKk (enc L en) L en dp (a+lo) x K
 | _=>False
def Xr:Zo:=Xp fun rest L en dp a ts K=>match rest with
 | [.d (.str w)]=>∀x,ZW w ts=x->RKk (fun _=>.tuple []) L en dp (a+1) x K
 | _=>False
abbrev Xx:Zo:=spR (fun _ _ (v:Bs)=>.d (.str v)) XV 1
end Go.PM.Lex
end
end

section
namespace Go.PM.Lex
open Go.Proofs
variable {w0:World} {nG:Nat}
theorem ZaZ:PC w0 nG 166 Um:=by
 refine Zd Zc mixed (tbl:=[]) trivial Tryz.func166 rfl kR kR ?_;intro args σ K h
 unfold Um at h
 split at h
 ·rename_i s
  refine ⟨Zb [],0,false,sM,Ta rfl,?_⟩
  repeat' ((conv=>whnf);refine ZDc (fun hc=>?_) (fun hc=>?_))
  all_goals (conv=>whnf)
  all_goals exact h _ (by simp [YO, *])
 exact h.elim
noncomputable def ZvN:Tbl:=[(166,Um)]
theorem Zjk:PC w0 nG 109 ZhO:=by
 refine Zd Zc mixed (tbl:=ZvN) ⟨ZaZ,trivial⟩ Tryz.func109 rfl kR kR ?_;intro args σ K h
 unfold ZhO at h
 split at h
 ·rename_i s
  refine ⟨Zb [],0,false,sM,Ta rfl,?_⟩
  repeat' ((conv=>whnf);refine ZDc (fun hc=>?_) (fun hc=>?_))
  all_goals (conv=>whnf)
  all_goals first
   | contradiction
   | exact h _ (by subst_vars;decide)
   | skip
  intro n hn
  conv=>whnf
  refine h _ ?_;have hk:keptWords.contains s=false:=by
   have:¬s∈keptWords:=by
    simp only [keptWords,Tr,List.not_mem_nil,or_false,not_or]
    repeat' (first | assumption | refine ⟨by assumption,?_⟩)
   rw [Bool.eq_false_iff];intro g
   exact this (List.contains_iff_mem.1 g)
  rw [Zml,hk,<- hn]
  by_cases h0:YO s=0 <;> simp [h0]
 exact h.elim
theorem Ze3 (s w:Bs) (i:Nat) (ws:List Bs):Zea s i (w::ws)=if s=w then (i:Int) else Zea s (i+1) ws:=rfl
theorem ZhQ (s:Bs):∀(ws:List Bs) (i:Nat),(0<=Zea s i ws)↔ws.contains s=true
 | [],i=>by simp [Zea]
 | w::ws,i=>by
  rw [Ze3];split
  ·rename_i h;subst h;simp
  rename_i h;rw [ZhQ s ws];simp [h]
theorem Zmq (s:Bs) (ws:List Bs) (i:Nat) (h:i<ws.length):Zea s i (ws.drop i)=if s=ws[i] then (i:Int) else Zea s (i+1) (ws.drop (i+1)):=by
 rw [TH h,Ze3]
theorem Zpk:PC w0 nG 219 Zgd:=by
 refine Zd Zc mixed (tbl:=[]) trivial Tryz.func219 rfl kR kR ?_;intro args σ K h
 unfold Zgd at h
 split at h
 ·rename_i rows s
  obtain ⟨ws,rfl,hw,h⟩:=h;refine ⟨Zb [(2,⟨[8],[0,1,7],fun vs σ=>∃i:Nat,vs=[.d (.int .i64 i)]/\σ=⟨[],[],0⟩/\i<=ws.length/\Zea s 0 ws=Zea s i (ws.drop i),mu1 ws.length⟩)],0,false,sM,Ta rfl,wN ?_⟩;refine ⟨⟨0,rfl,rfl,oM,rfl⟩,?_⟩;intro vs σ hI
  obtain ⟨i,rfl,rfl,hi,hx⟩:=hI;(conv=>whnf);refine ZDc (fun hc=>wN ?_) (fun hc=>wN ?_)
  ·have hc:i<ws.length:=by have hc:(i:Int)<((ws.map ZY).length:Int):=hc;rw [Tf] at hc;omega
   refine ⟨ZY ws[i],oM,by simp [hc],wN ?_⟩;rw [Zmq s ws i hc] at hx;refine ZDc (fun h1=>wN ?_) (fun h1=>wN ?_)
   ·rw [hx,Tj h1] at h;exact h
   rw [Tg h1] at hx;refine Or.inl ⟨InR.i64 oM oM,wN ?_⟩;refine ⟨⟨i+1,rfl,rfl,oM,hx⟩,?_⟩;exact lzM oM
  have hc:ws.length<=i:=by have hc:¬(i:Int)<((ws.map ZY).length:Int):=hc;rw [Tf] at hc;omega
  rw [TJ hc] at hx;rw [hx] at h;exact h
 exact h.elim
noncomputable def ZvO:Tbl:=[(219,Zgd)]
theorem Zjl:PC w0 nG 184 ZaY:=by
 refine Zd Zc mixed (tbl:=ZvO) ⟨Zpk,trivial⟩ Tryz.func184 rfl kR kR ?_;intro args σ K h
 unfold ZaY at h
 split at h
 ·rename_i rows s
  obtain ⟨ws,rfl,hw,h⟩:=h;refine ⟨Zb [],0,false,sM,Ta rfl,wN ?_⟩;refine ⟨ws,rfl,hw,wN ?_⟩;exact h _ (by rw [Bool.eq_iff_iff,TM,<- ZhQ s ws 0])
 exact h.elim
theorem Jz:PC w0 nG 183 Zad:=by
 refine Zd Zc mixed (tbl:=[]) trivial Tryz.func183 rfl kR kR ?_;intro args σ K h
 unfold Zad Xp at h
 split at h
 ·rename_i t rows a en dp
  obtain ⟨L,ts,rfl,ho,h⟩:=h;split at h
  ·rename_i n
   have hl:=ho.len;have h0:=ho.lo;have h1:=ho.hi;have h2:=ho.big;have hn:n=0\/n=1:=by rcases h 0 with g | g <;> simp [g.1]
   refine ⟨Zb [],1,false,sM,Ta rfl,wN ?_⟩;refine Or.inl ⟨InR.i64 oM oM,wN ?_⟩;refine ZDc (fun hc=>?_) (fun hc=>wN ?_)
   ·have hc:a+n<L.length:=by have hc:a+n<((ZM L).length:Int):=hc;rw [XP] at hc;exact hc
    rcases hn with rfl | rfl
    ·cases ts with
     | nil=>simp at hl;omega
     | cons t0 ts =>
     obtain ⟨x,hx,rfl,hp⟩:=ho.get;(conv=>whnf);refine ⟨Zyy x,oM,by simp [ZM,hx],wN ?_⟩;have h:=h x.fin;rw [Tc,hp] at h;rcases h with h | h
     ·exact h.2
     exact absurd h.1 oM
    cases ts with
    | nil=>simp at hl;omega
    | cons t1 ts =>
    cases ts with
    | nil=>simp at hl;omega
    | cons t0 ts =>
    obtain ⟨x,hx,rfl,hp⟩:=ho.next.get;(conv=>whnf);refine ⟨Zyy x,oM,by simp [ZM,hx],wN ?_⟩;have h:=h x.fin;simp only [List.tail_cons,Tc,hp] at h;rcases h with h | h
    ·exact absurd h.1 oM
    exact h.2
   have hc:¬a+n<L.length:=by have hc:¬a+n<((ZM L).length:Int):=hc;rw [XP] at hc;exact hc
   have h:=h 0;rcases hn with rfl | rfl
   ·cases ts with
    | nil => rcases h with h | h
             ·have h:=h.2;simp only [Td,ZbG] at h;exact h
             exact absurd h.1 oM
    | cons t0 ts=>simp at hl;omega
   have:ts.tail=[]:=by
    cases ts with
    | nil=>rfl
    | cons t1 ts=>cases ts with
     | nil=>rfl
     | cons t0 ts=>simp at hl;omega
   rw [this] at h;rcases h with h | h
   ·exact absurd h.1 oM
   have h:=h.2;simp only [Td,ZbG] at h;exact h
  exact h.elim
 exact h.elim
noncomputable def ZkF:Tbl:=[(183,Zad)]
theorem Zst (ht:TO w0 nG ZkF):PC w0 nG 139 Wv:=by
 refine Zd Zc mixed (tbl:=ZkF) ht Tryz.func139 rfl kR kR ?_;intro args σ K h
 unfold Wv Xp at h
 split at h
 ·rename_i rest t rows a en dp
  obtain ⟨L,ts,rfl,ho,h⟩:=h;split at h
  ·skip
   refine ⟨Zb [],1,false,sM,Ta rfl,wN ?_⟩;refine ⟨L,ts,rfl,ho,fun fin=>Or.inl ⟨rfl,wN ?_⟩⟩;exact h
  exact h.elim
 exact h.elim
noncomputable def ZyC:Tbl:=[(183,Zad),(184,ZaY)]
theorem ZA7 (ht:TO w0 nG ZyC):PC w0 nG 134 ZhP:=by
 refine Zd Zc mixed (tbl:=ZyC) ht Tryz.func134 rfl kR kR ?_;intro args σ K h
 unfold ZhP Xp at h
 split at h
 ·rename_i rest t rows a en dp
  obtain ⟨L,ts,rfl,ho,h⟩:=h;split at h
  ·rename_i rows
   obtain ⟨ws,rfl,hw,h⟩:=h;refine ⟨Zb [],1,false,sM,Ta rfl,wN ?_⟩;refine ⟨L,ts,rfl,ho,fun fin=>Or.inl ⟨rfl,wN ?_⟩⟩;refine ZDc (fun h1=>wN ?_) (fun h1=>wN ?_)
   ·refine ⟨ws,rfl,hw,fun b hb=>wN ?_⟩;exact h _ (by simp only [isW,hb];simp [show (hd ts).kind=1 by omega])
   refine ZDc (fun h2=>wN ?_) (fun h2=>wN ?_)
   ·refine ⟨ws,rfl,hw,fun b hb=>wN ?_⟩;exact h _ (by simp only [isW,hb];simp [show (hd ts).kind=4 by omega])
   exact h _ (by simp [isW,show ¬(hd ts).kind=1 by omega,show ¬(hd ts).kind=4 by omega])
  exact h.elim
 exact h.elim
noncomputable def ZkG:Tbl:=[(183,Zad),(109,ZhO)]
theorem Zsu (ht:TO w0 nG ZkG):PC w0 nG 143 (Jy ZE):=by
 refine Zd Zc mixed (tbl:=ZkG) ht Tryz.func143 rfl kR kR ?_;intro args σ K h
 unfold Jy Xp at h
 split at h
 ·rename_i rest t rows a en dp
  obtain ⟨L,ts,rfl,ho,h⟩:=h;split at h
  ·skip
   refine ⟨Zb [],1,false,sM,Ta rfl,wN ?_⟩;refine ⟨L,ts,rfl,ho,fun fin=>Or.inl ⟨rfl,wN ?_⟩⟩;refine ZDc (fun h1=>wN ?_) (fun h1=>wN ?_)
   ·refine ZDe (fun h2=>wN ?_) (fun h2=>wN ?_)
    ·intro b hb
     conv=>whnf
     exact h _ (by simp only [ZE,hb];rw [Ss (show (hd ts).kind=1 by omega),decide_eq_false h2];simp)
    exact h _ (by simp only [ZE];rw [Ss (p:=(hd ts).text=[95]) h2];simp)
   exact h _ (by simp [ZE,show ¬(hd ts).kind=1 by omega])
  exact h.elim
 exact h.elim
noncomputable def Zpl:Tbl:=[(139,Wv)]
theorem ZvP (ht:TO w0 nG Zpl):PC w0 nG 133 YU:=by
 refine Zd Zc mixed (tbl:=Zpl) ht Tryz.func133 rfl kR kR ?_;intro args σ K h
 unfold YU Xp at h
 split at h
 ·rename_i rest t rows a en dp
  obtain ⟨L,ts,rfl,ho,h⟩:=h;split at h
  ·skip
   refine ⟨Zb [],1,false,sM,Ta rfl,wN ?_⟩;refine ⟨L,ts,rfl,ho,wN ?_⟩;exact h
  exact h.elim
 exact h.elim
noncomputable def Zpm:Tbl:=[(134,ZhP)]
theorem ZvQ (ht:TO w0 nG Zpm):PC w0 nG 185 XZ:=by
 refine Zd Zc mixed (tbl:=Zpm) ht Tryz.func185 rfl kR kR ?_;intro args σ K h
 unfold XZ Xp at h
 split at h
 ·rename_i rest t rows a en dp
  obtain ⟨L,ts,rfl,ho,h⟩:=h;split at h
  ·rename_i rows
   obtain ⟨ws,rfl,hw,h1,h2⟩:=h;refine ⟨Zb [],1,false,sM,Ta rfl,wN ?_⟩;refine ⟨L,ts,rfl,ho,ws,rfl,hw,fun b hb=>?_⟩
   cases b with
   | true =>
    have aj:=ho.tl (Ul hb);have g1:=ho.lo;have g2:=aj.hi;have g3:=aj.big;(conv=>whnf);refine Or.inl ⟨InR.i64 oM oM,wN ?_⟩;exact h1 hb aj
   | false =>
   conv=>whnf
   exact h2 hb
  exact h.elim
 exact h.elim
noncomputable def Zpn:Tbl:=[(185,XZ),(133,YU)]
theorem ZvR (ht:TO w0 nG Zpn):PC w0 nG 141 Xr:=by
 refine Zd Zc mixed (tbl:=Zpn) ht Tryz.func141 rfl kR kR ?_;intro args σ K h
 unfold Xr Xp at h
 split at h
 ·rename_i rest t rows a en dp
  obtain ⟨L,ts,rfl,ho,h⟩:=h;split at h
  ·rename_i w
   refine ⟨Zb [],1,false,sM,Ta rfl,wN ?_⟩;refine ⟨L,ts,rfl,ho,[w],rfl,sM,fun hb aj=>wN ?_,fun hb=>wN ?_⟩
   ·have h:=h _ rfl;rw [ZW,Tj hb] at h;exact h _ oM aj
   refine ⟨L,ts,rfl,ho,wN ?_⟩;have h:=h _ rfl;rw [ZW,Tg (by rw [hb];simp)] at h;exact h _ _
  exact h.elim
 exact h.elim
noncomputable def Zpo:Tbl:=[(133,YU)]
theorem ZvS (ht:TO w0 nG Zpo):PC w0 nG 135 ZkE:=by
 refine Zd Zc mixed (tbl:=Zpo) ht Tryz.func135 rfl kR kR ?_;intro args σ K h
 unfold ZkE Xp at h
 split at h
 ·rename_i rest t rows a en dp
  obtain ⟨L,ts,rfl,ho,h⟩:=h;split at h
  ·rename_i n m
   refine ⟨Zb [],1,false,sM,Ta rfl,wN ?_⟩;have g1:=ho.lo;have g2:=ho.hi;have g3:=ho.big;refine ZDc (fun hc=>wN ?_) (fun hc=>wN ?_)
   ·refine ⟨L,ts,rfl,ho,wN ?_⟩;exact h.1 hc
   refine Or.inl ⟨InR.i64 oM oM,wN ?_⟩;exact h.2 hc
  exact h.elim
 exact h.elim
noncomputable def ZkH:Tbl:=[(143,(Jy ZE)),(133,YU)]
theorem Zsv (ht:TO w0 nG ZkH):PC w0 nG 140 Xx:=by
 refine Zd Zc mixed (tbl:=ZkH) ht Tryz.func140 rfl kR kR ?_;intro args σ K h
 unfold Xx spR Xp at h
 split at h
 ·rename_i rest t rows a en dp
  obtain ⟨L,ts,rfl,ho,h⟩:=h;split at h
  ·skip
   refine ⟨Zb [],1,false,sM,Ta rfl,wN ?_⟩;have h:=h _ rfl;refine ⟨L,ts,rfl,ho,fun b hb=>?_⟩
   cases b with
   | true =>
    have aj:=ho.tl (ZhM hb);have g1:=ho.lo;have g2:=aj.hi;have g3:=aj.big;rw [XV,Tj hb] at h;(conv=>whnf);refine Or.inl ⟨InR.i64 oM oM,wN ?_⟩;refine Or.inl ⟨InR.i64 oM oM,wN ?_⟩
    cases ts with
    | nil=>exact absurd rfl (ZhM hb)
    | cons t0 ts =>
    obtain ⟨x,hx,rfl,hp⟩:=ho.get;refine ⟨Zyy x,oM,by rw [show a+1 - 1=a by omega];simp [ZM,hx],wN ?_⟩;exact h _ oM aj
   | false =>
   rw [XV,Tg (by rw [hb];simp)] at h;(conv=>whnf);exact m74
  exact h.elim
 exact h.elim
noncomputable def ZhR:Tbl:=[(183,Zad),(134,ZhP),(109,ZhO),(166,Um)]
theorem Zpp (ht:TO w0 nG ZhR):PC w0 nG 224 (Jy ZV):=by
 refine Zd Zc mixed (tbl:=ZhR) ht Tryz.func224 rfl kR kR ?_;intro args σ K h
 unfold Jy Xp at h
 split at h
 ·rename_i rest t rows a en dp
  obtain ⟨L,ts,rfl,ho,h⟩:=h;split at h
  ·skip
   refine ⟨Zb [],1,false,sM,Ta rfl,wN ?_⟩;refine ⟨L,ts,rfl,ho,fun fin=>Or.inl ⟨rfl,wN ?_⟩⟩;refine ZDc (fun h1=>wN ?_) (fun h1=>wN ?_)
   ·refine ZDc (fun _=>wN ?_) (fun g=>absurd h1 g);exact h _ (by rw [ZV,Tj oM])
   refine ZDc (fun h2=>wN ?_) (fun h2=>wN ?_)
   ·exact h _ (by rw [ZV,Tj oM])
   refine ZDc (fun h3=>wN ?_) (fun h3=>wN ?_)
   ·refine ⟨L,ts,rfl,ho,[[45],[126],[40],[91],[36]],rfl,sM,fun b hb=>wN ?_⟩;exact h _ (by rw [ZV,Tg oM,Tj oM];exact hb)
   refine ZDc (fun h4=>wN ?_) (fun h4=>wN ?_)
   ·have e0:ZV ts=(!Zml (hd ts).text || (decide ((hd ts).text=[110,105,108]) || decide (YO (hd ts).text≠0))):=by rw [ZV,Tg oM,Tg oM,Tj oM]
    rw [e0] at h;intro b hb
    rw [hb] at h
    cases b with
    | false => conv => whnf
               exact h _ rfl
    | true =>
    conv=>whnf
    refine ZDc (fun h5=>wN ?_) (fun h5=>wN ?_)
    ·exact h _ (by rw [Ss (p:=(hd ts).text=[110,105,108]) h5];rfl)
    intro n hn
    conv=>whnf
    exact h _ (by rw [decide_eq_false (p:=(hd ts).text=[110,105,108]) h5,<- hn];by_cases g:YO (hd ts).text=0 <;> simp [g])
   exact h _ (by rw [ZV,Tg oM,Tg oM,Tg oM])
  exact h.elim
 exact h.elim
noncomputable def Zsw:Zo:=Xp fun rest L en dp a ts K=>match rest with
 | []=>∀n k:Int,((ZaU ts).1:Int)=n->((ZaU ts).2:Int)=k->K (.ret (.tuple [.d (.int .i64 n),.d (.int .u8 k)])) a dp
 | _=>False
noncomputable def ZtZ:Tbl:=[(183,Zad)]
theorem Zpq (ht:TO w0 nG ZtZ):PC w0 nG 271 Zsw:=by
 refine Zd Zc mixed (tbl:=ZtZ) ht Tryz.func271 rfl kR kR ?_;intro args σ K h
 unfold Zsw Xp at h
 split at h
 ·rename_i rest t rows a en dp
  obtain ⟨L,ts,rfl,ho,h⟩:=h;split at h
  ·skip
   refine ⟨Zb [],1,false,sM,Ta rfl,wN ?_⟩;refine ⟨L,ts,rfl,ho,fun fin=>Or.inl ⟨rfl,wN ?_⟩⟩;refine ZDe (fun h1=>wN ?_) (fun h1=>?_)
   ·refine ZDe (fun h2=>wN ?_) (fun h2=>?_)
    ·have e0:ZaU ts=(0,0):=by rw [ZaU,Tj oM]
     exact h _ _ (by rw [e0];rfl) (by rw [e0];rfl)
    have hn:¬((hd ts).kind≠1/\(hd ts).kind≠4):=by omega
    clear h1 h2
    exact m105
   have hn:¬((hd ts).kind≠1/\(hd ts).kind≠4):=by omega
   clear h1
   exact m105
  exact h.elim
 exact h.elim
noncomputable def Zpr (body:List PV->List Tok->Int->Int->Int->Ts->RK->Prop):Zo:=fun args σ K=>match args,σ with
 | .ptr 0 0::rest,⟨[.cells t0 [.ptr 1 0],.cells t [.d (.sl rows),.d (.int .i64 a),.d (.int .i64 en),.d (.int .i64 dp)]],[],0⟩=>∃L ts,rows=ZM L/\ROK L a ts /\
   body rest L en dp a ts fun pe a' dp'=>K pe ⟨[.cells t0 [.ptr 1 0],.cells t [.d (.sl (ZM L)),.d (.int .i64 a'),.d (.int .i64 en),.d (.int .i64 dp')]],[],0⟩
 | _,_=>False
noncomputable def ZxN {α:Type} (enc:List Tok->Int->α->PV) (P:Ts->R α) (lo:Int):Zo:=Zpr fun rest L en dp a ts K=>match rest with
 | []=>∀x,P ts=x->RKk (enc L en) L en dp (a+lo) x K
 | _=>False
noncomputable def ZkI (p:Ts->Bool):Zo:=Zpr fun rest L en dp a ts K=>match rest with
 | []=>∀b,p ts=b->K (.ret (.d (.bool b))) a dp
 | _=>False
noncomputable def Zin {α:Type} (enc:List Tok->Int->α->PV) (P:Ts->R α) (lo:Int) (d:Nat):Zo:=Xp fun rest L en dp a ts K=>match rest with
 | []=>(dp=64 - (d:Int)/\0<=dp)/\∀x,P ts=x->RKk (enc L en) L en dp (a+lo) x K
 | _=>False
theorem Zr {α β:Type} (f:α->β) (l:List α) (x:α):l.map f++[f x]=(l++[x]).map f:=sM
theorem Uo {α : Type} (sign : Bs) (au : Nat) (st : Ts -> Bool) (one : Ts -> R α) (f : Nat) (l : List α) (ts : Ts) : Wt sign au st one (f + 1) l ts = if st ts = true /\ l.length = au then .err ts.length 3
      else (one ts).bind fun x ts=>if isW ts [sign]=true then Wt sign au st one f (l++[x]) ts.tail else .ok (l++[x]) ts:=rfl
noncomputable def JA:Zo:=fun args σ K=>match args,σ with
 | [.ptr 0 0,.d (.str sg),.d (.int .i64 m),.func g1 [.ptr 0 0] [],.func g2 [] [.ptr 1 0]],⟨[.cells t [.d (.sl rows),.d (.int .i64 a),.d (.int .i64 en),.d (.int .i64 dp)],.cells t0 [.ptr 0 0]],[],0⟩ =>
   (sg=[44]/\m=12/\g1=143/\g2=221)/\∃L ts,rows=ZM L/\ROK L a ts/\∀x,XW [44] 12 ZE Uk ts=x ->
    RKk (fun (l:List Fi)=>.d (.sl (l.map (Zw)))) L en dp a x fun pe a' dp'=>K pe ⟨[.cells t [.d (.sl (ZM L)),.d (.int .i64 a'),.d (.int .i64 en),.d (.int .i64 dp')],.cells t0 [.ptr 0 0]],[],0⟩
 | _,_=>False
noncomputable def ZbH:Tbl:=[(143,(Jy ZE)),(133,YU),(221,(ZxN (fun _ _ (v:Fi)=>ZaX (Zw v)) Uk 1)),(185,XZ)]
theorem ZhS (ht:TO w0 nG (ZbH)):PC w0 nG 220 (JA):=by
 refine Zd Zc mixed (tbl:=ZbH) ht Tryz.func220 rfl kR kR ?_;intro args σ K h
 unfold JA at h
 split at h
 ·rename_i sg m g1 g2 t rows a en dp t0
  obtain ⟨⟨rfl,rfl,rfl,rfl⟩,L,ts,rfl,ho,h⟩:=h;have h:=h _ rfl;have hl:=ho.len;have dc:=ho.big;have kc:=ho.lo;refine ⟨Zb [(2,⟨[11],[0,1,2,3,4],fun vs σ=>∃(l:List Fi) (a':Int) (ts':Ts) (f:Nat),vs=[.sl 0 71 (l.map (Zw))] /\
   σ=⟨[.cells t [.d (.sl (ZM L)),.d (.int .i64 a'),.d (.int .i64 en),.d (.int .i64 dp)],.cells t0 [.ptr 0 0]],[0],1⟩/\ROK L a' ts'/\a+l.length<=a'/\ts'.length<f /\
   XW [44] 12 ZE Uk ts=Wt [44] 12 ZE Uk f l ts',
   fun _ σ=>match σ with | ⟨.cells _ [_,.d (.int _ i),_,_]::_,_,_⟩=>((L.length:Int) - i).toNat | _=>0⟩)],2,false,sM,Ta rfl,?_⟩
  conv=>whnf
  refine ⟨⟨[],a,ts,ts.length+1,rfl,rfl,ho,sM,oM,rfl⟩,?_⟩;intro vs σ hI
  obtain ⟨l,a1,ts1,f,rfl,rfl,av,x9,hf,hm⟩:=hI;obtain ⟨f,rfl⟩:∃g,f=g+1:=⟨f - 1,oM⟩
  rw [Uo] at hm;have cn:=av.len;have pg:=av.hi;(conv=>whnf);refine ⟨L,ts1,rfl,av,fun b hb=>?_⟩;have step:(¬(ZE ts1=true/\l.length=12))->XW [44] 12 ZE Uk ts=((Uk) ts1).bind fun x ts=>if isW ts [[44]]=true then Wt [44] 12 ZE Uk f (l++[x]) ts.tail else .ok (l++[x]) ts:=fun g=>by rw [hm,Tg g]
  cases b with
  | false =>
   have step:=step (by rw [hb];simp);(conv=>whnf);exact m22
  | true =>
  conv=>whnf
  refine ZDc (fun hc=>wN ?_) (fun hc=>wN ?_)
  ·have hc:l.length=12:=by
    have hc:((l.map (Zw)).length:Int)=12:=hc;rw [Tf] at hc;omega
   exact m73
  have step:=step (fun g=>hc (by show ((l.map (Zw)).length:Int)=12;rw [Tf,g.2];rfl));exact m22
 exact h.elim
noncomputable def Zdk:Zo:=fun args σ K=>match args,σ with
 | [.ptr 0 0,.d (.str sg),.d (.int .i64 m),.func g1 [.ptr 0 0] [],.func g2 [.ptr 0 0] []],⟨[.cells t [.d (.sl rows),.d (.int .i64 a),.d (.int .i64 en),.d (.int .i64 dp)]],[],0⟩ =>
   (sg=[44]/\m=12/\g1=143/\g2=140)/\∃L ts,rows=ZM L/\ROK L a ts/\∀x,XW [44] 12 ZE XV ts=x ->
    RKk (fun (l:List Bs)=>.d (.sl (l.map (ZY)))) L en dp a x fun pe a' dp'=>K pe ⟨[.cells t [.d (.sl (ZM L)),.d (.int .i64 a'),.d (.int .i64 en),.d (.int .i64 dp')]],[],0⟩
 | _,_=>False
noncomputable def Ze4:Tbl:=[(143,(Jy ZE)),(133,YU),(140,Xx),(185,XZ)]
theorem Zmr (ht:TO w0 nG (Ze4)):PC w0 nG 191 (Zdk):=by
 refine Zd Zc mixed (tbl:=Ze4) ht Tryz.func191 rfl kR kR ?_;intro args σ K h
 unfold Zdk at h
 split at h
 ·rename_i sg m g1 g2 t rows a en dp
  obtain ⟨⟨rfl,rfl,rfl,rfl⟩,L,ts,rfl,ho,h⟩:=h;have h:=h _ rfl;have hl:=ho.len;have dc:=ho.big;have kc:=ho.lo;refine ⟨Zb [(2,⟨[11],[0,1,2,3,4],fun vs σ=>∃(l:List Bs) (a':Int) (ts':Ts) (f:Nat),vs=[.sl 0 9 (l.map (ZY))] /\
   σ=⟨[.cells t [.d (.sl (ZM L)),.d (.int .i64 a'),.d (.int .i64 en),.d (.int .i64 dp)]],[0],1⟩/\ROK L a' ts'/\a+l.length<=a'/\ts'.length<f /\
   XW [44] 12 ZE XV ts=Wt [44] 12 ZE XV f l ts',
   fun _ σ=>match σ with | ⟨.cells _ [_,.d (.int _ i),_,_]::_,_,_⟩=>((L.length:Int) - i).toNat | _=>0⟩)],1,false,sM,Ta rfl,?_⟩
  conv=>whnf
  refine ⟨⟨[],a,ts,ts.length+1,rfl,rfl,ho,sM,oM,rfl⟩,?_⟩;intro vs σ hI
  obtain ⟨l,a1,ts1,f,rfl,rfl,av,x9,hf,hm⟩:=hI;obtain ⟨f,rfl⟩:∃g,f=g+1:=⟨f - 1,oM⟩
  rw [Uo] at hm;have cn:=av.len;have pg:=av.hi;(conv=>whnf);refine ⟨L,ts1,rfl,av,fun b hb=>?_⟩;have step:(¬(ZE ts1=true/\l.length=12))->XW [44] 12 ZE XV ts=((XV) ts1).bind fun x ts=>if isW ts [[44]]=true then Wt [44] 12 ZE XV f (l++[x]) ts.tail else .ok (l++[x]) ts:=fun g=>by rw [hm,Tg g]
  cases b with
  | false =>
   have step:=step (by rw [hb];simp);(conv=>whnf);exact m24
  | true =>
  conv=>whnf
  refine ZDc (fun hc=>wN ?_) (fun hc=>wN ?_)
  ·have hc:l.length=12:=by
    have hc:((l.map (ZY)).length:Int)=12:=hc;rw [Tf] at hc;omega
   exact m73
  have step:=step (fun g=>hc (by show ((l.map (ZY)).length:Int)=12;rw [Tf,g.2];rfl));exact m24
 exact h.elim
noncomputable def Za0:Zo:=fun args σ K=>match args,σ with
 | [.ptr 0 0,.d (.str sg),.d (.int .i64 m),.func g1 [.ptr 0 0] [],.func g2 [] [.ptr 1 0]],⟨[.cells t [.d (.sl rows),.d (.int .i64 a),.d (.int .i64 en),.d (.int .i64 dp)],.cells t0 [.ptr 0 0]],[],0⟩ =>
   (sg=[124]/\m=64/\g1=143/\g2=188)/\∃L ts,rows=ZM L/\ROK L a ts/\∀x,XW [124] 64 ZE Zdf ts=x ->
    RKk (fun (l:List Ca)=>.d (.sl (l.map (Zn)))) L en dp a x fun pe a' dp'=>K pe ⟨[.cells t [.d (.sl (ZM L)),.d (.int .i64 a'),.d (.int .i64 en),.d (.int .i64 dp')],.cells t0 [.ptr 0 0]],[],0⟩
 | _,_=>False
noncomputable def Zdl:Tbl:=[(143,(Jy ZE)),(133,YU),(188,(ZxN (fun _ _ (v:Ca)=>ZaX (Zn v)) Zdf 1)),(185,XZ)]
theorem Zjm (ht:TO w0 nG (Zdl)):PC w0 nG 187 (Za0):=by
 refine Zd Zc mixed (tbl:=Zdl) ht Tryz.func187 rfl kR kR ?_;intro args σ K h
 unfold Za0 at h
 split at h
 ·rename_i sg m g1 g2 t rows a en dp t0
  obtain ⟨⟨rfl,rfl,rfl,rfl⟩,L,ts,rfl,ho,h⟩:=h;have h:=h _ rfl;have hl:=ho.len;have dc:=ho.big;have kc:=ho.lo;refine ⟨Zb [(2,⟨[11],[0,1,2,3,4],fun vs σ=>∃(l:List Ca) (a':Int) (ts':Ts) (f:Nat),vs=[.sl 0 51 (l.map (Zn))] /\
   σ=⟨[.cells t [.d (.sl (ZM L)),.d (.int .i64 a'),.d (.int .i64 en),.d (.int .i64 dp)],.cells t0 [.ptr 0 0]],[0],1⟩/\ROK L a' ts'/\a+l.length<=a'/\ts'.length<f /\
   XW [124] 64 ZE Zdf ts=Wt [124] 64 ZE Zdf f l ts',
   fun _ σ=>match σ with | ⟨.cells _ [_,.d (.int _ i),_,_]::_,_,_⟩=>((L.length:Int) - i).toNat | _=>0⟩)],2,false,sM,Ta rfl,?_⟩
  conv=>whnf
  refine ⟨⟨[],a,ts,ts.length+1,rfl,rfl,ho,sM,oM,rfl⟩,?_⟩;intro vs σ hI
  obtain ⟨l,a1,ts1,f,rfl,rfl,av,x9,hf,hm⟩:=hI;obtain ⟨f,rfl⟩:∃g,f=g+1:=⟨f - 1,oM⟩
  rw [Uo] at hm;have cn:=av.len;have pg:=av.hi;(conv=>whnf);refine ⟨L,ts1,rfl,av,fun b hb=>?_⟩;have step:(¬(ZE ts1=true/\l.length=64))->XW [124] 64 ZE Zdf ts=((Zdf) ts1).bind fun x ts=>if isW ts [[124]]=true then Wt [124] 64 ZE Zdf f (l++[x]) ts.tail else .ok (l++[x]) ts:=fun g=>by rw [hm,Tg g]
  cases b with
  | false =>
   have step:=step (by rw [hb];simp);(conv=>whnf);exact m21
  | true =>
  conv=>whnf
  refine ZDc (fun hc=>wN ?_) (fun hc=>wN ?_)
  ·have hc:l.length=64:=by
    have hc:((l.map (Zn)).length:Int)=64:=hc;rw [Tf] at hc;omega
   exact m73
  have step:=step (fun g=>hc (by show ((l.map (Zn)).length:Int)=64;rw [Tf,g.2];rfl));exact m21
 exact h.elim
noncomputable def Zae (d:Nat):Zo:=fun args σ K=>match args,σ with
 | [.ptr 0 0,.d (.str sg),.d (.int .i64 m),.func g1 [.ptr 0 0] [],.func g2 [.ptr 0 0] []],⟨[.cells t [.d (.sl rows),.d (.int .i64 a),.d (.int .i64 en),.d (.int .i64 dp)]],[],0⟩ =>
   (sg=[44]/\m=12/\g1=224/\g2=225/\(dp=64 - (d:Int)/\0<=dp))/\∃L ts,rows=ZM L/\ROK L a ts/\∀x,XW [44] 12 ZV (Zac d) ts=x ->
    RKk (fun (l:List Ex)=>.d (.sl (l.map (YP (Ze L en))))) L en dp a x fun pe a' dp'=>K pe ⟨[.cells t [.d (.sl (ZM L)),.d (.int .i64 a'),.d (.int .i64 en),.d (.int .i64 dp')]],[],0⟩
 | _,_=>False
noncomputable def ZhT (d:Nat):Tbl:=[(224,(Jy ZV)),(133,YU),(225,(Zin (fun L en (v:Ex)=>ZaX (YP (Ze L en) v)) (Zac d) 0 d)),(185,XZ)]
theorem Zps (d:Nat) (ht:TO w0 nG (ZhT d)):PC w0 nG 223 (Zae d):=by
 refine Zd Zc mixed (tbl:=ZhT d) ht Tryz.func223 rfl kR kR ?_;intro args σ K h
 unfold Zae at h
 split at h
 ·rename_i sg m g1 g2 t rows a en dp
  obtain ⟨⟨rfl,rfl,rfl,rfl,fb⟩,L,ts,rfl,ho,h⟩:=h;have h:=h _ rfl;have hl:=ho.len;have dc:=ho.big;have kc:=ho.lo;refine ⟨Zb [(2,⟨[11],[0,1,2,3,4],fun vs σ=>∃(l:List Ex) (a':Int) (ts':Ts) (f:Nat),vs=[.sl 0 74 (l.map (YP (Ze L en)))] /\
   σ=⟨[.cells t [.d (.sl (ZM L)),.d (.int .i64 a'),.d (.int .i64 en),.d (.int .i64 dp)]],[0],1⟩/\ROK L a' ts'/\a+l.length<=a'/\ts'.length<f /\
   XW [44] 12 ZV (Zac d) ts=Wt [44] 12 ZV (Zac d) f l ts',
   fun _ σ=>match σ with | ⟨.cells _ [_,.d (.int _ i),_,_]::_,_,_⟩=>((L.length:Int) - i).toNat | _=>0⟩)],1,false,sM,Ta rfl,?_⟩
  conv=>whnf
  refine ⟨⟨[],a,ts,ts.length+1,rfl,rfl,ho,sM,oM,rfl⟩,?_⟩;intro vs σ hI
  obtain ⟨l,a1,ts1,f,rfl,rfl,av,x9,hf,hm⟩:=hI;obtain ⟨f,rfl⟩:∃g,f=g+1:=⟨f - 1,oM⟩
  rw [Uo] at hm;have cn:=av.len;have pg:=av.hi;(conv=>whnf);refine ⟨L,ts1,rfl,av,fun b hb=>?_⟩;have step:(¬(ZV ts1=true/\l.length=12))->XW [44] 12 ZV (Zac d) ts=(((Zac d)) ts1).bind fun x ts=>if isW ts [[44]]=true then Wt [44] 12 ZV (Zac d) f (l++[x]) ts.tail else .ok (l++[x]) ts:=fun g=>by rw [hm,Tg g]
  cases b with
  | false =>
   have step:=step (by rw [hb];simp);(conv=>whnf);exact m19
  | true =>
  conv=>whnf
  refine ZDc (fun hc=>wN ?_) (fun hc=>wN ?_)
  ·have hc:l.length=12:=by
    have hc:((l.map (YP (Ze L en))).length:Int)=12:=hc;rw [Tf] at hc;omega
   exact m73
  have step:=step (fun g=>hc (by show ((l.map (YP (Ze L en))).length:Int)=12;rw [Tf,g.2];rfl));exact m19
 exact h.elim
noncomputable def Zge (d:Nat):Zo:=fun args σ K=>match args,σ with
 | [.ptr 0 0,.d (.str sg),.d (.int .i64 m),.func g1 [] [.ptr 1 0],.func g2 [.ptr 0 0] []],⟨[.cells t [.d (.sl rows),.d (.int .i64 a),.d (.int .i64 en),.d (.int .i64 dp)],.cells t0 [.ptr 0 0]],[],0⟩ =>
   (sg=[44]/\m=32/\g1=227/\g2=228/\(dp=64 - (d:Int)/\0<=dp))/\∃L ts,rows=ZM L/\ROK L a ts/\∀x,XW [44] 32 Z5 (Zmn d (Zd8 d)) ts=x ->
    RKk (fun (l:List Li)=>.d (.sl (l.map (XD (Ze L en))))) L en dp a x fun pe a' dp'=>K pe ⟨[.cells t [.d (.sl (ZM L)),.d (.int .i64 a'),.d (.int .i64 en),.d (.int .i64 dp')],.cells t0 [.ptr 0 0]],[],0⟩
 | _,_=>False
noncomputable def ZhU (d:Nat):Tbl:=[(227,(ZkI Z5)),(133,YU),(228,(Zin (fun L en (v:Li)=>ZaX (XD (Ze L en) v)) (Zmn d (Zd8 d)) 0 d)),(185,XZ)]
theorem Zpt (d:Nat) (ht:TO w0 nG (ZhU d)):PC w0 nG 226 (Zge d):=by
 refine Zd Zc mixed (tbl:=ZhU d) ht Tryz.func226 rfl kR kR ?_;intro args σ K h
 unfold Zge at h
 split at h
 ·rename_i sg m g1 g2 t rows a en dp t0
  obtain ⟨⟨rfl,rfl,rfl,rfl,fb⟩,L,ts,rfl,ho,h⟩:=h;have h:=h _ rfl;have hl:=ho.len;have dc:=ho.big;have kc:=ho.lo;refine ⟨Zb [(2,⟨[11],[0,1,2,3,4],fun vs σ=>∃(l:List Li) (a':Int) (ts':Ts) (f:Nat),vs=[.sl 0 102 (l.map (XD (Ze L en)))] /\
   σ=⟨[.cells t [.d (.sl (ZM L)),.d (.int .i64 a'),.d (.int .i64 en),.d (.int .i64 dp)],.cells t0 [.ptr 0 0]],[0],1⟩/\ROK L a' ts'/\a+l.length<=a'/\ts'.length<f /\
   XW [44] 32 Z5 (Zmn d (Zd8 d)) ts=Wt [44] 32 Z5 (Zmn d (Zd8 d)) f l ts',
   fun _ σ=>match σ with | ⟨.cells _ [_,.d (.int _ i),_,_]::_,_,_⟩=>((L.length:Int) - i).toNat | _=>0⟩)],2,false,sM,Ta rfl,?_⟩
  conv=>whnf
  refine ⟨⟨[],a,ts,ts.length+1,rfl,rfl,ho,sM,oM,rfl⟩,?_⟩;intro vs σ hI
  obtain ⟨l,a1,ts1,f,rfl,rfl,av,x9,hf,hm⟩:=hI;obtain ⟨f,rfl⟩:∃g,f=g+1:=⟨f - 1,oM⟩
  rw [Uo] at hm;have cn:=av.len;have pg:=av.hi;(conv=>whnf);refine ⟨L,ts1,rfl,av,fun b hb=>?_⟩;have step:(¬(Z5 ts1=true/\l.length=32))->XW [44] 32 Z5 (Zmn d (Zd8 d)) ts=(((Zmn d (Zd8 d))) ts1).bind fun x ts=>if isW ts [[44]]=true then Wt [44] 32 Z5 (Zmn d (Zd8 d)) f (l++[x]) ts.tail else .ok (l++[x]) ts:=fun g=>by rw [hm,Tg g]
  cases b with
  | false =>
   have step:=step (by rw [hb];simp);(conv=>whnf);exact m18
  | true =>
  conv=>whnf
  refine ZDc (fun hc=>wN ?_) (fun hc=>wN ?_)
  ·have hc:l.length=32:=by
    have hc:((l.map (XD (Ze L en))).length:Int)=32:=hc;rw [Tf] at hc;omega
   exact m73
  have step:=step (fun g=>hc (by show ((l.map (XD (Ze L en))).length:Int)=32;rw [Tf,g.2];rfl));exact m18
 exact h.elim
noncomputable abbrev Zgf:Zo:=ZxN (fun _ _ (v:Fi)=>ZaX (Zw v)) Uk 1
noncomputable abbrev Zjn:Zo:=ZxN (fun _ _ (v:Ca)=>ZaX (Zn v)) Zdf 1
noncomputable def UM:Zo:=Xp fun rest L en dp a ts K=>match rest with
 | [.d (.str w)]=>∀x,ZaV w ts=x->RKk (fun (v:List Fi)=>.d (.sl (v.map Zw))) L en dp a x K
 | _=>False
noncomputable abbrev Zdm:Zo:=spR (fun _ _ (v:List Bs)=>.d (.sl (v.map ZY))) Ze2 0
noncomputable abbrev Zgg:Zo:=spR (fun L en (v:Ty)=>ZaX (Zu (Ze L en) v)) ZhK 0
noncomputable abbrev ZkJ:Zo:=spR (fun L en (v:Re)=>ZaX (ZN (Ze L en) v)) Zpd 0
noncomputable def ZhV:Tbl:=[(140,Xx),(141,Xr)]
theorem Zpu (ht:TO w0 nG ZhV):PC w0 nG 221 Zgf:=by
 refine Zd Zc mixed (tbl:=ZhV) ht Tryz.func221 rfl kR kR ?_;intro args σ K h
 unfold Zgf ZxN Zpr at h
 split at h
 ·rename_i rest t0 t rows a en dp
  obtain ⟨L,ts,rfl,ho,h⟩:=h;split at h
  ·skip
   have h0:=ho.lo;have h1:=ho.hi;have h2:=ho.big;refine ⟨Zb [],2,false,sM,Ta rfl,wN ?_⟩;have h:=h _ rfl;unfold Uk at h
   refine ⟨L,ts,rfl,ho,fun x dk=>?_⟩;rcases x with ⟨v1,ts1⟩ | ⟨r1,e1⟩
   rotate_left
   ·exact m47
   rw [dk,R.bind_ok] at h;intro a1 ee av
   have cj:=av.hi;(conv=>whnf);refine ⟨L,ts1,rfl,av,fun x ce=>?_⟩;exact m158
  exact h.elim
 exact h.elim
noncomputable def ZhW:Tbl:=[(134,ZhP),(220,JA)]
theorem Zpv (ht:TO w0 nG ZhW):PC w0 nG 186 UM:=by
 refine Zd Zc mixed (tbl:=ZhW) ht Tryz.func186 rfl kR kR ?_;intro args σ K h
 unfold UM Xp at h
 split at h
 ·rename_i rest t rows a en dp
  obtain ⟨L,ts,rfl,ho,h⟩:=h;split at h
  ·rename_i w
   have h0:=ho.lo;have h1:=ho.hi;have h2:=ho.big;refine ⟨Zb [],1,false,sM,Ta rfl,wN ?_⟩;have h:=h _ rfl;unfold ZaV at h
   refine ⟨L,ts,rfl,ho,[w],rfl,sM,fun b1 ek=>?_⟩
   cases b1 with
   | true =>
    rw [Tj ek] at h;(conv=>whnf);exact h _ oM ho
   | false =>
   rw [Tg (by rw [ek];simp)] at h;(conv=>whnf);refine ⟨⟨rfl,rfl,rfl,rfl⟩,L,ts,rfl,ho,fun x ce=>?_⟩;rcases x with ⟨v2,ts2⟩ | ⟨r2,e2⟩
   rotate_left
   ·rw [ce] at h;intro a9 d9;(conv=>whnf);exact h _ _
   rw [ce] at h;intro a2 gt aj
   have fy:=aj.hi;(conv=>whnf);exact h _ oM aj
  exact h.elim
 exact h.elim
noncomputable def ZkK:Tbl:=[(185,XZ),(191,Zdk),(141,Xr)]
theorem Zsx (ht:TO w0 nG ZkK):PC w0 nG 142 Zdm:=by
 refine Zd Zc mixed (tbl:=ZkK) ht Tryz.func142 rfl kR kR ?_;intro args σ K h
 unfold Zdm spR Xp at h
 split at h
 ·rename_i rest t rows a en dp
  obtain ⟨L,ts,rfl,ho,h⟩:=h;split at h
  ·skip
   have h0:=ho.lo;have h1:=ho.hi;have h2:=ho.big;refine ⟨Zb [],1,false,sM,Ta rfl,wN ?_⟩;have h:=h _ rfl;unfold Ze2 at h
   refine ⟨L,ts,rfl,ho,[[60]],rfl,sM,fun ek av=>wN ?_,fun ek=>wN ?_⟩
   ·rw [Tj ek] at h;have cj:=av.hi;refine ⟨⟨rfl,rfl,rfl,rfl⟩,L,ts.tail,rfl,av,fun x ce=>?_⟩;exact m158
   rw [Tg (by rw [ek];simp)] at h;exact h _ oM ho
  exact h.elim
 exact h.elim
noncomputable def ZkL:Tbl:=[(140,Xx),(141,Xr),(186,UM)]
theorem Zsy (ht:TO w0 nG ZkL):PC w0 nG 188 Zjn:=by
 refine Zd Zc mixed (tbl:=ZkL) ht Tryz.func188 rfl kR kR ?_;intro args σ K h
 unfold Zjn ZxN Zpr at h
 split at h
 ·rename_i rest t0 t rows a en dp
  obtain ⟨L,ts,rfl,ho,h⟩:=h;split at h
  ·skip
   have h0:=ho.lo;have h1:=ho.hi;have h2:=ho.big;refine ⟨Zb [],2,false,sM,Ta rfl,wN ?_⟩;have h:=h _ rfl;unfold Zdf at h
   refine ⟨L,ts,rfl,ho,fun x dk=>?_⟩;rcases x with ⟨v1,ts1⟩ | ⟨r1,e1⟩
   rotate_left
   ·exact m47
   rw [dk,R.bind_ok] at h;intro a1 ee av
   have cj:=av.hi;(conv=>whnf);refine ⟨L,ts1,rfl,av,fun x ce=>?_⟩;rcases x with ⟨v2,ts2⟩ | ⟨r2,e2⟩
   rotate_left
   ·exact m40
   rw [ce,R.bind_ok] at h;intro a2 gt aj
   have fy:=aj.hi;(conv=>whnf);refine ⟨L,ts2,rfl,aj,fun x et=>?_⟩;rcases x with ⟨v3,ts3⟩ | ⟨r3,e3⟩
   rotate_left
   ·exact m20
   rw [et,R.bind_ok] at h;intro a3 f8 bq
   have jf:=bq.hi;(conv=>whnf);refine ⟨L,ts3,rfl,bq,fun x ll=>?_⟩;rcases x with ⟨v4,ts4⟩ | ⟨r4,e4⟩
   rotate_left
   ·exact m94
   rw [ll,R.bind_ok] at h;intro a4 l0 fu
   have qn:=fu.hi;(conv=>whnf);exact h _ oM fu
  exact h.elim
 exact h.elim
noncomputable def ZkM:Tbl:=[(139,Wv),(140,Xx),(185,XZ),(141,Xr),(186,UM),(187,Za0)]
theorem Zsz (ht:TO w0 nG ZkM):PC w0 nG 136 Zgg:=by
 refine Zd Zc mixed (tbl:=ZkM) ht Tryz.func136 rfl kR kR ?_;intro args σ K h
 unfold Zgg spR Xp at h
 split at h
 ·rename_i rest t rows a en dp
  obtain ⟨L,ts,rfl,ho,h⟩:=h;split at h
  ·skip
   have h0:=ho.lo;have h1:=ho.hi;have h2:=ho.big;refine ⟨Zb [],1,false,sM,Ta rfl,wN ?_⟩;have h:=h _ rfl;unfold ZhK at h
   refine ⟨L,ts,rfl,ho,wN ?_⟩;refine ⟨L,ts,rfl,ho,fun x dk=>?_⟩;rcases x with ⟨v1,ts1⟩ | ⟨r1,e1⟩
   rotate_left
   ·exact m47
   rw [dk,R.bind_ok] at h;intro a1 ee av
   have cj:=av.hi;(conv=>whnf);refine ⟨L,ts1,rfl,av,[[60,58]],rfl,sM,fun og aj=>wN ?_,fun og=>wN ?_⟩
   ·rw [Tj og] at h;have fy:=aj.hi;refine ⟨L,ts1.tail,rfl,aj,fun x et=>?_⟩;rcases x with ⟨v3,ts3⟩ | ⟨r3,e3⟩
    rotate_left
    ·exact m20
    exact m103
   rw [Tg (by rw [og];simp)] at h;refine ⟨L,ts1,rfl,av,fun x et=>?_⟩;rcases x with ⟨v3,ts3⟩ | ⟨r3,e3⟩
   rotate_left
   ·exact m20
   rw [et,R.bind_ok] at h;intro a3 f8 bq
   have jf:=bq.hi;(conv=>whnf);refine ⟨L,ts3,rfl,bq,[[91]],rfl,sM,fun n9 fu=>wN ?_,fun n9=>wN ?_⟩
   ·rw [Tj n9] at h;have qn:=fu.hi;refine ⟨L,ts3.tail,rfl,fu,fun x jx=>?_⟩;rcases x with ⟨v5,ts5⟩ | ⟨r5,e5⟩
    rotate_left
    ·exact m39
    rw [jx,R.bind_ok] at h;intro a5 ku gb
    have sv:=gb.hi;(conv=>whnf);refine ⟨L,ts5,rfl,gb,fun x ph=>?_⟩;rcases x with ⟨v6,ts6⟩ | ⟨r6,e6⟩
    rotate_left
    ·rw [ph,R.bind_err] at h;intro a9 d9;(conv=>whnf);exact h _ _
    rw [ph,R.bind_ok] at h;intro a6 wj mc
    have hb6:=mc.hi;(conv=>whnf);exact h _ oM mc
   rw [Tg (by rw [n9];simp)] at h;refine ⟨⟨rfl,rfl,rfl,rfl⟩,L,ts3,rfl,bq,fun x jx=>?_⟩;rcases x with ⟨v5,ts5⟩ | ⟨r5,e5⟩
   rotate_left
   ·exact m39
   rw [jx,R.bind_ok] at h;intro a5 ku gb
   have sv:=gb.hi;(conv=>whnf);exact h _ oM gb
  exact h.elim
 exact h.elim
def JK (i o n:Bool):Nat:=(match i with | true=>0 | false=>1)+(match o with | true=>0 | false=>1)+(match n with | true=>0 | false=>1)
theorem Zms (f : Nat) (i o n : Bool) (ts : Ts) : Xa (f + 1) i o n ts = if i = false /\ isW ts [[105, 110, 112, 117, 116]] = true then Xa f true o n ts.tail
      else if o=false/\isW ts [[111,117,116,112,117,116]]=true then Xa f i true n ts.tail
      else if n=false/\isW ts [[105,110,108,105,110,101]]=true then Xa f i o true ts.tail
      else ((i,o,n),ts):=rfl
noncomputable def Zpw:Tbl:=[(139,Wv),(140,Xx),(185,XZ),(141,Xr),(186,UM)]
theorem ZvT (ht:TO w0 nG Zpw):PC w0 nG 137 ZkJ:=by
 refine Zd Zc mixed (tbl:=Zpw) ht Tryz.func137 rfl kR kR ?_;intro args σ K h
 unfold ZkJ spR Xp at h
 split at h
 ·rename_i rest t rows a en dp
  obtain ⟨L,ts,rfl,ho,h⟩:=h;split at h
  ·skip
   have h0:=ho.lo;have h1:=ho.hi;have h2:=ho.big;refine ⟨Zb [(7,⟨[],[0,2,3],fun vs σ=>∃(nm:Bs) (l:List Fi) (a5:Int) (ts5:Ts) (i o n:Bool) (a':Int) (ts':Ts) (f:Nat),vs=[]/\σ=⟨[.cells t [.d (.sl (ZM L)),.d (.int .i64 a'),.d (.int .i64 en),.d (.int .i64 dp)],.cells 53 [.d (.str []),.sl 0 71 [],.d (.bool false),.d (.bool false),.d (.bool false),.d (.int .i64 0)],.cells 53 [.d (.str nm),.d (.sl (l.map Zw)),.d (.bool i),.d (.bool o),.d (.bool n),.d (.int .i64 (Ze L en ts.length))]],[0],1⟩/\ROK L a' ts'/\a<=a'/\JK i o n<f/\RKk (fun (v:Re)=>ZaX (ZN (Ze L en) v)) L en dp (a+0) (R.ok ⟨nm,l,(Xa f i o n ts').1.1,(Xa f i o n ts').1.2.1,(Xa f i o n ts').1.2.2,ts.length⟩ (Xa f i o n ts').2) (fun pe a' dp'=>K pe ⟨[.cells t [.d (.sl (ZM L)),.d (.int .i64 a'),.d (.int .i64 en),.d (.int .i64 dp')]],[],0⟩),fun _ σ=>match σ with | ⟨[_,_,.cells _ [_,_,.d (.bool i),.d (.bool o),.d (.bool n),_]],_,_⟩=>JK i o n | _=>0⟩)],1,false,sM,Ta rfl,wN ?_⟩;have h:=h _ rfl;unfold Zpd at h
   refine ⟨L,ts,rfl,ho,wN ?_⟩;refine ⟨L,ts,rfl,ho,fun x dk=>?_⟩;rcases x with ⟨v1,ts1⟩ | ⟨r1,e1⟩
   rotate_left
   ·exact m47
   rw [dk,R.bind_ok] at h;intro a1 ee av
   have cj:=av.hi;(conv=>whnf);refine ⟨L,ts1,rfl,av,fun x ce=>?_⟩;rcases x with ⟨v2,ts2⟩ | ⟨r2,e2⟩
   rotate_left
   ·exact m40
   rw [ce,R.bind_ok] at h;intro a2 gt aj
   have fy:=aj.hi;(conv=>whnf);refine ⟨L,ts2,rfl,aj,fun x et=>?_⟩;rcases x with ⟨v3,ts3⟩ | ⟨r3,e3⟩
   rotate_left
   ·exact m20
   rw [et,R.bind_ok] at h;intro a3 f8 bq
   have jf:=bq.hi;(conv=>whnf);refine ⟨L,ts3,rfl,bq,fun x ll=>?_⟩;rcases x with ⟨v4,ts4⟩ | ⟨r4,e4⟩
   rotate_left
   ·exact m94
   rw [ll,R.bind_ok] at h;intro a4 l0 fu
   have qn:=fu.hi;(conv=>whnf);refine ⟨⟨v1,v3,a4,ts4,false,false,false,a4,ts4,4,rfl,rfl,fu,oM,dM,h⟩,?_⟩
   clear h dk ce et ll av aj bq fu cj fy jf qn ee gt f8 l0
   intro vs σ hI
   obtain ⟨nm,l,a5,ts5,i,o,n,a',ts',f,rfl,rfl,cm,aq,hf,h⟩:=hI;obtain ⟨f,rfl⟩:∃g,f=g+1:=⟨f - 1,oM⟩
   rw [Zms] at h;have pp:=cm.hi;(conv=>whnf)
   cases i with
   | true =>
    rw [Tg sM] at h;(conv=>whnf)
    cases o with
    | true =>
     rw [Tg sM] at h;(conv=>whnf)
     cases n with
     | true =>
      exact m135
     | false =>
     conv=>whnf
     refine ⟨L,ts',rfl,cm,[[105,110,108,105,110,101]],rfl,sM,fun f9 gc=>wN ?_,fun f9=>wN ?_⟩
     ·rw [Tj ⟨rfl,f9⟩] at h;have qo:=gc.hi;refine ⟨⟨nm,l,a5,ts5,true,true,true,a'+1,ts'.tail,f,rfl,rfl,gc,oM,?_,h⟩,?_⟩
      ·(simp only [JK] at hf |-;omega)
      show JK true true true<JK true true false
      (simp only [JK];omega)
     exact m130
    | false =>
    conv=>whnf
    refine ⟨L,ts',rfl,cm,[[111,117,116,112,117,116]],rfl,sM,fun f9 gc=>wN ?_,fun f9=>wN ?_⟩
    ·rw [Tj ⟨rfl,f9⟩] at h;have qo:=gc.hi;refine ⟨⟨nm,l,a5,ts5,true,true,n,a'+1,ts'.tail,f,rfl,rfl,gc,oM,?_,h⟩,?_⟩
     ·cases n <;> (simp only [JK] at hf |-;omega)
     show JK true true n<JK true false n
     cases n <;> (simp only [JK];omega)
    rw [Tg (by rw [f9];simp)] at h
    cases n with
    | true =>
     exact m135
    | false =>
    conv=>whnf
    refine ⟨L,ts',rfl,cm,[[105,110,108,105,110,101]],rfl,sM,fun f9 gc=>wN ?_,fun f9=>wN ?_⟩
    ·rw [Tj ⟨rfl,f9⟩] at h;have qo:=gc.hi;refine ⟨⟨nm,l,a5,ts5,true,false,true,a'+1,ts'.tail,f,rfl,rfl,gc,oM,?_,h⟩,?_⟩
     ·(simp only [JK] at hf |-;omega)
     show JK true false true<JK true false false
     (simp only [JK];omega)
    exact m130
   | false =>
   conv=>whnf
   refine ⟨L,ts',rfl,cm,[[105,110,112,117,116]],rfl,sM,fun f9 gc=>wN ?_,fun f9=>wN ?_⟩
   ·rw [Tj ⟨rfl,f9⟩] at h;have qo:=gc.hi;refine ⟨⟨nm,l,a5,ts5,true,o,n,a'+1,ts'.tail,f,rfl,rfl,gc,oM,?_,h⟩,?_⟩
    ·cases o <;> cases n <;> (simp only [JK] at hf |-;omega)
    show JK true o n<JK false o n
    cases o <;> cases n <;> (simp only [JK];omega)
   rw [Tg (by rw [f9];simp)] at h
   cases o with
   | true =>
    rw [Tg sM] at h;(conv=>whnf)
    cases n with
    | true =>
     exact m135
    | false =>
    conv=>whnf
    refine ⟨L,ts',rfl,cm,[[105,110,108,105,110,101]],rfl,sM,fun f9 gc=>wN ?_,fun f9=>wN ?_⟩
    ·rw [Tj ⟨rfl,f9⟩] at h;have qo:=gc.hi;refine ⟨⟨nm,l,a5,ts5,false,true,true,a'+1,ts'.tail,f,rfl,rfl,gc,oM,?_,h⟩,?_⟩
     ·(simp only [JK] at hf |-;omega)
     show JK false true true<JK false true false
     (simp only [JK];omega)
    exact m130
   | false =>
   conv=>whnf
   refine ⟨L,ts',rfl,cm,[[111,117,116,112,117,116]],rfl,sM,fun f9 gc=>wN ?_,fun f9=>wN ?_⟩
   ·rw [Tj ⟨rfl,f9⟩] at h;have qo:=gc.hi;refine ⟨⟨nm,l,a5,ts5,false,true,n,a'+1,ts'.tail,f,rfl,rfl,gc,oM,?_,h⟩,?_⟩
    ·cases n <;> (simp only [JK] at hf |-;omega)
    show JK false true n<JK false false n
    cases n <;> (simp only [JK];omega)
   rw [Tg (by rw [f9];simp)] at h
   cases n with
   | true =>
    exact m135
   | false =>
   conv=>whnf
   refine ⟨L,ts',rfl,cm,[[105,110,108,105,110,101]],rfl,sM,fun f9 gc=>wN ?_,fun f9=>wN ?_⟩
   ·rw [Tj ⟨rfl,f9⟩] at h;have qo:=gc.hi;refine ⟨⟨nm,l,a5,ts5,false,false,true,a'+1,ts'.tail,f,rfl,rfl,gc,oM,?_,h⟩,?_⟩
    ·(simp only [JK] at hf |-;omega)
    show JK false false true<JK false false false
    (simp only [JK];omega)
   exact m130
  exact h.elim
 exact h.elim
noncomputable def ZkN (fn:Func) (tb:Tbl):Zo:=fun args σ K=>∃K0:PEnd->St->Prop,(∀e σ,K0 e σ->K e σ)/\args.length<=fn.ntmps/\WF (ctx Zbv tb (Zb [])) fn σ.bx.length false args σ K0
theorem Zpx (fn:Func) (tb:Tbl):ZK (ZkN fn tb):=fun args σ K K' hK ⟨K0,h1,h2⟩=>⟨K0,fun e σ h=>hK _ _ (h1 e σ h),h2⟩
noncomputable def ZyD (fn:Func) (unr:Nat->Nat) (tb:Tbl):Zo:=fun args σ K=>∃K0:PEnd->St->Prop,(∀e σ,K0 e σ->K e σ)/\args.length<=fn.ntmps/\WF (ZAF Zbv tb (Zb []) unr (Xj [])) fn σ.bx.length false args σ K0
theorem _root_.Go.PM.PCalls.closed {G:GE} {g:FuncId} {sp:Zo} (h:PCalls G g sp):PCalls G g (fun args σ K=>∃K0:PEnd->St->Prop,(∀e σ,K0 e σ->K e σ)/\sp args σ K0):=⟨h.enters,fun args σ K ⟨K0,hK,hs⟩ n e w vs hS ha =>
 (h.calls args σ K0 hs n e w vs hS ha).mono fun en w' ⟨pe,σ',e',hk,hr⟩=>⟨pe,σ',e',hK _ _ hk,hr⟩⟩
theorem ZbV {g : FuncId} {fn : Func} {c : Code} {tb : Tbl} (ht : TO w0 nG tb) (hf : (GG w0 nG).P.funcs[g]? = some fn) (hb : fn.body = some c) (ak : (fn.name == "runtime.NumGoroutine") = false) (az : Zz fn.ntmps c = true) : PC w0 nG g (ZkN fn tb) := by
 have h:PC w0 nG g (fun args σ K=>args.length<=fn.ntmps/\WF (ctx Zbv tb (Zb [])) fn σ.bx.length false args σ K):=by
  refine Zd Zc mixed ht hf hb ak az ?_;intro args σ K h
  exact ⟨Zb [],σ.bx.length,false,Tq _,h.1,h.2⟩
 exact h.closed
theorem ZyE {g : FuncId} {fn : Func} {c : Code} {unr : Nat -> Nat} {tb : Tbl} (ht : TO w0 nG tb) (hf : (GG w0 nG).P.funcs[g]? = some fn) (hb : fn.body = some c) (ak : (fn.name == "runtime.NumGoroutine") = false) (az : Zz fn.ntmps c = true) : PC w0 nG g (ZyD fn unr tb) := by
 have h:PC w0 nG g (fun args σ K=>args.length<=fn.ntmps/\WF (ZAF Zbv tb (Zb []) unr (Xj [])) fn σ.bx.length false args σ K):=by
  refine Jp Zc mixed ht hf hb ak az ?_;intro args σ K h
  exact ⟨Zb [],unr,Xj [],σ.bx.length,false,Tq _,h.1,h.2⟩
 exact h.closed
noncomputable def ZvU {α:Type} (enc:List Tok->Int->α->PV) (P:Ts->R α) (lo:Int) (d:Nat):Zo:=Xp fun rest L en dp a ts K=>match rest with
 | []=>(0<d/\dp=65 - (d:Int)/\0<=dp)/\∀x,P ts=x->RKk (enc L en) L en dp (a+lo) x K
 | _=>False
theorem Zdn {α:Type} {enc:List Tok->Int->α->PV} {P:Ts->R α} {lo:Int} {g:FuncId} (h:W8 (GG w0 nG).P g):PC w0 nG g (ZvU enc P lo 0):=⟨h,fun args σ K hs=>by
 exfalso;unfold ZvU Xp at hs
 split at hs
 ·obtain ⟨L,ts,_,_,hs⟩:=hs;split at hs
  ·have:=hs.1.1;omega
  exact hs
 exact hs⟩
theorem _root_.Go.PM.PCalls.weaken1 {G:GE} {g:FuncId} {sp sp':Zo} (h:PCalls G g sp) (hw:∀args σ K,sp' args σ K->sp args σ K):PCalls G g sp':=⟨h.enters,fun args σ K hs=>h.calls args σ K (hw _ _ _ hs)⟩
theorem Zdo {α:Type} {enc:List Tok->Int->α->PV} {P:Ts->R α} {lo:Int} {d:Nat} {g:FuncId} (h:PC w0 nG g (Zin enc P lo d)):PC w0 nG g (ZvU enc P lo (d+1)):=h.weaken1 fun args σ K hs=>by
 unfold ZvU Xp at hs
 unfold Zin Xp
 split at hs
 ·obtain ⟨L,ts,h1,h2,hs⟩:=hs;refine ⟨L,ts,h1,h2,?_⟩;split at hs
  ·exact ⟨by have:=hs.1.2;omega,hs.2⟩
  exact hs.elim
 exact hs
noncomputable def Za1:Zo:=fun args σ K=>match args,σ with
 | [.d (.str w),.ptr 0 0],⟨[.cells t0 [.ptr 1 0],.cells t [.d (.sl rows),.d (.int .i64 a),.d (.int .i64 en),.d (.int .i64 dp)]],[],0⟩=>∃L ts,rows=ZM L/\ROK L a ts /\
   (isW ts [w]=true->ROK L (a+1) ts.tail->K (.ret (.d (.bool true))) ⟨[.cells t0 [.ptr 1 0],.cells t [.d (.sl (ZM L)),.d (.int .i64 (a+1)),.d (.int .i64 en),.d (.int .i64 dp)]],[],0⟩) /\
   (isW ts [w]=false->K (.ret (.d (.bool false))) ⟨[.cells t0 [.ptr 1 0],.cells t [.d (.sl (ZM L)),.d (.int .i64 a),.d (.int .i64 en),.d (.int .i64 dp)]],[],0⟩)
 | _,_=>False
noncomputable def Zcd:Tbl:=[(185,XZ)]
theorem Zpy (ht:TO w0 nG Zcd):PC w0 nG 253 Za1:=by
 refine Zd Zc mixed (tbl:=Zcd) ht Tryz.func253 rfl kR kR ?_;exact m62
theorem Zpz (ht:TO w0 nG Zcd):PC w0 nG 254 Za1:=by
 refine Zd Zc mixed (tbl:=Zcd) ht Tryz.func254 rfl kR kR ?_;exact m62
noncomputable def ZsA:Zo:=fun args σ K=>match args,σ with
 | [.asl 0 0 n,.func g [] [.ptr 1 0]],⟨[.cells tA cs,.cells t0 [.ptr 2 0],.cells t [.d (.sl rows),.d (.int .i64 a),.d (.int .i64 en),.d (.int .i64 dp)]],[],0⟩=>∃L ts ws,rows=ZM L/\ROK L a ts /\
   ((ws=ZX/\g=253)\/(ws=Ym/\g=254))/\n=ws.length/\cs=ws.map (fun w=>PV.d (.str w)) /\
   (∀k:Nat,ZbF ts 0 ws=some k->ROK L (a+1) ts.tail->K (.ret (.d (.int .i64 k))) ⟨[.cells tA cs,.cells t0 [.ptr 2 0],.cells t [.d (.sl (ZM L)),.d (.int .i64 (a+1)),.d (.int .i64 en),.d (.int .i64 dp)]],[],0⟩) /\
   (ZbF ts 0 ws=none->K (.ret (.d (.int .i64 (-1)))) ⟨[.cells tA cs,.cells t0 [.ptr 2 0],.cells t [.d (.sl (ZM L)),.d (.int .i64 a),.d (.int .i64 en),.d (.int .i64 dp)]],[],0⟩)
 | _,_=>False
noncomputable def Zt0:Tbl:=[(253,Za1),(254,Za1)]
theorem ZyF (ht:TO w0 nG Zt0):PC w0 nG 148 ZsA:=by
 refine Jp Zc mixed (tbl:=Zt0) ht Tryz.func148 rfl kR kR ?_;intro args σ K h
 unfold ZsA at h
 split at h
 ·rename_i n g tA cs t0 t rows a en dp
  obtain ⟨L,ts,ws,rfl,ho,hws,rfl,rfl,h1,h2⟩:=h;refine ⟨Zb [],VV [(2,8)],Xj [],3,false,sM,Ta rfl,?_⟩;rcases hws with ⟨rfl,rfl⟩ | ⟨rfl,rfl⟩
  ·conv=>whnf
   refine ⟨dM,dM,wN ?_⟩;refine ⟨L,ts,rfl,ho,fun yc aj=>wN ?_,fun yc=>wN ?_⟩
   ·exact h1 0 (by simp [ZbF,ZX, *]) aj
   refine Or.inl ⟨InR.i64 oM oM,wN ?_⟩;refine ⟨dM,dM,wN ?_⟩;refine ⟨L,ts,rfl,ho,fun ek aj=>wN ?_,fun ek=>wN ?_⟩
   ·exact h1 1 (by simp [ZbF,ZX, *]) aj
   refine Or.inl ⟨InR.i64 oM oM,wN ?_⟩;refine ⟨dM,dM,wN ?_⟩;refine ⟨L,ts,rfl,ho,fun og aj=>wN ?_,fun og=>wN ?_⟩
   ·exact h1 2 (by simp [ZbF,ZX, *]) aj
   refine Or.inl ⟨InR.i64 oM oM,wN ?_⟩;refine ⟨dM,dM,wN ?_⟩;refine ⟨L,ts,rfl,ho,fun nt aj=>wN ?_,fun nt=>wN ?_⟩
   ·exact h1 3 (by simp [ZbF,ZX, *]) aj
   refine Or.inl ⟨InR.i64 oM oM,wN ?_⟩;refine ⟨dM,dM,wN ?_⟩;refine ⟨L,ts,rfl,ho,fun n9 aj=>wN ?_,fun n9=>wN ?_⟩
   ·exact h1 4 (by simp [ZbF,ZX, *]) aj
   refine Or.inl ⟨InR.i64 oM oM,wN ?_⟩;refine ⟨dM,dM,wN ?_⟩;refine ⟨L,ts,rfl,ho,fun hw5 aj=>wN ?_,fun hw5=>wN ?_⟩
   ·exact h1 5 (by simp [ZbF,ZX, *]) aj
   refine Or.inl ⟨InR.i64 oM oM,wN ?_⟩;exact h2 (by simp [ZbF,ZX, *])
  conv=>whnf
  refine ⟨dM,dM,wN ?_⟩;refine ⟨L,ts,rfl,ho,fun yc aj=>wN ?_,fun yc=>wN ?_⟩
  ·exact h1 0 (by simp [ZbF,Ym, *]) aj
  refine Or.inl ⟨InR.i64 oM oM,wN ?_⟩;refine ⟨dM,dM,wN ?_⟩;refine ⟨L,ts,rfl,ho,fun ek aj=>wN ?_,fun ek=>wN ?_⟩
  ·exact h1 1 (by simp [ZbF,Ym, *]) aj
  refine Or.inl ⟨InR.i64 oM oM,wN ?_⟩;refine ⟨dM,dM,wN ?_⟩;refine ⟨L,ts,rfl,ho,fun og aj=>wN ?_,fun og=>wN ?_⟩
  ·exact h1 2 (by simp [ZbF,Ym, *]) aj
  refine Or.inl ⟨InR.i64 oM oM,wN ?_⟩;refine ⟨dM,dM,wN ?_⟩;refine ⟨L,ts,rfl,ho,fun nt aj=>wN ?_,fun nt=>wN ?_⟩
  ·exact h1 3 (by simp [ZbF,Ym, *]) aj
  refine Or.inl ⟨InR.i64 oM oM,wN ?_⟩;exact h2 (by simp [ZbF,Ym, *])
 exact h.elim
def Zgh:Nat->Ts->R Ex
 | 0=>fun _=>.err 0 150
 | d+1=>Xw d
theorem ZsB (d:Nat):Zdh d=fun ts=>Jx (Zgh d) 6 1 ts:=by cases d <;> rfl
theorem Zmt (d:Nat) (ts:Ts):Xw d ts=Zdg d (Zgh d) ts:=by cases d <;> rfl
theorem Zmu {ts:Ts} (h:ZV ts=true):ts≠[]:=by rintro rfl;simp [ZV,hd] at h
noncomputable abbrev Zjo (d:Nat):Zo:=ZvU (fun L en (v:Ex)=>ZaX (YP (Ze L en) v)) (Zdh d) 0 d
noncomputable abbrev ZhX (d:Nat):Zo:=ZvU (fun L en (v:Ex)=>ZaX (YP (Ze L en) v)) (Zgh d) 0 d
noncomputable abbrev Ze5 (d:Nat):Zo:=Zin (fun L en (v:Ex)=>ZaX (YP (Ze L en) v)) (Zac d) 0 d
noncomputable abbrev Zce (d:Nat):Zo:=Zin (fun L en (v:Ex)=>ZaX (YP (Ze L en) v)) (Xw d) 0 d
noncomputable abbrev Zaf (d:Nat):Zo:=Zin (fun L en (v:Ex)=>ZaX (YP (Ze L en) v)) (Zab d (Zdh d)) 0 d
noncomputable def Zdp (d:Nat):Zo:=Xp fun rest L en dp a ts K=>match rest with
 | [.d (.str fr),.d (.str tw)]=>((dp=64 - (d:Int)/\0<=dp)/\tw≠[])/\∀x,ZhL d (Zdh d) fr tw ts=x->RKk (fun (l:List Ex)=>.d (.sl (l.map (YP (Ze L en))))) L en dp a x K
 | _=>False
noncomputable def ZkO (d:Nat):Zo:=Xp fun rest L en dp a ts K=>match rest with
 | [.agg [.d (.int .u8 op),.d (.str []),.d (.int .i64 n),.nils e,.d (.int .i64 at')]]=>((dp=64 - (d:Int)/\0<=dp)/\n=0/\e=74)/\∃o:Nat,op=(o:Int)/\∀x,Zt d [40] [41] (Zaa (Zdh d) (Zmm o) []) ts=x ->
   RKk (fun (l:List Ex)=>.agg [.d (.int .u8 op),.d (.str []),.d (.int .i64 0),.d (.sl (l.map (YP (Ze L en)))),.d (.int .i64 at')]) L en dp a x K
 | _=>False
noncomputable def Vj (d:Nat):Zo:=fun args σ K=>match args,σ with
 | [.ptr 0 0,.d (.str sg),.d (.int .i64 m),.func g1 [.ptr 0 0] [],.func g2 [.ptr 0 0] []],⟨[.cells t [.d (.sl rows),.d (.int .i64 a),.d (.int .i64 en),.d (.int .i64 dp)]],[],0⟩ =>
   (sg=[44]/\m=12/\g1=224/\g2=225/\0<d/\dp=65 - (d:Int)/\0<=dp)/\∃L ts,rows=ZM L/\ROK L a ts/\∀x,XW [44] 12 ZV (Zdh d) ts=x ->
    RKk (fun (l:List Ex)=>.d (.sl (l.map (YP (Ze L en))))) L en dp a x fun pe a' dp'=>K pe ⟨[.cells t [.d (.sl (ZM L)),.d (.int .i64 a'),.d (.int .i64 en),.d (.int .i64 dp')]],[],0⟩
 | _,_=>False
noncomputable def ZkP (d:Nat):Tbl:=[(134,ZhP),(223,Vj d)]
noncomputable def ZkQ (d:Nat):Tbl:=[(134,ZhP),(141,Xr),(133,YU),(222,ZkN Tryz.f222 (ZkP d))]
noncomputable def ZpA (d:Nat):Tbl:=[(189,ZkN Tryz.f189 (ZkQ d))]
theorem ZvV {d:Nat} (ht:TO w0 nG (ZpA d)):PC w0 nG 192 (Zdp d):=by
 refine Zd Zc mixed (tbl:=ZpA d) ht Tryz.func192 rfl kR kR ?_;intro args σ K h
 unfold Zdp Xp at h
 split at h
 ·rename_i rest t rows a en dp
  obtain ⟨L,ts,rfl,ho,h⟩:=h;split at h
  ·rename_i fr tw
   obtain ⟨⟨fb,yd⟩,h⟩:=h;have h0:=ho.lo;have h1:=ho.hi;have h2:=ho.big;refine ⟨Zb [],1,false,sM,Ta rfl,wN ?_⟩;have h:=h _ rfl;unfold ZhL at h
   refine ⟨_,fun _ _ h=>h,Ta rfl,wN ?_⟩;refine ⟨L,ts,rfl,ho,[fr],rfl,sM,fun b ek=>?_⟩
   cases b with
   | false =>
    exact m169
   | true =>
   rw [Zt,Tj ek] at h;(conv=>whnf);refine ZDc (fun hc=>wN ?_) (fun hc=>wN ?_)
   ·rw [Tj oM] at h;exact m74
   rw [Tg oM] at h;refine ⟨L,ts,rfl,ho,fun x hx=>?_⟩;rw [ZW,Tj ek] at hx;subst hx;intro a1 ee av
   have cj:=av.hi;(conv=>whnf);refine Or.inl ⟨InR.i64 oM oM,wN ?_⟩;refine ⟨_,fun _ _ h=>h,Ta rfl,wN ?_⟩;refine ⟨L,ts.tail,rfl,av,[tw],rfl,sM,fun b n9=>?_⟩;have f7:∀(x:R (List Ex)),(if isW ts.tail [tw]=true then R.ok [] ts.tail else XW [44] 12 ZV (Zdh d) ts.tail)=x->True:=fun _ _=>trivial
   cases b with
   | true =>
    rw [Tj n9,R.bind_ok] at h;(conv=>whnf);have aj:=av;refine ZDe (fun _=>wN ?_) (fun g=>absurd g yd);rw [Tg yd] at h;refine ⟨L,ts.tail,rfl,av,fun x et=>?_⟩;exact m14
   | false =>
   rw [Tg (by rw [n9];simp)] at h;(conv=>whnf);refine ⟨⟨rfl,rfl,rfl,rfl,oM,oM,oM⟩,L,ts.tail,rfl,av,fun x ce=>?_⟩;rcases x with ⟨v2,ts2⟩ | ⟨r2,e2⟩
   rotate_left
   ·exact m40
   rw [ce,R.bind_ok] at h;intro a2 gt aj
   have fy:=aj.hi;(conv=>whnf);refine ZDe (fun _=>wN ?_) (fun g=>absurd g yd);rw [Tg yd] at h;refine ⟨L,ts2,rfl,aj,fun x et=>?_⟩;exact m14
  exact h.elim
 exact h.elim
theorem Vk (ex:Ts->R Ex) (k:Nat) (l:List Ex) (ts:Ts):Zaa ex (k+1) l ts=(if l=[] then .ok () ts else ZW [44] ts).bind fun _ ts=>(ex ts).bind fun e ts=>Zaa ex k (l++[e]) ts:=rfl
noncomputable def ZkR (d:Nat):Tbl:=[(141,Xr),(225,Zjo d)]
noncomputable def ZkS (d:Nat):Tbl:=[(134,ZhP),(141,Xr),(133,YU),(302,ZyD Tryz.f302 (VV [(1,5)]) (ZkR d))]
noncomputable def ZpB (d:Nat):Tbl:=[(189,ZkN Tryz.f189 (ZkS d))]
theorem ZvW {d:Nat} (ht:TO w0 nG (ZpB d)):PC w0 nG 298 (ZkO d):=by
 refine Zd Zc mixed (tbl:=ZpB d) ht Tryz.func298 rfl kR kR ?_;intro args σ K h
 unfold ZkO Xp at h
 split at h
 ·rename_i rest t rows a en dp
  obtain ⟨L,ts,rfl,ho,h⟩:=h;split at h
  ·rename_i op n e at'
   obtain ⟨⟨fb,rfl,rfl⟩,o,rfl,h⟩:=h;have h:=h _ rfl;have h0:=ho.lo;have h1:=ho.hi;have h2:=ho.big;refine ⟨Zb [],1,false,sM,Ta rfl,wN ?_⟩;refine ZDc (fun gh=>?_) (fun gh=>wN ?_)
   ·obtain rfl:o=22:=by omega
    have wl:Zmm 22=3:=rfl;(conv=>whnf);refine Or.inl ⟨InR.i64 dM dM,wN ?_⟩;refine Or.inl ⟨InR.i64 dM dM,wN ?_⟩;rw [wl] at h;refine ⟨_,fun _ _ h=>h,Ta rfl,wN ?_⟩;refine ⟨L,ts,rfl,ho,[[40]],rfl,sM,fun b ek=>?_⟩
    cases b with
    | false =>
     exact m169
    | true =>
    rw [Zt,Tj ek] at h;(conv=>whnf);refine ZDc (fun hc=>wN ?_) (fun hc=>wN ?_)
    ·rw [Tj oM] at h;exact m74
    rw [Tg oM] at h;refine ⟨L,ts,rfl,ho,fun x hx=>?_⟩;rw [ZW,Tj ek] at hx;subst hx;intro a1 ee av
    have cj:=av.hi;(conv=>whnf);refine Or.inl ⟨InR.i64 oM oM,wN ?_⟩;refine ⟨_,fun _ _ h=>h,Ta rfl,wN ?_⟩;rw [Vk] at h;rw [Tj rfl,R.bind_ok] at h;refine ⟨L,ts.tail,rfl,av,⟨oM,oM,oM⟩,fun x l4=>?_⟩;rcases x with ⟨v10,ts10⟩ | ⟨r10,e10⟩
    rotate_left
    ·exact m125
    rw [l4,R.bind_ok] at h;intro a10 qp jy
    have wm:=jy.hi;obtain ⟨v10a,v10b,v10c,v10d,v10e⟩:=v10;(conv=>whnf);refine ⟨rfl,rfl,Ta rfl,Ta rfl,wN ?_⟩
    repeat (refine ⟨rfl,?_⟩;conv=>whnf)
    refine Or.inl ⟨InR.i64 dM dM,wN ?_⟩;rw [Vk] at h;rw [Tg sM] at h;refine ⟨L,ts10,rfl,jy,fun x jg=>?_⟩;rcases x with ⟨v11,ts11⟩ | ⟨r11,e11⟩
    rotate_left
    ·rw [jg,R.bind_err,R.bind_err] at h;intro a9 d9;(conv=>whnf);exact h _ _
    rw [jg,R.bind_ok] at h;intro a11 qq jz
    have wo:=jz.hi;(conv=>whnf);refine ⟨L,ts11,rfl,jz,⟨oM,oM,oM⟩,fun x j5=>?_⟩;rcases x with ⟨v12,ts12⟩ | ⟨r12,e12⟩
    rotate_left
    ·rw [j5,R.bind_err,R.bind_err] at h;intro a9 d9;(conv=>whnf);exact h _ _
    rw [j5,R.bind_ok] at h;intro a12 qr j6
    have wp:=j6.hi;obtain ⟨v12a,v12b,v12c,v12d,v12e⟩:=v12;(conv=>whnf);refine ⟨rfl,rfl,Ta rfl,Ta rfl,wN ?_⟩
    repeat (refine ⟨rfl,?_⟩;conv=>whnf)
    refine Or.inl ⟨InR.i64 dM dM,wN ?_⟩;rw [Vk] at h;rw [Tg sM] at h;refine ⟨L,ts12,rfl,j6,fun x wq=>?_⟩;rcases x with ⟨v13,ts13⟩ | ⟨r13,e13⟩
    rotate_left
    ·rw [wq,R.bind_err,R.bind_err] at h;intro a9 d9;(conv=>whnf);exact h _ _
    rw [wq,R.bind_ok] at h;intro a13 acj wr
    have aeg:=wr.hi;(conv=>whnf);refine ⟨L,ts13,rfl,wr,⟨oM,oM,oM⟩,fun x wt=>?_⟩;rcases x with ⟨v14,ts14⟩ | ⟨r14,e14⟩
    rotate_left
    ·rw [wt,R.bind_err,R.bind_err] at h;intro a9 d9;(conv=>whnf);exact h _ _
    rw [wt,R.bind_ok] at h;intro a14 ack wu
    have aeh:=wu.hi;obtain ⟨v14a,v14b,v14c,v14d,v14e⟩:=v14;(conv=>whnf);refine ⟨rfl,rfl,Ta rfl,Ta rfl,wN ?_⟩
    repeat (refine ⟨rfl,?_⟩;conv=>whnf)
    refine Or.inl ⟨InR.i64 dM dM,wN ?_⟩;rw [Zaa] at h;rw [R.bind_ok] at h;have wv:ts14=ts14:=rfl;have aj:=wu;obtain ⟨ts2,nu⟩:∃t,t=ts14:=⟨_,rfl⟩
    rw [<- nu] at h aj;exact m166
   refine ZDc (fun sw=>?_) (fun sw=>wN ?_)
   ·obtain rfl:o=20:=by omega
    have wl:Zmm 20=2:=rfl;(conv=>whnf);refine Or.inl ⟨InR.i64 dM dM,wN ?_⟩;rw [wl] at h;refine ⟨_,fun _ _ h=>h,Ta rfl,wN ?_⟩;refine ⟨L,ts,rfl,ho,[[40]],rfl,sM,fun b ek=>?_⟩
    cases b with
    | false =>
     exact m169
    | true =>
    rw [Zt,Tj ek] at h;(conv=>whnf);refine ZDc (fun hc=>wN ?_) (fun hc=>wN ?_)
    ·rw [Tj oM] at h;exact m74
    rw [Tg oM] at h;refine ⟨L,ts,rfl,ho,fun x hx=>?_⟩;rw [ZW,Tj ek] at hx;subst hx;intro a1 ee av
    have cj:=av.hi;(conv=>whnf);refine Or.inl ⟨InR.i64 oM oM,wN ?_⟩;refine ⟨_,fun _ _ h=>h,Ta rfl,wN ?_⟩;rw [Vk] at h;rw [Tj rfl,R.bind_ok] at h;refine ⟨L,ts.tail,rfl,av,⟨oM,oM,oM⟩,fun x l4=>?_⟩;rcases x with ⟨v10,ts10⟩ | ⟨r10,e10⟩
    rotate_left
    ·exact m125
    rw [l4,R.bind_ok] at h;intro a10 qp jy
    have wm:=jy.hi;obtain ⟨v10a,v10b,v10c,v10d,v10e⟩:=v10;(conv=>whnf);refine ⟨rfl,rfl,Ta rfl,Ta rfl,wN ?_⟩
    repeat (refine ⟨rfl,?_⟩;conv=>whnf)
    refine Or.inl ⟨InR.i64 dM dM,wN ?_⟩;rw [Vk] at h;rw [Tg sM] at h;refine ⟨L,ts10,rfl,jy,fun x jg=>?_⟩;rcases x with ⟨v11,ts11⟩ | ⟨r11,e11⟩
    rotate_left
    ·rw [jg,R.bind_err,R.bind_err] at h;intro a9 d9;(conv=>whnf);exact h _ _
    rw [jg,R.bind_ok] at h;intro a11 qq jz
    have wo:=jz.hi;(conv=>whnf);refine ⟨L,ts11,rfl,jz,⟨oM,oM,oM⟩,fun x j5=>?_⟩;rcases x with ⟨v12,ts12⟩ | ⟨r12,e12⟩
    rotate_left
    ·rw [j5,R.bind_err,R.bind_err] at h;intro a9 d9;(conv=>whnf);exact h _ _
    rw [j5,R.bind_ok] at h;intro a12 qr j6
    have wp:=j6.hi;obtain ⟨v12a,v12b,v12c,v12d,v12e⟩:=v12;(conv=>whnf);refine ⟨rfl,rfl,Ta rfl,Ta rfl,wN ?_⟩
    repeat (refine ⟨rfl,?_⟩;conv=>whnf)
    refine Or.inl ⟨InR.i64 dM dM,wN ?_⟩;rw [Zaa] at h;rw [R.bind_ok] at h;have wv:ts12=ts12:=rfl;have aj:=j6;obtain ⟨ts2,nu⟩:∃t,t=ts12:=⟨_,rfl⟩
    rw [<- nu] at h aj;exact m166
   have wl:Zmm o=1:=by rw [Zmm,Tg oM,Tg oM]
   rw [wl] at h;refine ⟨_,fun _ _ h=>h,Ta rfl,wN ?_⟩;refine ⟨L,ts,rfl,ho,[[40]],rfl,sM,fun b ek=>?_⟩
   cases b with
   | false =>
    exact m169
   | true =>
   rw [Zt,Tj ek] at h;(conv=>whnf);refine ZDc (fun hc=>wN ?_) (fun hc=>wN ?_)
   ·rw [Tj oM] at h;exact m74
   rw [Tg oM] at h;refine ⟨L,ts,rfl,ho,fun x hx=>?_⟩;rw [ZW,Tj ek] at hx;subst hx;intro a1 ee av
   have cj:=av.hi;(conv=>whnf);refine Or.inl ⟨InR.i64 oM oM,wN ?_⟩;refine ⟨_,fun _ _ h=>h,Ta rfl,wN ?_⟩;rw [Vk] at h;rw [Tj rfl,R.bind_ok] at h;refine ⟨L,ts.tail,rfl,av,⟨oM,oM,oM⟩,fun x l4=>?_⟩;rcases x with ⟨v10,ts10⟩ | ⟨r10,e10⟩
   rotate_left
   ·exact m125
   rw [l4,R.bind_ok] at h;intro a10 qp jy
   have wm:=jy.hi;obtain ⟨v10a,v10b,v10c,v10d,v10e⟩:=v10;(conv=>whnf);refine ⟨rfl,rfl,Ta rfl,Ta rfl,wN ?_⟩
   repeat (refine ⟨rfl,?_⟩;conv=>whnf)
   refine Or.inl ⟨InR.i64 dM dM,wN ?_⟩;rw [Zaa] at h;rw [R.bind_ok] at h;have wv:ts10=ts10:=rfl;have aj:=jy;obtain ⟨ts2,nu⟩:∃t,t=ts10:=⟨_,rfl⟩
   rw [<- nu] at h aj;exact m166
  exact h.elim
 exact h.elim
noncomputable def ZkT (d:Nat):Tbl:=[(225,Zjo d)]
noncomputable def ZkU (d:Nat):Tbl:=[(134,ZhP),(141,Xr),(133,YU),(297,ZkN Tryz.f297 (ZkT d))]
noncomputable def ZpC (d:Nat):Tbl:=[(224,Jy ZV),(133,YU),(183,Zad),(189,ZkN Tryz.f189 (ZkU d)),(192,Zdp d),(140,Xx),(134,ZhP),(166,Um),(298,ZkO d)]
theorem Zmv {d:Nat} (ht:TO w0 nG (ZpC d)):PC w0 nG 286 (Zaf d):=by
 refine ZfN Zc mixed (tbl:=ZpC d) ht Tryz.func286 rfl kR kR ?_;intro args σ K h
 unfold Zaf Zin Xp at h
 split at h
 ·rename_i rest t rows a en dp
  obtain ⟨L,ts,rfl,ho,h⟩:=h;split at h
  ·obtain ⟨fb,h⟩:=h;have h0:=ho.lo;have h1:=ho.hi;have h2:=ho.big;refine ⟨Zb [],VV [],Xj [],Xj [],Xj [298],1,false,sM,Ta rfl,wN ?_⟩;have h:=h _ rfl;refine ⟨L,ts,rfl,ho,fun b hst=>?_⟩
   cases b with
   | false =>
    rw [Zab,Tj hst] at h;(conv=>whnf);exact m74
   | true =>
   rw [Zab,Tg (by rw [hst];simp)] at h;have ye:=ho.tl (Zmu hst);have hbt:=ye.hi;(conv=>whnf);refine ⟨L,ts,rfl,ho,fun fin=>Or.inl ⟨rfl,wN ?_⟩⟩;refine ZDc (fun hc=>wN ?_) (fun hc=>wN ?_)
   ·rw [Tj (show (hd ts).kind=2 by omega)] at h
    repeat (refine ⟨rfl,?_⟩;conv=>whnf)
    exact m96
   rw [Tg (show ¬(hd ts).kind=2 by omega)] at h;refine ZDc (fun hc=>wN ?_) (fun hc=>wN ?_)
   ·rw [Tj (show (hd ts).kind=3 by omega)] at h
    repeat (refine ⟨rfl,?_⟩;conv=>whnf)
    exact m96
   rw [Tg (show ¬(hd ts).kind=3 by omega)] at h;refine ZDc (fun hc=>wN ?_) (fun hc=>wN ?_)
   ·rw [Tj (show (hd ts).text=[40] from hc)] at h;refine ⟨_,fun _ _ h=>h,Ta rfl,wN ?_⟩;refine ⟨L,ts,rfl,ho,[[40]],rfl,sM,fun b ek=>?_⟩
    cases b with
    | false =>
     exact m169
    | true =>
    rw [Zt,Tj ek] at h;(conv=>whnf);refine ZDc (fun hc=>wN ?_) (fun hc=>wN ?_)
    ·rw [Tj oM] at h;exact m74
    rw [Tg oM] at h;refine ⟨L,ts,rfl,ho,fun x hx=>?_⟩;rw [ZW,Tj ek] at hx;subst hx;intro a1 ee av
    have cj:=av.hi;(conv=>whnf);refine Or.inl ⟨InR.i64 oM oM,wN ?_⟩;refine ⟨_,fun _ _ h=>h,Ta rfl,wN ?_⟩;refine ⟨L,ts.tail,rfl,av,⟨oM,oM,oM⟩,fun x ce=>?_⟩;rcases x with ⟨v2,ts2⟩ | ⟨r2,e2⟩
    rotate_left
    ·exact m40
    rw [ce,R.bind_ok] at h;intro a2 gt aj
    have fy:=aj.hi;obtain ⟨v2a,v2b,v2c,v2d,v2e⟩:=v2;(conv=>whnf);exact m166
   rw [Tg (show ¬(hd ts).text=[40] from hc)] at h;refine ZDc (fun hc=>wN ?_) (fun hc=>wN ?_)
   ·rw [Tj (show (hd ts).text=[91] from hc)] at h;refine ⟨L,ts,rfl,ho,⟨fb,sM⟩,fun x dk=>?_⟩;rcases x with ⟨v1,ts1⟩ | ⟨r1,e1⟩
    rotate_left
    ·exact m47
    rw [dk,R.bind_ok] at h;intro a1 ee av
    have cj:=av.hi;(conv=>whnf);rw [<- Zh];exact h _ oM av
   rw [Tg (show ¬(hd ts).text=[91] from hc)] at h;refine ZDc (fun hc=>wN ?_) (fun hc=>wN ?_)
   ·rw [Tj (show (hd ts).text=[36] from hc)] at h;refine Or.inl ⟨InR.i64 oM oM,wN ?_⟩;refine ⟨L,ts.tail,rfl,ye,fun x dk=>?_⟩;rcases x with ⟨v1,ts1⟩ | ⟨r1,e1⟩
    rotate_left
    ·exact m47
    rw [dk,R.bind_ok] at h;intro a1 ee av
    have cj:=av.hi;(conv=>whnf);refine ⟨L,ts1,rfl,av,[[40]],rfl,sM,fun b og=>?_⟩
    cases b with
    | false =>
     rw [Tg (by rw [og];simp)] at h;(conv=>whnf);exact h _ oM av
    | true =>
    rw [Tj og] at h;(conv=>whnf);refine ⟨L,ts1,rfl,av,⟨fb,sM⟩,fun x et=>?_⟩;rcases x with ⟨v3,ts3⟩ | ⟨r3,e3⟩
    rotate_left
    ·exact m20
    exact m134
   rw [Tg (show ¬(hd ts).text=[36] from hc)] at h;intro n hn
   conv=>whnf
   refine ZDe (fun hc=>wN ?_) (fun hc=>wN ?_)
   ·rw [Tj (show YO (hd ts).text≠0 by omega)] at h;refine Or.inl ⟨InR.i64 oM oM,wN ?_⟩;intro n2 gy
    conv=>whnf
    refine ⟨L,ts.tail,rfl,ye,⟨fb,rfl,rfl⟩,YO (hd ts).text,gy.symm,fun x dk=>?_⟩;rcases x with ⟨v1,ts1⟩ | ⟨r1,e1⟩
    rotate_left
    ·exact m47
    rw [dk,R.bind_ok] at h;intro a1 ee av
    have cj:=av.hi;(conv=>whnf);rw [<- gy,<- Zh];exact h _ oM av
   rw [Tg (show ¬YO (hd ts).text≠0 by omega)] at h;refine ZDc (fun hc=>wN ?_) (fun hc=>wN ?_)
   ·rw [Tj (show (hd ts).text=[110,105,108] from hc)] at h;exact m96
   rw [Tg (show ¬(hd ts).text=[110,105,108] from hc)] at h;refine ZDc (fun hc=>wN ?_) (fun hc=>wN ?_)
   ·rw [Tj (show (hd ts).text=[95] from hc)] at h;exact m96
   rw [Tg (show ¬(hd ts).text=[95] from hc)] at h
   repeat (refine ⟨rfl,?_⟩;conv=>whnf)
   exact m96
  exact h.elim
 exact h.elim
noncomputable def ZkV (d:Nat):Tbl:=[(270,ZhX d)]
noncomputable def ZkW (d:Nat):Tbl:=[(134,ZhP),(141,Xr),(133,YU),(285,ZkN Tryz.f285 (ZkV d))]
noncomputable def ZkX (d:Nat):Tbl:=[(139,Wv),(134,ZhP),(189,ZkN Tryz.f189 (ZkW d)),(286,Zaf d)]
theorem ZpD {d:Nat} (ht:TO w0 nG (ZkX d)):PC w0 nG 270 (Zce d):=by
 refine Jp Zc mixed (tbl:=ZkX d) ht Tryz.func270 rfl kR kR ?_;intro args σ K h
 unfold Zce Zin Xp at h
 split at h
 ·rename_i rest t rows a en dp
  obtain ⟨L,ts,rfl,ho,h⟩:=h;split at h
  ·obtain ⟨fb,h⟩:=h;have h0:=ho.lo;have h1:=ho.hi;have h2:=ho.big;refine ⟨Zb [],VV [(3,4)],Xj [],1,false,sM,Ta rfl,wN ?_⟩;have h:=h _ rfl;rw [Zmt,Zdg] at h;refine ⟨L,ts,rfl,ho,wN ?_⟩;refine ⟨dM,dM,wN ?_⟩;refine ⟨L,ts,rfl,ho,[[45]],rfl,sM,fun b hw8=>?_⟩
   cases b with
   | true =>
    rw [Tj hw8] at h;(conv=>whnf);refine ⟨_,fun _ _ h=>h,Ta rfl,wN ?_⟩;refine ⟨L,ts,rfl,ho,[[45]],rfl,sM,fun b ek=>?_⟩;exact m16
   | false =>
   rw [Tg (by rw [hw8];simp)] at h;(conv=>whnf);refine Or.inl ⟨InR.i64 dM dM,wN ?_⟩;refine ⟨dM,dM,wN ?_⟩;refine ⟨L,ts,rfl,ho,[[126]],rfl,sM,fun b f9=>?_⟩
   cases b with
   | true =>
    rw [Tj f9] at h;(conv=>whnf);refine ⟨_,fun _ _ h=>h,Ta rfl,wN ?_⟩;refine ⟨L,ts,rfl,ho,[[126]],rfl,sM,fun b ek=>?_⟩;exact m16
   | false =>
   rw [Tg (by rw [f9];simp)] at h;(conv=>whnf);refine Or.inl ⟨InR.i64 dM dM,wN ?_⟩;rw [show Jx (Zgh d) 6 1=Zdh d from (ZsB d).symm] at h;refine ⟨L,ts,rfl,ho,fb,fun x dk=>?_⟩;exact m78
  exact h.elim
 exact h.elim
noncomputable def Ze6 (d j:Nat):Zo:=Xp fun rest L en dp a ts K=>match rest with
 | [.d (.int .i64 least)]=>((dp=64 - (d:Int)/\0<=dp)/\1<=least/\least<=6/\6<=least+(j:Int))/\∀x,Jx (Xw d) j least.toNat ts=x->RKk (fun (v:Ex)=>ZaX (YP (Ze L en) v)) L en dp a x K
 | _=>False
noncomputable def Zdq (d j:Nat):Zo:=Xp fun rest L en dp a ts K=>match rest with
 | [.d (.int .i64 least)]=>((dp=64 - (d:Int)/\0<=dp)/\0<j/\1<=least/\least<=6/\7<=least+(j:Int))/\∀x,Jx (Xw d) (j - 1) least.toNat ts=x->RKk (fun (v:Ex)=>ZaX (YP (Ze L en) v)) L en dp a x K
 | _=>False
theorem ZpE (ts:Ts):(ZaU ts).1<=5/\(ZaU ts).2<=255:=by
 unfold ZaU
 repeat' (first | (split;decide) | split)
 all_goals decide
theorem ZhY (sub : Nat -> Ts -> R Ex) (least f : Nat) (e : Ex) (ts : Ts) : U8 sub least (f + 1) e ts = if (ZaU ts).1 < least \/ (ZaU ts).1 = 0 then .ok e ts
      else (sub ((ZaU ts).1+1) ts.tail).bind fun g ts'=>U8 sub least f (.mk (ZaU ts).2 [] 0 [e,g] e.at') ts':=rfl
theorem Zmw {sub:Nat->Ts->R Ex} {least f:Nat} {e:Ex} {ts:Ts} (h:6<=least):U8 sub least (f+1) e ts=.ok e ts:=by
 rw [ZhY,Tj];have:=(ZpE ts).1;omega
theorem ZvX {ts:Ts} (h:(ZaU ts).1≠0):ts≠[]:=by rintro rfl;exact h rfl
theorem ZsC (sg:Ts->R Ex) (j least:Nat) (ts:Ts) (h:6<=least+j):Jx sg j least ts=(sg ts).bind fun e ts=>U8 (Jx sg (j - 1)) least (ts.length+1) e ts:=by
 cases j with
 | zero =>
  rw [Jx]
  cases sg ts with
  | ok e ts=>rw [R.bind_ok,Zmw oM]
  | err r e=>rfl
 | succ j=>rfl
noncomputable def ZpF (d j:Nat):Tbl:=[(270,Zce d),(271,Zsw),(252,Zdq d j)]
theorem ZpG {d j:Nat} (ht:TO w0 nG (ZpF d j)):PC w0 nG 252 (Ze6 d j):=by
 refine Zd Zc mixed (tbl:=ZpF d j) ht Tryz.func252 rfl kR kR ?_;intro args σ K h
 unfold Ze6 Xp at h
 split at h
 ·rename_i rest t rows a en dp
  obtain ⟨L,ts,rfl,ho,h⟩:=h;split at h
  ·rename_i least
   obtain ⟨⟨fb,cn,gl,me⟩,h⟩:=h;have h0:=ho.lo;have h1:=ho.hi;have h2:=ho.big;refine ⟨Zb [(2,⟨[],[0,1,4,5],fun vs σ=>∃(u1:Nat) (u2:Bs) (u3:Int) (u4:List Ex) (u5:Nat) (a':Int) (ts':Ts) (f:Nat),vs=[]/\σ=⟨[.cells t [.d (.sl (ZM L)),.d (.int .i64 a'),.d (.int .i64 en),.d (.int .i64 dp)],.cells 74 [.d (.int .u8 0),.d (.str []),.d (.int .i64 0),.sl 0 74 [],.d (.int .i64 0)],.cells 74 [.d (.int .u8 u1),.d (.str u2),.d (.int .i64 u3),.d (.sl (Yn (Ze L en) u4)),.d (.int .i64 (Ze L en u5))]],[0],1⟩/\ROK L a' ts'/\a<=a'/\ts'.length<f/\RKk (fun (v:Ex)=>ZaX (YP (Ze L en) v)) L en dp a (U8 (Jx (Xw d) (j - 1)) least.toNat f (.mk u1 u2 u3 u4 u5) ts') (fun pe a' dp'=>K pe ⟨[.cells t [.d (.sl (ZM L)),.d (.int .i64 a'),.d (.int .i64 en),.d (.int .i64 dp')]],[],0⟩),fun _ σ=>match σ with | ⟨.cells _ [_,.d (.int _ i),_,_]::_,_,_⟩=>((L.length:Int) - i).toNat | _=>0⟩)],1,false,sM,Ta rfl,wN ?_⟩;have h:=h _ rfl;rw [ZsC _ _ _ _ oM] at h;refine ⟨L,ts,rfl,ho,fb,fun x dk=>?_⟩;rcases x with ⟨v1,ts1⟩ | ⟨r1,e1⟩
   rotate_left
   ·exact m47
   rw [dk,R.bind_ok] at h;intro a1 ee av
   have cj:=av.hi;obtain ⟨v1a,v1b,v1c,v1d,v1e⟩:=v1;(conv=>whnf);refine ⟨⟨v1a,v1b,v1c,v1d,v1e,a1,ts1,ts1.length+1,rfl,rfl,av,oM,oM,h⟩,?_⟩
   clear h dk av cj ee
   intro vs σ hI
   obtain ⟨u1,u2,u3,u4,u5,a',ts',f,rfl,rfl,cm,aa8,hf,h⟩:=hI;obtain ⟨f,rfl⟩:∃g,f=g+1:=⟨f - 1,oM⟩
   rw [ZhY] at h;have om:=cm.hi;have qs:=cm.len;(conv=>whnf);refine ⟨L,ts',rfl,cm,fun n op hn gh=>wN ?_⟩;have aei:=ZpE ts';refine ZDc (fun hc=>wN ?_) (fun hc=>wN ?_)
   ·rw [Tj oM] at h;exact h _ oM cm
   refine ZDc (fun cu=>wN ?_) (fun cu=>wN ?_)
   ·rw [Tj oM] at h;exact h _ oM cm
   rw [Tg oM] at h;have aj:=cm.tl (ZvX oM);have fy:=aj.hi;have fk:=aj.len;refine Or.inl ⟨InR.i64 oM oM,wN ?_⟩;refine Or.inl ⟨InR.i64 oM oM,wN ?_⟩;refine ⟨L,ts'.tail,rfl,aj,⟨fb,oM,oM,oM,oM⟩,fun x et=>?_⟩;rw [show (n+1).toNat=(ZaU ts').1+1 by omega] at et;rcases x with ⟨v3,ts3⟩ | ⟨r3,e3⟩
   rotate_left
   ·exact m20
   rw [et,R.bind_ok] at h;intro a3 f8 bq
   have jf:=bq.hi;obtain ⟨v3a,v3b,v3c,v3d,v3e⟩:=v3;(conv=>whnf);have iq:=bq.len;obtain rfl:op=((ZaU ts').2:Int):=gh.symm;refine ⟨⟨(ZaU ts').2,[],0,[.mk u1 u2 u3 u4 u5,.mk v3a v3b v3c v3d v3e],u5,a3,ts3,f,rfl,rfl,bq,oM,oM,h⟩,?_⟩;exact m156
  exact h.elim
 exact h.elim
noncomputable def ZpH (d:Nat):Tbl:=[(252,Ze6 d 6)]
theorem ZvY {d:Nat} (ht:TO w0 nG (ZpH d)):PC w0 nG 225 (Ze5 d):=by
 refine Zd Zc mixed (tbl:=ZpH d) ht Tryz.func225 rfl kR kR ?_;intro args σ K h
 unfold Ze5 Zin Xp at h
 split at h
 ·rename_i rest t rows a en dp
  obtain ⟨L,ts,rfl,ho,h⟩:=h;split at h
  ·obtain ⟨fb,h⟩:=h;have h0:=ho.lo;have h1:=ho.hi;have h2:=ho.big;refine ⟨Zb [],1,false,sM,Ta rfl,wN ?_⟩;have h:=h _ rfl;refine ⟨L,ts,rfl,ho,⟨fb,oM,oM,oM⟩,fun x dk=>?_⟩;rw [Zac] at h
   change Jx (Xw d) 6 1 ts=x at dk
   exact m78
  exact h.elim
 exact h.elim
noncomputable abbrev ZvZ (d:Nat):Zo:=Zin (fun L en (v:Li)=>ZaX (XD (Ze L en) v)) (Zmn d (Zd8 d)) 0 d
noncomputable abbrev ZhZ (d:Nat):Zo:=Zin (fun L en (v:List Li)=>.d (.sl (v.map (XD (Ze L en))))) (Zmo d) 0 d
noncomputable abbrev Zgi (d:Nat):Zo:=ZvU (fun L en (v:List Li)=>.d (.sl (v.map (XD (Ze L en))))) (Zd8 d) 0 d
theorem ZsD (d:Nat):Zmo d=XW [44] 32 Z5 (Zmn d (Zd8 d)):=by cases d <;> rfl
noncomputable def ZkY (d:Nat):Zo:=Xp fun rest L en dp a ts K=>match rest with
 | [.d (.bool b)]=>(dp=64 - (d:Int)/\0<=dp)/\∀x,Zpe d b ts=x->RKk (fun (v:Ru)=>ZaX (Z8 (Ze L en) v)) L en dp (a+1) x K
 | _=>False
theorem JB {ts:Ts}:∀{ws:List Bs} {i k:Nat},ZbF ts i ws=some k->i<=k/\k<i+ws.length
 | [],i,k,h=>by simp [ZbF] at h
 | w::ws,i,k,h=>by
  rw [ZbF] at h;split at h
  ·cases h;simp
  have:=JB h;simp only [Tc];omega
theorem Za2 {ts:Ts} (h:ZbF ts 0 ZX=none):Zdi ts=.err ts.length 150:=by rw [Zdi,h]
theorem Zdr {ts:Ts} {j:Nat} (h:ZbF ts 0 ZX=some 0) (h2:ZbF ts.tail 0 Ym=some j):Zdi ts=.ok (9+j) ts.tail.tail:=by rw [Zdi,h];simp only [h2]
theorem Zgj {ts:Ts} (h:ZbF ts 0 ZX=some 0) (h2:ZbF ts.tail 0 Ym=none):Zdi ts=.ok 3 ts.tail:=by rw [Zdi,h];simp only [h2]
theorem Zds {ts:Ts} {k:Nat} (h:ZbF ts 0 ZX=some (k+1)):Zdi ts=.ok (3+(k+1)) ts.tail:=by rw [Zdi,h];rfl
noncomputable def ZkZ:Tbl:=[(224,(Jy ZV)),(134,ZhP)]
theorem ZsE (ht:TO w0 nG ZkZ):PC w0 nG 227 (ZkI Z5):=by
 refine Zd Zc mixed (tbl:=ZkZ) ht Tryz.func227 rfl kR kR ?_;intro args σ K h
 unfold ZkI Zpr at h
 split at h
 ·rename_i rest t0 t rows a en dp
  obtain ⟨L,ts,rfl,ho,h⟩:=h;split at h
  ·skip
   refine ⟨Zb [],2,false,sM,Ta rfl,wN ?_⟩;refine ⟨L,ts,rfl,ho,fun b hb=>?_⟩
   cases b with
   | true =>
    conv=>whnf
    exact h _ (by rw [Z5,hb];rfl)
   | false =>
   conv=>whnf
   refine ⟨L,ts,rfl,ho,[[33]],rfl,sM,fun b hw=>wN ?_⟩;exact h _ (by rw [Z5,hb,hw];rfl)
  exact h.elim
 exact h.elim
noncomputable def ZpI (d:Nat):Tbl:=[(226,Zge d)]
theorem Zv0 {d:Nat} (ht:TO w0 nG (ZpI d)):PC w0 nG 193 (ZhZ d):=by
 refine Zd Zc mixed (tbl:=ZpI d) ht Tryz.func193 rfl kR kR ?_;intro args σ K h
 unfold ZhZ Zin Xp at h
 split at h
 ·rename_i rest t rows a en dp
  obtain ⟨L,ts,rfl,ho,h⟩:=h;split at h
  ·obtain ⟨fb,h⟩:=h;have h0:=ho.lo;have h1:=ho.hi;have h2:=ho.big;refine ⟨Zb [],1,false,sM,Ta rfl,wN ?_⟩;have h:=h _ rfl;rw [ZsD] at h;refine ⟨⟨rfl,rfl,rfl,rfl,fb⟩,L,ts,rfl,ho,fun x dk=>?_⟩;rcases x with ⟨v1,ts1⟩ | ⟨r1,e1⟩
   rotate_left
   ·rw [dk] at h;intro a9 d9;(conv=>whnf);exact h _ _
   rw [dk] at h;intro a1 ee av
   have cj:=av.hi;(conv=>whnf);exact h _ oM av
  exact h.elim
 exact h.elim
noncomputable def ZpJ (d:Nat):Tbl:=[(193,Zgi d)]
noncomputable def ZpK (d:Nat):Tbl:=[(134,ZhP),(141,Xr),(133,YU),(255,ZkN Tryz.f255 (ZpJ d))]
noncomputable def Zt1 (d:Nat):Tbl:=[(139,Wv),(185,XZ),(183,Zad),(143,Jy ZE),(140,Xx),(192,Zdp d),(225,Ze5 d),(148,ZsA),(133,YU),(141,Xr),(189,ZkN Tryz.f189 (ZpK d))]
theorem ZyG {d:Nat} (ht:TO w0 nG (Zt1 d)):PC w0 nG 228 (ZvZ d):=by
 refine ZfN Zc mixed (tbl:=Zt1 d) ht Tryz.func228 rfl kR kR ?_;intro args σ K h
 unfold ZvZ Zin Xp at h
 split at h
 ·rename_i rest t rows a en dp
  obtain ⟨L,ts,rfl,ho,h⟩:=h;split at h
  ·obtain ⟨fb,h⟩:=h;have h0:=ho.lo;have h1:=ho.hi;have h2:=ho.big;refine ⟨Zb [],VV [],Xj [],Xj [50],Xj [],1,false,sM,Ta rfl,wN ?_⟩;have h:=h _ rfl;rw [Zmn] at h;refine ⟨L,ts,rfl,ho,wN ?_⟩;refine ⟨L,ts,rfl,ho,[[33]],rfl,sM,fun ek av=>wN ?_,fun ek=>wN ?_⟩
   ·rw [Tj ek] at h;have cj:=av.hi;refine ⟨L,ts.tail,rfl,av,fun fin=>Or.inr ⟨rfl,wN ?_⟩⟩;rw [Zdj] at h;refine ⟨L,ts.tail,rfl,av,fun x jg=>?_⟩;exact m42
   rw [Tg (by rw [ek];simp)] at h;refine ⟨L,ts,rfl,ho,fun fin=>Or.inr ⟨rfl,wN ?_⟩⟩;refine ⟨L,ts,rfl,ho,fun b hn=>?_⟩
   cases b with
   | false =>
    rw [Tg (by rw [hn];simp)] at h;(conv=>whnf);exact m0
   | true =>
   conv=>whnf
   refine ZDc (fun hc=>wN ?_) (fun hc=>wN ?_)
   ·refine ZDc (fun cu=>wN ?_) (fun cu=>wN ?_)
    ·rw [Tj ⟨hn,oM,cu⟩] at h;rw [Zdj] at h;refine ⟨L,ts,rfl,ho,fun x jg=>?_⟩;exact m42
    rw [Tg (fun g=>cu g.2.2)] at h;exact m0
   rw [Tg (fun g=>hc (by have:=g.2.1;omega))] at h;exact m0
  exact h.elim
 exact h.elim
noncomputable def ZpL (d:Nat):Tbl:=[(139,Wv),(140,Xx),(192,Zdp d),(185,XZ),(193,ZhZ d),(141,Xr)]
theorem Zv1 {d:Nat} (ht:TO w0 nG (ZpL d)):PC w0 nG 144 (ZkY d):=by
 refine Zd Zc mixed (tbl:=ZpL d) ht Tryz.func144 rfl kR kR ?_;intro args σ K h
 unfold ZkY Xp at h
 split at h
 ·rename_i rest t rows a en dp
  obtain ⟨L,ts,rfl,ho,h⟩:=h;split at h
  ·rename_i bodies
   obtain ⟨fb,h⟩:=h;have h0:=ho.lo;have h1:=ho.hi;have h2:=ho.big;refine ⟨Zb [],1,false,sM,Ta rfl,wN ?_⟩;have h:=h _ rfl;rw [Zpe] at h;refine ⟨L,ts,rfl,ho,wN ?_⟩;refine ⟨L,ts,rfl,ho,fun x dk=>?_⟩;rcases x with ⟨v1,ts1⟩ | ⟨r1,e1⟩
   rotate_left
   ·exact m47
   rw [dk,R.bind_ok] at h;intro a1 ee av
   have cj:=av.hi;(conv=>whnf);refine ⟨L,ts1,rfl,av,⟨fb,sM⟩,fun x ce=>?_⟩;have aej:=fb;rcases x with ⟨v2,ts2⟩ | ⟨r2,e2⟩
   rotate_left
   ·exact m40
   rw [ce,R.bind_ok] at h;intro a2 gt aj
   have fy:=aj.hi;(conv=>whnf)
   cases bodies with
   | false =>
    rw [Tg sM] at h;(conv=>whnf);refine ⟨L,ts2,rfl,aj,fun x et=>?_⟩;rcases x with ⟨v3,ts3⟩ | ⟨r3,e3⟩
    rotate_left
    ·exact m20
    exact m134
   | true =>
   conv=>whnf
   refine ⟨L,ts2,rfl,aj,[[58,45]],rfl,sM,fun nt bq=>wN ?_,fun nt=>wN ?_⟩
   ·rw [Tj ⟨rfl,nt⟩] at h;have jf:=bq.hi;refine ⟨L,ts2.tail,rfl,bq,fb,fun x ll=>?_⟩;rcases x with ⟨v4,ts4⟩ | ⟨r4,e4⟩
    rotate_left
    ·exact m94
    rw [ll,R.bind_ok] at h;intro a4 l0 fu
    have qn:=fu.hi;(conv=>whnf);refine ⟨L,ts4,rfl,fu,fun x jx=>?_⟩;rcases x with ⟨v5,ts5⟩ | ⟨r5,e5⟩
    rotate_left
    ·exact m39
    rw [jx,R.bind_ok] at h;intro a5 ku gb
    have sv:=gb.hi;(conv=>whnf);rw [<- Zh,<- Zp];exact h _ oM gb
   rw [Tg (by rw [nt];simp)] at h;refine ⟨L,ts2,rfl,aj,fun x ll=>?_⟩;rcases x with ⟨v4,ts4⟩ | ⟨r4,e4⟩
   rotate_left
   ·exact m94
   rw [ll,R.bind_ok] at h;intro a4 l0 fu
   have qn:=fu.hi;(conv=>whnf);rw [<- Zh];exact h _ oM fu
  exact h.elim
 exact h.elim
def Zmx:Nat->Ts->R Un
 | 0=>fun _=>.err 0 150
 | d+1=>Zpi d
theorem ZsF (d:Nat):Zpi d=Zmp true d (Zmx d):=by cases d <;> rfl
def Zv2 (b:Bool) (d:Nat) (ts:Ts):R Un:=Zmp b d (Zmx d) ts
noncomputable def Zdt (d:Nat):Zo:=Xp fun rest L en dp a ts K=>match rest with
 | [.d (.bool b)]=>(dp=64 - (d:Int)/\0<=dp)/\∀x,Zv2 b d ts=x->RKk (fun (v:Un)=>ZaX (Xb (Ze L en) v)) L en dp a x K
 | _=>False
noncomputable def Up (d:Nat):Zo:=Xp fun rest L en dp a ts K=>match rest with
 | [.d (.bool b)]=>(0<d/\dp=65 - (d:Int)/\0<=dp/\b=true)/\∀x,Zmx d ts=x->RKk (fun (v:Un)=>ZaX (Xb (Ze L en) v)) L en dp a x K
 | _=>False
noncomputable abbrev Zk0 (d:Nat):Zo:=Zin (fun L en (v:Co)=>ZaX (YY (Ze L en) v)) (Zpf d (Zmx d)) 0 d
noncomputable def Zk1 (d:Nat):Tbl:=[(80,Up d)]
noncomputable def Zk2 (d:Nat):Tbl:=[(134,ZhP),(141,Xr),(133,YU),(190,ZkN Tryz.f190 (Zk1 d))]
noncomputable def ZpM (d:Nat):Tbl:=[(139,Wv),(140,Xx),(142,Zdm),(185,XZ),(189,ZkN Tryz.f189 (Zk2 d))]
theorem Zv3 {d:Nat} (ht:TO w0 nG (ZpM d)):PC w0 nG 138 (Zk0 d):=by
 refine Zd Zc mixed (tbl:=ZpM d) ht Tryz.func138 rfl kR kR ?_;intro args σ K h
 unfold Zk0 Zin Xp at h
 split at h
 ·rename_i rest t rows a en dp
  obtain ⟨L,ts,rfl,ho,h⟩:=h;split at h
  ·obtain ⟨fb,h⟩:=h;have h0:=ho.lo;have h1:=ho.hi;have h2:=ho.big;refine ⟨Zb [],1,false,sM,Ta rfl,wN ?_⟩;have h:=h _ rfl;rw [Zpf] at h;refine ⟨L,ts,rfl,ho,wN ?_⟩;refine ⟨L,ts,rfl,ho,fun x dk=>?_⟩;rcases x with ⟨v1,ts1⟩ | ⟨r1,e1⟩
   rotate_left
   ·exact m47
   rw [dk,R.bind_ok] at h;intro a1 ee av
   have cj:=av.hi;(conv=>whnf);refine ⟨L,ts1,rfl,av,fun x ce=>?_⟩;rcases x with ⟨v2,ts2⟩ | ⟨r2,e2⟩
   rotate_left
   ·exact m40
   rw [ce,R.bind_ok] at h;intro a2 gt aj
   have fy:=aj.hi;(conv=>whnf);refine ⟨L,ts2,rfl,aj,[[58]],rfl,sM,fun nt bq=>wN ?_,fun nt=>wN ?_⟩
   ·rw [Tj nt] at h;have jf:=bq.hi;refine ⟨L,ts2.tail,rfl,bq,fun x ll=>?_⟩;rcases x with ⟨v4,ts4⟩ | ⟨r4,e4⟩
    rotate_left
    ·exact m94
    rw [ll,R.bind_ok] at h;intro a4 l0 fu
    have qn:=fu.hi;(conv=>whnf);refine ⟨L,ts4,rfl,fu,fun x jx=>?_⟩;rcases x with ⟨v5,ts5⟩ | ⟨r5,e5⟩
    rotate_left
    ·exact m39
    rw [jx,R.bind_ok] at h;intro a5 ku gb
    have sv:=gb.hi;(conv=>whnf);refine ⟨_,fun _ _ h=>h,Ta rfl,wN ?_⟩;refine ⟨L,ts5,rfl,gb,[[123]],rfl,sM,fun b lm=>?_⟩
    cases b with
    | false =>
     rw [Zt,Tg (by rw [lm];simp),R.bind_err] at h;(conv=>whnf);refine ⟨L,ts5,rfl,gb,fun x hx=>?_⟩;rw [ZW,Tg (by rw [lm];simp)] at hx;exact m163
    | true =>
    rw [Zt,Tj lm] at h;(conv=>whnf);refine ZDc (fun hc=>wN ?_) (fun hc=>wN ?_)
    ·rw [Tj oM,R.bind_err] at h;refine ⟨L,ts5,rfl,gb,wN ?_⟩;exact h _ _
    rw [Tg oM] at h;refine ⟨L,ts5,rfl,gb,fun x hx=>?_⟩;rw [ZW,Tj lm] at hx;subst hx;intro a7 ww qt
    have hb7:=qt.hi;(conv=>whnf);refine Or.inl ⟨InR.i64 oM oM,wN ?_⟩;refine ⟨_,fun _ _ h=>h,Ta rfl,wN ?_⟩;refine ⟨L,ts5.tail,rfl,qt,⟨oM,oM,oM,rfl⟩,fun x uj=>?_⟩;exact m36
   rw [Tg (by rw [nt];simp)] at h;refine ⟨_,fun _ _ h=>h,Ta rfl,wN ?_⟩;refine ⟨L,ts2,rfl,aj,[[123]],rfl,sM,fun b lm=>?_⟩
   cases b with
   | false =>
    rw [Zt,Tg (by rw [lm];simp),R.bind_err] at h;(conv=>whnf);refine ⟨L,ts2,rfl,aj,fun x hx=>?_⟩;rw [ZW,Tg (by rw [lm];simp)] at hx;exact m163
   | true =>
   rw [Zt,Tj lm] at h;(conv=>whnf);refine ZDc (fun hc=>wN ?_) (fun hc=>wN ?_)
   ·rw [Tj oM,R.bind_err] at h;refine ⟨L,ts2,rfl,aj,wN ?_⟩;exact h _ _
   rw [Tg oM] at h;refine ⟨L,ts2,rfl,aj,fun x hx=>?_⟩;rw [ZW,Tj lm] at hx;subst hx;intro a7 ww qt
   have hb7:=qt.hi;(conv=>whnf);refine Or.inl ⟨InR.i64 oM oM,wN ?_⟩;refine ⟨_,fun _ _ h=>h,Ta rfl,wN ?_⟩;refine ⟨L,ts2.tail,rfl,qt,⟨oM,oM,oM,rfl⟩,fun x uj=>?_⟩;exact m36
  exact h.elim
 exact h.elim
noncomputable def ZpN (d:Nat):Tbl:=[(134,ZhP),(135,ZkE),(136,Zgg),(137,ZkJ),(138,Zk0 d),(139,Wv),(140,Xx),(141,Xr),(142,Zdm),(143,Jy ZE),(144,ZkY d),(133,YU)]
theorem Zh0 (inside:Bool) (d:Nat) (un:Ts->R Un) (f:Nat) (tys:List Ty) (rels:List Re) (rules:List Ru) (comps:List Co) (inits:List Ini) (overs:List Ov) (ts:Ts):XY inside d un (f+1) (.mk tys rels rules comps inits overs) ts =
  if ts=[]\/(inside=true/\isW ts [[125]]=true) then .ok (.mk tys rels rules comps inits overs) ts
  else if isW ts [[116,121,112,101]]=true then (if tys.length=256 then .err ts.length 3 else (ZhK ts.tail).bind fun x ts=>XY inside d un f (.mk (tys++[x]) rels rules comps inits overs) ts)
  else if isW ts [[100,101,99,108]]=true then (if rels.length=256 then .err ts.length 3 else (Zpd ts.tail).bind fun x ts=>XY inside d un f (.mk tys (rels++[x]) rules comps inits overs) ts)
  else if isW ts [[99,111,109,112]]=true then (if comps.length=64 then .err ts.length 3 else (Zpf d un ts.tail).bind fun x ts=>XY inside d un f (.mk tys rels rules (comps++[x]) inits overs) ts)
  else if isW ts [[105,110,105,116]]=true then (if inits.length=256 then .err ts.length 3 else (Zpg ts.tail).bind fun x ts=>XY inside d un f (.mk tys rels rules comps (inits++[x]) overs) ts)
  else if isW ts [[111,118,101,114,114,105,100,101]]=true then (if overs.length=256 then .err ts.length 3 else (Zph ts.tail).bind fun x ts=>XY inside d un f (.mk tys rels rules comps inits (overs++[x])) ts)
  else if ZE ts=true then (if rules.length=1024 then .err ts.length 3 else (Zpe d true ts).bind fun x ts=>XY inside d un f (.mk tys rels (rules++[x]) comps inits overs) ts)
  else .err ts.length 150:=rfl
theorem Zv4 {d:Nat} (ht:TO w0 nG (ZpN d)):PC w0 nG 80 (Zdt d):=by
 refine Zd Zc mixed (tbl:=ZpN d) ht Tryz.func80 rfl kR kR ?_;intro args σ K h
 unfold Zdt Xp at h
 split at h
 ·rename_i rest t rows a en dp
  obtain ⟨L,ts,rfl,ho,h⟩:=h;split at h
  ·rename_i inside
   obtain ⟨fb,h⟩:=h;have h0:=ho.lo;have h1:=ho.hi;have h2:=ho.big;refine ⟨Zb [(1,⟨[],[0,1,4],fun vs σ=>∃(tys:List Ty) (rels:List Re) (rules:List Ru) (comps:List Co) (inits:List Ini) (overs:List Ov) (a':Int) (ts':Ts) (f:Nat),vs=[]/\σ=⟨[.cells t [.d (.sl (ZM L)),.d (.int .i64 a'),.d (.int .i64 en),.d (.int .i64 dp)],.cells 80 [.sl 0 48 (tys.map (Zu (Ze L en))),.sl 1 53 (rels.map (ZN (Ze L en))),.sl 2 37 (rules.map (Z8 (Ze L en))),.sl 3 149 (comps.map (YY (Ze L en))),.sl 4 154 (inits.map (Xm (Ze L en))),.sl 5 158 (overs.map (Xn (Ze L en)))]],[5,4,3,2,1,0],6⟩/\ROK L a' ts'/\a<=a'/\ts'.length<f/\(tys.length<=256/\rels.length<=256/\rules.length<=1024/\comps.length<=64/\inits.length<=256/\overs.length<=256)/\RKk (fun (v:Un)=>ZaX (Xb (Ze L en) v)) L en dp a (XY inside d (Zmx d) f (.mk tys rels rules comps inits overs) ts') (fun pe a' dp'=>K pe ⟨[.cells t [.d (.sl (ZM L)),.d (.int .i64 a'),.d (.int .i64 en),.d (.int .i64 dp')]],[],0⟩),fun _ σ=>match σ with | ⟨.cells _ [_,.d (.int _ i),_,_]::_,_,_⟩=>((L.length:Int) - i).toNat | _=>0⟩)],1,false,sM,Ta rfl,wN ?_⟩;have h:=h _ rfl;rw [Zv2,Zmp] at h;refine ⟨⟨[],[],[],[],[],[],a,ts,ts.length+1,rfl,rfl,ho,oM,oM,sM,h⟩,?_⟩
   clear h
   intro vs σ hI
   obtain ⟨tys,rels,rules,comps,inits,overs,a',ts',f,rfl,rfl,cm,aa8,hf,aek,h⟩:=hI;obtain ⟨f,rfl⟩:∃g,f=g+1:=⟨f - 1,oM⟩
   rw [Zh0] at h;have om:=cm.hi;have qs:=cm.len;have uv:=cm.lo;(conv=>whnf);refine ZDc (fun hc=>wN ?_) (fun hc=>wN ?_)
   ·have ao:ts'≠[]:=by rintro rfl;have hc:a'<((ZM L).length:Int):=hc;rw [XP] at hc;simp at qs;omega
    cases inside with
    | false =>
     rw [Tg (by simp [ao])] at h;exact m1
    | true =>
    conv=>whnf
    refine ⟨L,ts',rfl,cm,[[125]],rfl,sM,fun b hw=>?_⟩
    cases b with
    | true =>
     rw [Tj (.inr ⟨rfl,hw⟩)] at h;(conv=>whnf)
     repeat (refine ⟨rfl,?_⟩;conv=>whnf)
     have h:=h _ oM cm;simp only [ZaX,Xb,YH,TC,TL] at h;exact h
    | false =>
    rw [Tg (by simp [ao,hw])] at h;exact m1
   have eu:ts'=[]:=by have hc:¬a'<((ZM L).length:Int):=hc;rw [XP] at hc;exact TY oM
   rw [Tj (.inl eu)] at h;have h:=h _ oM cm;simp only [ZaX,Xb,YH,TC,TL] at h;exact h
  exact h.elim
 exact h.elim
theorem ZbI:PC w0 nG 139 Wv:=Zst ⟨Jz,trivial⟩
theorem cIs:PC w0 nG 134 ZhP:=ZA7 ⟨Jz,Zjl,trivial⟩
theorem Ze7:PC w0 nG 143 (Jy ZE):=Zsu ⟨Jz,Zjk,trivial⟩
theorem VW:PC w0 nG 133 YU:=ZvP ⟨ZbI,trivial⟩
theorem Zag:PC w0 nG 185 XZ:=ZvQ ⟨cIs,trivial⟩
theorem JC:PC w0 nG 141 Xr:=ZvR ⟨Zag,VW,trivial⟩
theorem ZA8:PC w0 nG 135 ZkE:=ZvS ⟨VW,trivial⟩
theorem U9:PC w0 nG 140 Xx:=Zsv ⟨Ze7,VW,trivial⟩
theorem Zjp:PC w0 nG 224 (Jy ZV):=Zpp ⟨Jz,cIs,Zjk,ZaZ,trivial⟩
theorem ZpO:PC w0 nG 271 Zsw:=Zpq ⟨Jz,trivial⟩
theorem Zv5:PC w0 nG 221 Zgf:=Zpu ⟨U9,JC,trivial⟩
theorem Zjq:PC w0 nG 186 UM:=Zpv ⟨cIs,ZhS ⟨Ze7,VW,Zv5,Zag,trivial⟩,trivial⟩
theorem Zt2:PC w0 nG 142 Zdm:=Zsx ⟨Zag,Zmr ⟨Ze7,VW,U9,Zag,trivial⟩,JC,trivial⟩
theorem ZyH:PC w0 nG 188 Zjn:=Zsy ⟨U9,JC,Zjq,trivial⟩
theorem ZyI:PC w0 nG 136 Zgg:=Zsz ⟨ZbI,U9,Zag,JC,Zjq,Zjm ⟨Ze7,VW,ZyH,Zag,trivial⟩,trivial⟩
theorem ZA9:PC w0 nG 137 ZkJ:=ZvT ⟨ZbI,U9,Zag,JC,Zjq,trivial⟩
theorem ZCG:PC w0 nG 148 ZsA:=ZyF ⟨Zpy ⟨Zag,trivial⟩,Zpz ⟨Zag,trivial⟩,trivial⟩
theorem Zh1 (h:W8 (GG w0 nG).P 223):PC w0 nG 223 (Vj 0):=⟨h,fun args σ K hs=>by
 exfalso;unfold Vj at hs
 split at hs
 ·exact absurd hs.1.2.2.2.2.1 oM
 exact hs⟩
theorem Zh2 {d:Nat} (h:PC w0 nG 223 (Zae d)):PC w0 nG 223 (Vj (d+1)):=h.weaken1 fun args σ K hs=>by
 unfold Vj at hs
 unfold Zae
 split at hs
 ·obtain ⟨⟨h1,h2,h3,h4,h5,h6,h7⟩,hs⟩:=hs;exact ⟨⟨h1,h2,h3,h4,oM,h7⟩,hs⟩
 exact hs.elim
theorem Zmy (d:Nat) (h:W8 (GG w0 nG).P 252):PC w0 nG 252 (Zdq d 0):=⟨h,fun args σ K hs=>by
 exfalso;unfold Zdq Xp at hs
 split at hs
 ·obtain ⟨L,ts,_,_,hs⟩:=hs;split at hs
  ·exact absurd hs.1.2.1 oM
  exact hs
 exact hs⟩
theorem Zmz {d j:Nat} (h:PC w0 nG 252 (Ze6 d j)):PC w0 nG 252 (Zdq d (j+1)):=h.weaken1 fun args σ K hs=>by
 unfold Zdq Xp at hs
 unfold Ze6 Xp
 split at hs
 ·obtain ⟨L,ts,h1,h2,hs⟩:=hs;refine ⟨L,ts,h1,h2,?_⟩;split at hs
  ·exact ⟨⟨hs.1.1,hs.1.2.2.1,hs.1.2.2.2.1,by have:=hs.1.2.2.2.2;omega⟩,hs.2⟩
  exact hs.elim
 exact hs
structure Deep (w0:World) (nG d:Nat):Prop where
 sg:PC w0 nG 270 (ZhX d)
 ex:PC w0 nG 225 (Zjo d)
 many:PC w0 nG 223 (Vj d)
theorem Zk3 {d:Nat} (D:Deep w0 nG d):PC w0 nG 192 (Zdp d):=ZvV ⟨(ZbV (tb:=ZkQ d) ⟨cIs,JC,VW,(ZbV (tb:=ZkP d) ⟨cIs,D.many,trivial⟩ Tryz.func222 rfl kR kR),trivial⟩ Tryz.func189 rfl kR kR),trivial⟩
theorem ZsG {d:Nat} (D:Deep w0 nG d):PC w0 nG 298 (ZkO d):=ZvW ⟨(ZbV (tb:=ZkS d) ⟨cIs,JC,VW,(ZyE (tb:=ZkR d) ⟨JC,D.ex,trivial⟩ Tryz.func302 rfl kR kR),trivial⟩ Tryz.func189 rfl kR kR),trivial⟩
theorem Zjr {d:Nat} (D:Deep w0 nG d):PC w0 nG 286 (Zaf d):=Zmv ⟨Zjp,VW,Jz,(ZbV (tb:=ZkU d) ⟨cIs,JC,VW,(ZbV (tb:=ZkT d) ⟨D.ex,trivial⟩ Tryz.func297 rfl kR kR),trivial⟩ Tryz.func189 rfl kR kR),Zk3 D,U9,cIs,ZaZ,ZsG D,trivial⟩
theorem Za3 {d:Nat} (D:Deep w0 nG d):PC w0 nG 270 (Zce d):=ZpD ⟨ZbI,cIs,(ZbV (tb:=ZkW d) ⟨cIs,JC,VW,(ZbV (tb:=ZkV d) ⟨D.sg,trivial⟩ Tryz.func285 rfl kR kR),trivial⟩ Tryz.func189 rfl kR kR),Zjr D,trivial⟩
theorem Zk4 {d:Nat} (D:Deep w0 nG d):∀j,PC w0 nG 252 (Ze6 d j)
 | 0=>ZpG ⟨Za3 D,ZpO,Zmy d (Zk Tryz.func252 kR rfl),trivial⟩
 | j+1=>ZpG ⟨Za3 D,ZpO,Zmz (Zk4 D j),trivial⟩
theorem Zgk {d:Nat} (D:Deep w0 nG d):PC w0 nG 225 (Ze5 d):=ZvY ⟨Zk4 D 6,trivial⟩
theorem ZpP {d:Nat} (h:PC w0 nG 225 (Ze5 d)):PC w0 nG 223 (Zae d):=Zps d ⟨Zjp,VW,h,Zag,trivial⟩
theorem ZyJ:∀d,Deep w0 nG d
 | 0=>⟨Zdn (Zk Tryz.func270 kR rfl),Zdn (Zk Tryz.func225 kR rfl),Zh1 (Zk Tryz.func223 kR rfl)⟩
 | d+1=>⟨Zdo (Za3 (ZyJ d)),Zdo (Zgk (ZyJ d)),Zh2 (ZpP (Zgk (ZyJ d)))⟩
theorem ZyK (d:Nat):PC w0 nG 192 (Zdp d):=Zk3 (ZyJ d)
theorem ZBa (d:Nat):PC w0 nG 225 (Ze5 d):=Zgk (ZyJ d)
theorem ZyL:PC w0 nG 227 (ZkI Z5):=ZsE ⟨Zjp,cIs,trivial⟩
theorem Zv6 {d:Nat} (h:PC w0 nG 193 (Zgi d)):PC w0 nG 228 (ZvZ d):=ZyG ⟨ZbI,Zag,Jz,Ze7,U9,ZyK d,ZBa d,ZCG,VW,JC,(ZbV (tb:=ZpK d) ⟨cIs,JC,VW,(ZbV (tb:=ZpJ d) ⟨h,trivial⟩ Tryz.func255 rfl kR kR),trivial⟩ Tryz.func189 rfl kR kR),trivial⟩
theorem Zk5 {d:Nat} (h:PC w0 nG 193 (Zgi d)):PC w0 nG 193 (ZhZ d):=Zv0 ⟨Zpt d ⟨ZyL,VW,Zv6 h,Zag,trivial⟩,trivial⟩
theorem Zt3:∀d,PC w0 nG 193 (Zgi d)
 | 0=>Zdn (Zk Tryz.func193 kR rfl)
 | d+1=>Zdo (Zk5 (Zt3 d))
theorem ZBb (d:Nat):PC w0 nG 193 (ZhZ d):=Zk5 (Zt3 d)
theorem ZBc (d:Nat):PC w0 nG 144 (ZkY d):=Zv1 ⟨ZbI,U9,ZyK d,Zag,ZBb d,JC,trivial⟩
theorem ZmA (h:W8 (GG w0 nG).P 80):PC w0 nG 80 (Up 0):=⟨h,fun args σ K hs=>by
 exfalso;unfold Up Xp at hs
 split at hs
 ·obtain ⟨L,ts,_,_,hs⟩:=hs;split at hs
  ·exact absurd hs.1.1 oM
  exact hs
 exact hs⟩
theorem ZmB {d:Nat} (h:PC w0 nG 80 (Zdt d)):PC w0 nG 80 (Up (d+1)):=h.weaken1 fun args σ K hs=>by
 unfold Up Xp at hs
 unfold Zdt Xp
 split at hs
 ·obtain ⟨L,ts,h1,h2,hs⟩:=hs;refine ⟨L,ts,h1,h2,?_⟩;split at hs
  ·obtain ⟨⟨g1,g2,g3,rfl⟩,hs⟩:=hs;refine ⟨oM,?_⟩;rw [Zmx,ZsF] at hs;exact hs
  exact hs.elim
 exact hs
theorem ZsH {d:Nat} (h:PC w0 nG 80 (Up d)):PC w0 nG 138 (Zk0 d):=Zv3 ⟨ZbI,U9,Zt2,Zag,(ZbV (tb:=Zk2 d) ⟨cIs,JC,VW,(ZbV (tb:=Zk1 d) ⟨h,trivial⟩ Tryz.func190 rfl kR kR),trivial⟩ Tryz.func189 rfl kR kR),trivial⟩
theorem Zk6 {d:Nat} (h:PC w0 nG 80 (Up d)):PC w0 nG 80 (Zdt d):=Zv4 ⟨cIs,ZA8,ZyI,ZA9,ZsH h,ZbI,U9,JC,Zt2,Ze7,ZBc d,VW,trivial⟩
theorem Zt4:∀d,PC w0 nG 80 (Up d)
 | 0=>ZmA (Zk Tryz.func80 kR rfl)
 | d+1=>ZmB (Zk6 (Zt4 d))
theorem ZBd (d:Nat):PC w0 nG 80 (Zdt d):=Zk6 (Zt4 d)
def R.good {α:Type} (x:R α):Prop:=match x with | .ok _ _=>True | .err _ e=>e≠0
theorem ZDd {α β:Type} {x:R α} {f:α->Ts->R β} (h:x.good) (hf:∀a ts,(f a ts).good):(x.bind f).good:=by
 cases x with
 | ok a ts=>exact hf a ts
 | err r e=>exact h
theorem ZDy {α:Type} (a:α) (ts:Ts):(R.ok a ts:R α).good:=trivial
theorem ZDf {α:Type} {c:Prop} [Decidable c] {x y:R α} (h1:x.good) (h2:y.good):(if c then x else y).good:=by split;exact h1;exact h2
theorem ZDh {α:Type} {r e:Nat} (h:e≠0):(R.err r e:R α).good:=h
theorem Z6 (w:Bs) (ts:Ts):(ZW w ts).good:=ZDf trivial (ZDh dM)
theorem ZI (ts:Ts):(XV ts).good:=ZDf trivial (ZDh dM)
theorem YI {α:Type} {d:Nat} {fr tw:Bs} {read:Ts->R α} (h:∀ts,(read ts).good) (ts:Ts):(Zt d fr tw read ts).good :=
 ZDf (ZDf (ZDh dM) (ZDd (h _) fun _ _=>ZDf trivial (ZDd (Z6 _ _) fun _ _=>trivial))) (ZDh dM)
theorem Zdu {α:Type} {sign:Bs} {au:Nat} {st:Ts->Bool} {one:Ts->R α} (h:∀ts,(one ts).good):∀f l ts,(Wt sign au st one f l ts).good
 | 0,_,_=>ZDh dM
 | f+1,l,ts=>ZDf (ZDh dM) (ZDd (h _) fun _ _=>ZDf (Zdu h f _ _) trivial)
theorem Vl {α:Type} {sign:Bs} {au:Nat} {st:Ts->Bool} {one:Ts->R α} (h:∀ts,(one ts).good) (ts:Ts):(XW sign au st one ts).good:=Zdu h _ _ _
theorem ZmC (ts:Ts):(Uk ts).good:=ZDd (ZI _) fun _ _=>ZDd (Z6 _ _) fun _ _=>ZDd (ZI _) fun _ _=>trivial
theorem JD (w:Bs) (ts:Ts):(ZaV w ts).good:=ZDf trivial (Vl ZmC _)
theorem Za4 (ts:Ts):(Ze2 ts).good:=ZDf (ZDd (Vl ZI _) fun _ _=>ZDd (Z6 _ _) fun _ _=>trivial) trivial
theorem ZpQ (ts:Ts):(Zdf ts).good:=ZDd (ZI _) fun _ _=>ZDd (Z6 _ _) fun _ _=>ZDd (JD _ _) fun _ _=>ZDd (Z6 _ _) fun _ _=>trivial
theorem ZmD (ts:Ts):(ZhK ts).good:=ZDd (ZI _) fun _ _=>ZDf (ZDd (ZI _) fun _ _=>trivial) (ZDd (Z6 _ _) fun _ _ =>
 ZDf (ZDd (JD _ _) fun _ _=>ZDd (Z6 _ _) fun _ _=>trivial) (ZDd (Vl ZpQ _) fun _ _=>trivial))
theorem ZpR (ts:Ts):(Zpd ts).good:=ZDd (ZI _) fun _ _=>ZDd (Z6 _ _) fun _ _=>ZDd (JD _ _) fun _ _=>ZDd (Z6 _ _) fun _ _=>trivial
theorem Zah {d:Nat} {ex:Ts->R Ex} (h:∀ts,(ex ts).good) (fr tw:Bs) (ts:Ts):(ZhL d ex fr tw ts).good:=by
 unfold ZhL
 exact YI (fun ts=>ZDf (ZDy _ _) (Vl h _)) ts
theorem Zdv {ex:Ts->R Ex} (h:∀ts,(ex ts).good):∀k l ts,(Zaa ex k l ts).good
 | 0,_,_=>trivial
 | k+1,l,ts=>ZDd (ZDf trivial (Z6 _ _)) fun _ _=>ZDd (h _) fun _ _=>Zdv h k _ _
theorem Zh3 {d:Nat} {ex:Ts->R Ex} (h:∀ts,(ex ts).good) (ts:Ts):(Zab d ex ts).good :=
 ZDf (ZDh dM) <| ZDf trivial <| ZDf trivial <| ZDf (YI h _) <| ZDf (ZDd (Zah h _ _ _) fun _ _=>trivial) <|
 ZDf (ZDd (ZI _) fun _ _=>ZDf (ZDd (Zah h _ _ _) fun _ _=>trivial) trivial) <|
 ZDf (ZDd (YI (Zdv h _ _) _) fun _ _=>trivial) <| ZDf trivial <| ZDf trivial trivial
theorem Zdw {sub:Nat->Ts->R Ex} (h:∀n ts,(sub n ts).good) (least:Nat):∀f e ts,(U8 sub least f e ts).good
 | 0,_,_=>ZDh dM
 | f+1,e,ts=>ZDf trivial (ZDd (h _ _) fun _ _=>Zdw h least f _ _)
theorem Za5 {sg:Ts->R Ex} (h:∀ts,(sg ts).good):∀k least ts,(Jx sg k least ts).good
 | 0,_,_=>h _
 | k+1,least,ts=>ZDd (h _) fun _ _=>Zdw (fun n ts=>Za5 h k n ts) _ _ _ _
theorem ZbJ {d:Nat} {sg:Ts->R Ex} (h:∀ts,(sg ts).good) (ts:Ts):(Zdg d sg ts).good :=
 ZDf (ZDd (YI h _) fun _ _=>trivial) <| ZDf (ZDd (YI h _) fun _ _=>trivial) (Zh3 (fun ts=>Za5 h _ _ _) _)
theorem Zdx:∀d ts,(Xw d ts).good
 | 0,ts=>ZbJ (fun _=>(ZDh dM)) ts
 | d+1,ts=>ZbJ (Zdx d) ts
theorem Zdy (d:Nat) (ts:Ts):(Zac d ts).good:=Za5 (Zdx d) _ _ _
theorem Ze8:∀d ts,(Zdh d ts).good
 | 0,_=>(ZDh dM)
 | d+1,ts=>Zdy d ts
theorem ZmE (ts:Ts):(Zdi ts).good:=by
 unfold Zdi
 split
 ·exact ZDh dM
 ·split <;> trivial
 trivial
theorem ZbK (d op a:Nat) (ts:Ts):(Zdj d op a ts).good:=ZDd (ZI _) fun _ _=>ZDd (Zah (Ze8 d) _ _ _) fun _ _=>trivial
theorem Zdz {d:Nat} {bd:Ts->R (List Li)} (h:∀ts,(bd ts).good) (a op:Nat) (l:List Ex) (ts:Ts):(Wu d bd a op l ts).good :=
 ZDf (ZDd (Z6 _ _) fun _ _=>ZDd (YI h _) fun _ _=>trivial) trivial
theorem Zk7 {d:Nat} {bd:Ts->R (List Li)} (h:∀ts,(bd ts).good) (ts:Ts):(Zmn d bd ts).good :=
 ZDf (ZbK _ _ _ _) <| ZDf (ZbK _ _ _ _) <| ZDd (Zdy _ _) fun _ _=>ZDd (ZmE _) fun _ _=>ZDf (Zdz h _ _ _ _) (ZDd (Zdy _ _) fun _ _=>Zdz h _ _ _ _)
theorem Zh4:∀d ts,(Zmo d ts).good
 | 0,ts=>Vl (Zk7 fun _=>(ZDh dM)) ts
 | d+1,ts=>Vl (Zk7 (Zh4 d)) ts
theorem ZpS (d:Nat) (b:Bool) (ts:Ts):(Zpe d b ts).good:=ZDd (ZI _) fun _ _=>ZDd (Zah (Ze8 d) _ _ _) fun _ _ =>
 ZDf (ZDd (Zh4 _ _) fun _ _=>ZDd (Z6 _ _) fun _ _=>trivial) (ZDd (Z6 _ _) fun _ _=>trivial)
theorem ZpT {d:Nat} {un:Ts->R Un} (h:∀ts,(un ts).good) (ts:Ts):(Zpf d un ts).good:=ZDd (ZI _) fun _ _=>ZDd (Za4 _) fun _ _ =>
 ZDf (ZDd (ZI _) fun _ _=>ZDd (Za4 _) fun _ _=>ZDd (YI h _) fun _ _=>trivial) (ZDd (YI h _) fun _ _=>trivial)
theorem ZpU (ts:Ts):(Zpg ts).good:=ZDd (ZI _) fun _ _=>ZDd (Z6 _ _) fun _ _=>ZDd (ZI _) fun _ _=>ZDd (Za4 _) fun _ _=>trivial
theorem ZpV (ts:Ts):(Zph ts).good:=ZDd (ZI _) fun _ _=>trivial
theorem Yo {b:Bool} {d:Nat} {un:Ts->R Un} (h:∀ts,(un ts).good):∀f u ts,(XY b d un f u ts).good
 | 0,_,_=>ZDh dM
 | f+1,.mk tys rels rules comps inits overs,ts=>by
  rw [Zh0];exact ZDf trivial <| ZDf (ZDf (ZDh dM) (ZDd (ZmD _) fun _ _=>Yo h f _ _)) <| ZDf (ZDf (ZDh dM) (ZDd (ZpR _) fun _ _=>Yo h f _ _)) <|
   ZDf (ZDf (ZDh dM) (ZDd (ZpT h _) fun _ _=>Yo h f _ _)) <| ZDf (ZDf (ZDh dM) (ZDd (ZpU _) fun _ _=>Yo h f _ _)) <|
   ZDf (ZDf (ZDh dM) (ZDd (ZpV _) fun _ _=>Yo h f _ _)) <| ZDf (ZDf (ZDh dM) (ZDd (ZpS _ _ _) fun _ _=>Yo h f _ _)) (ZDh dM)
theorem Ze9:∀d ts,(Zpi d ts).good
 | 0,ts=>Yo (fun _=>(ZDh dM)) _ _ _
 | d+1,ts=>Yo (Ze9 d) _ _ _
theorem Zh5 (ts:Ts):(ZaW ts).good:=Yo (Ze9 63) _ _ _
theorem ZmF {a:Nat} {r:Bs} {room:Bool} {t:Tok} (h:Jt a r room=.tok t):room=true:=by
 cases room with
 | true=>rfl
 | false =>
 unfold Jt at h
 simp only at h;split at h
 ·cases h
 simp at h
theorem Zk8:∀(f:Nat) (m:Int) (a:Nat) (r:Bs),(Uc f m a r).1.length<=m.toNat
 | 0,m,a,r=>by simp [Uc]
 | f+1,m,a,r=>by
  unfold Uc
  split
  ·simp
  simp only;split
  ·simp
  split
  ·simp
  rename_i t ht
  have hr:=ZmF ht;rw [TM] at hr;have:=Zk8 f (m - 1) t.fin ((r.drop (YT r).2).drop (t.fin - (a+(YT r).2)));simp only [Tc];omega
theorem Zv7 (s:Bs) (m:Int):(Zd4 s m).1.length<=m.toNat:=Zk8 _ _ _ _
inductive Top (α:Type) where
 | ok (v:α) (L:List Tok) | err (p:Int) (e:Nat)
def JE {α:Type} (bytes au:Nat) (P:Ts->R α) (s:Bs):Top α :=
 if bytes<s.length then .err 0 3
 else if (Zd4 s au).2.2≠0 then .err (Zd4 s au).2.1 (Zd4 s au).2.2
 else match P ((Zd4 s au).1.map Tok.t0) with
  | .ok v []=>.ok v (Zd4 s au).1
  | .ok v (_::ts)=>.err (Ze (Zd4 s au).1 s.length (ts.length+1)) 150
  | .err r e=>.err (Ze (Zd4 s au).1 s.length r) e
theorem Zjs {α:Type} {bytes au:Nat} {P:Ts->R α} (hP:∀ts,(P ts).good) {s:Bs} {p:Int} {e:Nat} (h:JE bytes au P s=.err p e):e≠0:=by
 unfold JE at h
 split at h
 ·cases h;decide
 split at h
 ·rename_i hn;cases h;exact hn
 split at h
 ·cases h
 ·cases h;decide
 rename_i r e' he
 cases h
 have:=hP ((Zd4 s au).1.map Tok.t0);rw [he] at this;exact this
noncomputable def Zfa:Zo:=fun args σ K=>match args,σ with
 | [.d (.str s),.d (.int .i64 m)],⟨[],[],0⟩=>s.length<4294967281 /\
   ∀l p c,Zd4 s m=(l,(p,c))->(c=0->K (.ret (.tuple [.d (.sl (ZM l)),.d (.int .i64 p),.d (.int .i64 0)])) ⟨[],[],0⟩) /\
    (c≠0->K (.ret (.tuple [.d (.sl []),.d (.int .i64 p),.d (.int .i64 c)])) ⟨[],[],0⟩)
 | _,_=>False
theorem Zjt:ZK Zfa:=fun args σ K K' hK h=>by
 unfold Zfa at h |-
 split at h
 ·exact ⟨h.1,fun l p c hx=>⟨fun g=>hK _ _ ((h.2 l p c hx).1 g),fun g=>hK _ _ ((h.2 l p c hx).2 g)⟩⟩
 exact h.elim
theorem Zv8 (h:PC w0 nG 131 J9):PC w0 nG 131 Zfa:=h.weaken1 fun args σ K hs=>by
 unfold Zfa at hs
 unfold J9
 split at hs
 ·rename_i s m
  obtain ⟨h1,hs⟩:=hs;refine ⟨h1,?_⟩;have hs:=hs (Zd4 s m).1 (Zd4 s m).2.1 (Zd4 s m).2.2 rfl
  by_cases hc:(Zd4 s m).2.2=0
  ·rw [Tj hc,hc];exact hs.1 hc
  rw [Tg hc];exact hs.2 hc
 exact hs.elim
noncomputable def recOf:Nat×Nat×Code:=match Zyi (Ye Tryz.f132) with | some x=>x | none=>(0,0,.skip)
noncomputable def ZyM:List PV->St->(St->Prop)->Prop:=fun args σ K=>args.length<=Tryz.f132.ntmps/\W (ctx Zbv [] (Zb [])) recOf.2.2 (ZxM Zbv Tryz.f132 σ.bx.length K) (V0 (V0 (Zcq 0 args) recOf.1 (.d .nili)) recOf.2.1 (.d .nili)) σ
noncomputable def ZyN:PV->List PV->St->(St->Prop)->Prop:=fun pv args σ K=>args.length<=Tryz.f132.ntmps/\W (ctx Zbv [] (Zb [])) recOf.2.2 (ZxM Zbv Tryz.f132 σ.bx.length K) (V0 (V0 (Zcq 0 args) recOf.1 pv) recOf.2.1 pv) σ
theorem ZyO:PDef (GG w0 nG) 132 ZyM ZyN :=
 Zov (a:=recOf.1) (b:=recOf.2.1) (rest:=recOf.2.2) Zc mixed Tryz.func132 rfl kR rfl kR (fun args σ K h=>⟨ZxH Zbv [] (Zb []) (fun _=>0) (fun _=>false),σ.bx.length,CxG.of (tbl:=[]) Zc trivial trivial _ _ _,Tq _,h.1,h.2⟩) (fun pv args σ K h=>⟨ZxH Zbv [] (Zb []) (fun _=>0) (fun _=>false),σ.bx.length,CxG.of (tbl:=[]) Zc trivial trivial _ _ _,Tq _,h.1,h.2⟩)
def WhK {α:Type} (tU:TypeId) (enc:List Tok->Int->α->List PV) (bad:List PV->Prop) (n:Int) (x:Top α) (K:PEnd->St->Prop):Prop:=match x with
 | .ok v L=>K (.ret (.tuple [.d (.int .i64 0),.d (.int .i64 0)])) ⟨[.cells tU (enc L n v)],[],0⟩
 | .err p e=>∀cs,bad cs->K (.ret (.tuple [.d (.int .i64 p),.d (.int .i64 e)])) ⟨[.cells tU cs],[],0⟩
theorem ZpW {l:List Tok} (h:l.length<=1048576):ROK l 0 (l.map Tok.t0):=⟨oM,oM,h,by simp [tz]⟩
def ZCH (cs:List PV):Prop:=∃a b c d e f:List (List D),cs=[.d (.sl a),.d (.sl b),.d (.sl c),.d (.sl d),.d (.sl e),.d (.sl f)]
noncomputable def Zk9:Tbl:=[(80,Zdt 64)]
noncomputable def Zv9:Zo:=fun args σ K=>match args,σ with
 | [.d (.str s),.d (.int .i64 by'),.d (.int .i64 au),.func g [] [.ptr 0 0]],⟨[.cells tU c0],tk,n⟩=>(g=79/\by'=65536/\au=16384/\c0=[.sl 0 48 [],.sl 1 53 [],.sl 2 37 [],.sl 3 149 [],.sl 4 154 [],.sl 5 158 []]/\tk=[5,4,3,2,1,0]/\n=6)/\s.length<4294967281 /\
   ∀x,JE 65536 16384 ZaW s=x->WhK tU (fun L n (v:Un)=>(Xb (Ze L n) v).map .d) ZCH s.length x K
 | _,_=>False
noncomputable def Zt5:Tbl:=[(131,Zfa),(79,ZkN Tryz.f79 Zk9),(133,YU)]
theorem ZpX (ht:TO w0 nG Zt5):PC w0 nG 78 Zv9:=by
 refine Zb9 Zc mixed Tryz.func78 rfl kR kR ZyO ?_;intro args σ K h
 unfold Zv9 at h
 split at h
 ·obtain ⟨⟨rfl,rfl,rfl,rfl,rfl,rfl⟩,hs,h⟩:=h
  rename_i s tU
  have h:=h _ rfl;refine ⟨ZxH Zbv Zt5 (Zb []) (VV []) (Xj []),1,false,CxG.of Zc ht ⟨Zjt,Zpx _ _,Zjj,trivial⟩ _ _ _,sM,Ta rfl,wN ?_⟩;unfold JE at h
  refine ZDc (fun hc=>wN ?_) (fun hc=>wN ?_)
  ·rw [Tj oM] at h;exact h _ ⟨_,_,_,_,_,_,rfl⟩
  rw [Tg oM] at h;refine ⟨hs,fun l p c hx=>?_⟩;have aa:=Zv7 s 16384;rw [show ((16384:Nat):Int)=16384 from rfl,hx] at h;rw [hx] at aa;refine ⟨fun h0=>?_,fun h0=>wN ?_⟩
  ·subst h0;rw [Tg sM] at h;simp only at h aa;have ho:=ZpW (l:=l) (by simp at aa;omega)
   clear hx aa
   generalize ux:l.map Tok.t0=ts at h ho;(conv=>whnf);refine ⟨_,fun _ _ h=>h,Ta rfl,wN ?_⟩;refine ⟨l,ts,rfl,ho,oM,fun x hx=>?_⟩;rw [show ZaW ts=Zv2 false 64 ts from rfl,hx] at h;rcases x with ⟨⟨v1,v2,v3,v4,v5,v6⟩,ts2⟩ | ⟨r,e⟩
   rotate_left
   ·intro a9 d9;(conv=>whnf);refine ⟨Ta rfl,?_⟩;(conv=>whnf);(repeat (refine ⟨rfl,?_⟩;conv=>whnf));exact h _ ⟨_,_,_,_,_,_,rfl⟩
   intro a2 gt aj
   conv=>whnf
   have gl:=aj.len
   (repeat (refine ⟨rfl,?_⟩;conv=>whnf))
   refine ZDc (fun jc=>?_) (fun jc=>?_)
   ·have jc:a2<l.length:=by have jc:a2<((ZM l).length:Int):=jc;rw [XP] at jc;exact jc
    cases ts2 with
    | nil=>simp at gl;omega
    | cons t0 ts3 =>
    conv=>whnf
    refine ⟨l,_,rfl,aj,wN ?_⟩;refine ⟨Ta rfl,wN ?_⟩
    (repeat (refine ⟨rfl,?_⟩;conv=>whnf))
    exact h _ ⟨_,_,_,_,_,_,rfl⟩
   have jc:¬a2<l.length:=by have jc:¬a2<((ZM l).length:Int):=jc;rw [XP] at jc;exact jc
   obtain rfl:ts2=[]:=TY oM;(conv=>whnf);refine ⟨Ta rfl,wN ?_⟩;exact h
  rw [Tj h0] at h;refine ZDe (fun cu=>?_) (fun cu=>absurd (show c=0 by omega) h0);(conv=>whnf)
  (repeat (refine ⟨rfl,?_⟩;conv=>whnf))
  exact h _ ⟨_,_,_,_,_,_,rfl⟩
 exact h.elim
def ZCa {α:Type} (enc:List Tok->α->PV) (zero:PV) (x:Top α) (K:PEnd->St->Prop):Prop:=match x with
 | .ok v L=>K (.ret (.tuple [enc L v,.d (.int .i64 0),.d (.int .i64 0)])) ⟨[],[],0⟩
 | .err p e=>K (.ret (.tuple [zero,.d (.int .i64 p),.d (.int .i64 e)])) ⟨[],[],0⟩
noncomputable def Zla:Zo:=fun args σ K=>match args,σ with
 | [.d (.str s)],⟨[],[],0⟩=>s.length<4294967281/\∀x,JE 65536 16384 ZaW s=x->ZCa (fun L (v:Un)=>ZaX (Xb (Ze L s.length) v)) (ZaX (Xb (fun _=>0) .nil)) x K
 | _,_=>False
noncomputable def ZpY:Tbl:=[(78,Zv9)]
theorem Zwa (ht:TO w0 nG ZpY):PC w0 nG 39 Zla:=by
 refine Zd Zc mixed (tbl:=ZpY) ht Tryz.func39 rfl kR kR ?_;intro args σ K h
 unfold Zla at h
 split at h
 ·rename_i s
  obtain ⟨hs,h⟩:=h;refine ⟨Zb [],0,false,sM,Ta rfl,wN ?_⟩;refine ⟨⟨rfl,rfl,rfl,rfl,rfl,rfl⟩,hs,fun x hx=>?_⟩;have h:=h x hx
  cases x with
  | ok v L =>
   obtain ⟨v1,v2,v3,v4,v5,v6⟩:=v;exact m92
  | err p e =>
  have he:=Zjs Zh5 hx;intro cs dj
  obtain ⟨b1,b2,b3,b4,b5,b6,rfl⟩:=dj;(conv=>whnf);refine ZDe (fun hc=>?_) (fun hc=>absurd (show e=0 by omega) he);exact m92
 exact h.elim
theorem ZmG (hg:GlobOK w0 nG):PC w0 nG 131 Zfa:=Zv8 (ZvM hg)
theorem ZBe (hg:GlobOK w0 nG):PC w0 nG 39 Zla:=Zwa ⟨ZpX ⟨ZmG hg,ZbV (tb:=Zk9) ⟨ZBd 64,trivial⟩ Tryz.func79 rfl kR kR,VW,trivial⟩,trivial⟩
mutual
def szE:Ex->Nat
 | .mk _ _ _ l _=>1+ZsI l
def ZsI:List Ex->Nat
 | []=>0
 | x::l=>1+szE x+ZsI l
end
theorem Zlb:∀(l:List Ex),l.length<=ZsI l
 | []=>Tq _
 | x::l=>by have:=Zlb l;simp only [Tc,ZsI];omega
theorem Zlc:∀(l:List Ex) (i:Nat) (h:i<l.length),szE l[i]<ZsI l
 | x::l,0,h=>by simp only [List.getElem_cons_zero,ZsI];omega
 | x::l,i+1,h=>by have:=Zlc l i (by simpa using h);simp only [List.getElem_cons_succ,ZsI];omega
def Li.op:Li->Nat | .mk o _ _ _ _=>o
end Go.PM.Lex
end

section
namespace Go.PM.Lex
mutual
def erE:Ex->Ex
 | .mk op t n args _=>.mk op t n (ZCb args) 0
def ZCb:List Ex->List Ex
 | []=>[]
 | e::l=>erE e::ZCb l
end
def Stb {α:Type} (er:α->α) (m:Ts) (x y:R α):Prop:=∀v ts,x=.ok v ts->∃v',er v'=er v/\y=.ok v' (ts++m)
section
variable {α β:Type} {er:α->α} {er2:β->β} {m:Ts}
theorem Stb.ok {v v':α} {ts:Ts} (h:er v'=er v):Stb er m (.ok v ts) (.ok v' (ts++m)):=fun w rest e=>by cases e;exact ⟨v',h,rfl⟩
theorem Stb.ok' {v v':α} {ts ts':Ts} (h:er v'=er v) (e:ts'=ts++m):Stb er m (.ok v ts) (.ok v' ts'):=e ▸ Stb.ok h
theorem Stb.err {r e:Nat} {y:R α}:Stb er m (.err r e) y:=fun w rest e=>by cases e
theorem Stb.bind {x y:R α} {f g:α->Ts->R β} (h:Stb er m x y) (hf:∀v v' ts,er v'=er v->Stb er2 m (f v ts) (g v' (ts++m))):Stb er2 m (x.bind f) (y.bind g):=fun w rest e=>by
 cases x with
 | ok v ts =>
  obtain ⟨v',h1,rfl⟩:=h v ts rfl;exact hf v v' ts h1 w rest e
 | err r e'=>cases e
theorem Stb.binds {x y:R α} {f g:α->Ts->R β} (h:Stb id m x y) (hf:∀v ts,Stb er2 m (f v ts) (g v (ts++m))):Stb er2 m (x.bind f) (y.bind g):=Stb.bind h fun v v' ts e=>by cases (show v'=v from e);exact hf v ts
end
variable {m:Ts}
theorem map_id' {α:Type} (l:List α):l.map id=l:=sM
def Un.app:Un->Un->Un
 | .mk a1 a2 a3 a4 a5 a6,.mk b1 b2 b3 b4 b5 b6=>.mk (a1++b1) (a2++b2) (a3++b3) (a4++b4) (a5++b5) (a6++b6)
def Un.le:Un->Un->Prop
 | .mk a1 a2 a3 a4 a5 a6,.mk b1 b2 b3 b4 b5 b6=>a1.length<=b1.length/\a2.length<=b2.length/\a3.length<=b3.length/\a4.length<=b4.length/\a5.length<=b5.length/\a6.length<=b6.length
theorem Un.le_refl:∀u:Un,Un.le u u | .mk ..=>⟨Tq _,Tq _,Tq _,Tq _,Tq _,Tq _⟩
theorem Un.le_trans:∀{u v w:Un},Un.le u v->Un.le v w->Un.le u w
 | .mk ..,.mk ..,.mk ..,⟨h1,h2,h3,h4,h5,h6⟩,⟨k1,k2,k3,k4,k5,k6⟩=>⟨oM,oM,oM,oM,oM,oM⟩
def Un.room:Un->Un->Prop
 | .mk a1 a2 a3 a4 a5 a6,.mk b1 b2 b3 b4 b5 b6=>a1.length+b1.length<=256/\a2.length+b2.length<=256/\a3.length+b3.length<=1024/\a4.length+b4.length<=64/\a5.length+b5.length<=256/\a6.length+b6.length<=256
end Go.PM.Lex
end

section
namespace Go.PM.Lex
open Go.Proofs
variable {w0:World} {nG:Nat}
def szS {α:Type} (f:α->Nat):List α->Nat
 | []=>0
 | x::l=>1+f x+szS f l
theorem Zv {α:Type} (f:α->Nat):∀(l:List α),l.length<=szS f l
 | []=>Tq _
 | x::l=>by have:=Zv f l;simp only [Tc,szS];omega
theorem ZA {α:Type} (f:α->Nat):∀(l:List α) (i:Nat) (h:i<l.length),f l[i]<szS f l
 | x::l,0,h=>by simp only [List.getElem_cons_zero,szS];omega
 | x::l,i+1,h=>by have:=ZA f l i (by simpa using h);simp only [List.getElem_cons_succ,szS];omega
theorem Uq:∀(l:List Ex),ZsI l=szS szE l
 | []=>rfl
 | x::l=>by rw [ZsI,szS,Uq l]
def eqB (a b:Bs):Bool:=decide (a=b)
mutual
def szL:Li->Nat
 | .mk _ _ a b _=>1+szS szE a+ZyP b
def ZyP:List Li->Nat
 | []=>0
 | x::l=>1+szL x+ZyP l
end
theorem W1:∀(l:List Li),ZyP l=szS szL l
 | []=>by rw [ZyP,szS]
 | x::l=>by rw [ZyP,szS,W1 l]
def ZmH (r:Ru):Nat:=1+szS szE r.args+szS szL r.body
def sz0 {α:Type} (_:α):Nat:=0
def Zio (c:Ca):Nat:=1+szS sz0 c.fields
def ZmI (a:Ty):Nat:=1+szS sz0 a.fields+szS Zio a.cases
def Zju (a:Re):Nat:=1+szS sz0 a.fields
def ZCI (a:Ini):Nat:=1+szS sz0 a.types
mutual
def ZCJ:Un->Nat
 | .mk a1 a2 a3 a4 a5 a6=>1+szS ZmI a1+szS Zju a2+szS ZmH a3+ZpZ a4+szS ZCI a5+szS sz0 a6
def ZCc:Co->Nat
 | .mk _ p _ t u _=>1+szS sz0 p+szS sz0 t+ZCJ u
def ZpZ:List Co->Nat
 | []=>0
 | x::l=>1+ZCc x+ZpZ l
end
theorem WQ:∀(l:List Co),ZpZ l=szS ZCc l
 | []=>by rw [ZpZ,szS]
 | x::l=>by rw [ZpZ,szS,WQ l]
def spB (sp:Nat->Zo) (n:Nat):Zo:=fun args σ K=>0<n/\sp (n - 1) args σ K
theorem Zld {sp:Nat->Zo} (h:∀n,ZK (sp n)) (n:Nat):ZK (spB sp n):=fun args σ K K' hK g=>⟨g.1,h _ _ _ _ _ hK g.2⟩
theorem Yp {g:FuncId} {sp:Nat->Zo} (h:W8 (GG w0 nG).P g):PC w0 nG g (spB sp 0):=⟨h,fun args σ K hs=>absurd hs.1 oM⟩
theorem Yq {g:FuncId} {sp:Nat->Zo} {n:Nat} (h:PC w0 nG g (sp n)):PC w0 nG g (spB sp (n+1)):=h.weaken1 fun args σ K hs=>hs.2
abbrev ws:Bs:=[32,9,13,10]
def ZmJ (c:Nat):Option UInt8:=if c=10 then some 110 else if c=9 then some 116 else if c=34 then some 34 else if c=92 then some 92 else none
def VK:Nat->Bs->Bs->Option Bs
 | 0,_,_=>none
 | f+1,r,out=>if r=[] then some out else match ZmJ (Lib.decodeL r).1 with
  | some b=>VK f (r.drop (Lib.decodeL r).2) (out++[92,b])
  | none=>if (Lib.decodeL r).1<32 then none else VK f (r.drop (Lib.decodeL r).2) (out++Lib.encodeRune (Lib.decodeL r).1)
def Ja (s:Bs):Option Bs:=if Lib.validD s=true then (VK (s.length+1) s [34]).map (·++[34]) else none
noncomputable def Zjv:Zo:=fun args σ K=>match args with
 | [.d (.str s)]=>s.length<=9223372036854775807/\K (.ret (.d (.bool (Lib.validD s)))) σ
 | _=>False
theorem ZsJ (h1:1<nG) (hT:Lib.Utf8Tabs 0 1 w0):PC w0 nG 207 Zjv:=Yw (Zk Tryz.func207 kR rfl) fun args σ K h e w vs hS ha=>by
 unfold Zjv at h
 split at h
 ·rename_i s
  obtain ⟨u,rfl,hu⟩:=Zhx ha
  cases hu.dstr
  have hT':Lib.Utf8Tabs 0 1 w:=by
   have g0:=hS.glob 0 (show 0<nG by omega);have g1:=hS.glob 1 h1;obtain ⟨a,b⟩:=hT;refine ⟨fun c hc=>?_,fun i hi=>?_⟩
   ·have:=a c hc;simpa [World.cell?,g0] using this
   have:=b i hi;simpa [World.cell?,g1] using this
  exact ⟨_,h.2,_,fun _ _=>.mkbool,(Any.utf8_ValidString Tryz.laysValid ⟨s.toArray⟩ w (show s.toArray.size<=_ by simpa using h.1) hT').mono fun en w' ⟨h1,h2⟩=>⟨h1,ZDi h2⟩⟩
 exact h.elim
end Go.PM.Lex
end
