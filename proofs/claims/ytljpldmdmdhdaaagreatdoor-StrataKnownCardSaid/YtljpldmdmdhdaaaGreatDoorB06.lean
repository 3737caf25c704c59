/- A part of the proof: plain logic, contracts and laws over the given program. -/
import Derived.Lib.ValidU
import Derived.Test.YtljpldmdmdhdaaaGreatDoorValid
import Derived.Shelf.Unicode.ValidAny
import Derived.Lib.MapLaws
import Derived.Test.YtljpldmdmdhdaaaGreatDoorB05
set_option linter.unusedVariables false
set_option linter.unusedSimpArgs false
set_option linter.all false
set_option maxRecDepth 100000
set_option maxHeartbeats 16000000
noncomputable section
section
namespace Go.PM.Lex
structure T0 where
 kind:Nat
 text:Bs
 n:Int
 deriving DecidableEq
def Tok.t0 (t:Tok):T0:=⟨t.kind,t.text,t.n⟩
abbrev Ts:=List T0
inductive R (α:Type) where
 | ok (a:α) (ts:Ts) | err (r e:Nat)
def R.bind {α β:Type} (x:R α) (f:α->Ts->R β):R β:=match x with
 | .ok a ts=>f a ts
 | .err r e=>.err r e
@[simp] theorem R.bind_ok {α β:Type} (a:α) (ts:Ts) (f:α->Ts->R β):(R.ok a ts).bind f=f a ts:=rfl
@[simp] theorem R.bind_err {α β:Type} (r e:Nat) (f:α->Ts->R β):(R.err r e:R α).bind f=.err r e:=rfl
inductive Ex where
 | mk (op:Nat) (text:Bs) (n:Int) (args:List Ex) (at':Nat)
inductive Li where
 | mk (op:Nat) (rel:Bs) (args:List Ex) (body:List Li) (at':Nat)
structure Ru where
 head:Bs
 args:List Ex
 body:List Li
 at':Nat
structure Fi where
 name:Bs
 typ:Bs
structure Ca where
 name:Bs
 fields:List Fi
structure Ty where
 kind:Nat
 name:Bs
 base:Bs
 fields:List Fi
 cases:List Ca
 at':Nat
structure Re where
 name:Bs
 fields:List Fi
 inn:Bool
 out:Bool
 inl:Bool
 at':Nat
structure Ini where
 name:Bs
 comp:Bs
 types:List Bs
 at':Nat
structure Ov where
 rel:Bs
 at':Nat
mutual
inductive Un where
 | mk (types:List Ty) (rels:List Re) (rules:List Ru) (comps:List Co) (inits:List Ini) (overs:List Ov)
inductive Co where
 | mk (name:Bs) (params:List Bs) (base:Bs) (types:List Bs) (unit:Un) (at':Nat)
end
def hd (ts:Ts):T0:=match ts with
 | []=>⟨0,[],0⟩
 | t::_=>t
def ZO (s:Bs):Nat :=
 if s=[99,97,116] then 20 else if s=[115,116,114,108,101,110] then 21 else if s=[115,117,98,115,116,114] then 22 else if s=[99,111,100,101] then 23 else if s=[115,116,114] then 24 else if s=[110,117,109] then 25 else 0
def keptWords:List Bs:=[[116,121,112,101],[100,101,99,108],[105,110,112,117,116],[111,117,116,112,117,116],[105,110,108,105,110,101],[99,111,109,112],[105,110,105,116],[111,118,101,114,114,105,100,101],[110,105,108],[99,111,117,110,116],[115,117,109],[109,105,110],[109,97,120],[98,111,114],[98,120,111,114],[98,97,110,100],[115,104,108],[115,104,114]]
def Za8 (s:Bs):Bool:=keptWords.contains s || decide (ZO s≠0)
def isW (ts:Ts) (ws:List Bs):Bool:=(decide ((hd ts).kind=1) || decide ((hd ts).kind=4)) && ws.contains (hd ts).text
def ZF (ts:Ts):Bool:=decide ((hd ts).kind=1) && (!decide ((hd ts).text=[95]) && !Za8 (hd ts).text)
def ZP (ts:Ts):Bool :=
 if (hd ts).kind=2\/(hd ts).kind=3 then true
 else if (hd ts).kind=4 then isW ts [[45],[126],[40],[91],[36]]
 else if (hd ts).kind=1 then !Za8 (hd ts).text || (decide ((hd ts).text=[110,105,108]) || decide (ZO (hd ts).text≠0))
 else false
def Zb9 (ts:Ts):Nat×Nat :=
 if (hd ts).kind≠1/\(hd ts).kind≠4 then (0,0)
 else if (hd ts).text=[98,111,114] then (1,16) else if (hd ts).text=[98,120,111,114] then (1,17) else if (hd ts).text=[98,97,110,100] then (2,15) else if (hd ts).text=[115,104,108] then (3,18) else if (hd ts).text=[115,104,114] then (3,19)
 else if (hd ts).text=[43] then (4,10) else if (hd ts).text=[45] then (4,11) else if (hd ts).text=[42] then (5,12) else if (hd ts).text=[47] then (5,13) else if (hd ts).text=[37] then (5,14) else (0,0)
def ZN (w:Bs) (ts:Ts):R Unit:=if isW ts [w]=true then .ok () ts.tail else .err ts.length 150
def YM (ts:Ts):R Bs:=if ZF ts=true then .ok (hd ts).text ts.tail else .err ts.length 150
def Zq {α:Type} (d:Nat) (fr tw:Bs) (read:Ts->R α) (ts:Ts):R α :=
 if isW ts [fr]=true then
  (if d=0 then .err ts.length 151 else (read ts.tail).bind fun x ts=>if tw=[] then .ok x ts else (ZN tw ts).bind fun _ ts=>.ok x ts)
 else .err ts.length 150
def X9 {α:Type} (sign:Bs) (ce:Nat) (starts:Ts->Bool) (one:Ts->R α):Nat->List α->Ts->R (List α)
 | 0,_,_=>.err 0 150
 | f+1,l,ts=>if starts ts=true/\l.length=ce then .err ts.length 3
   else (one ts).bind fun x ts=>if isW ts [sign]=true then X9 sign ce starts one f (l++[x]) ts.tail else .ok (l++[x]) ts
def XE {α:Type} (sign:Bs) (ce:Nat) (starts:Ts->Bool) (one:Ts->R α) (ts:Ts):R (List α):=X9 sign ce starts one (ts.length+1) [] ts
def WY (ts:Ts):R Fi:=(YM ts).bind fun a ts=>(ZN [58] ts).bind fun _ ts=>(YM ts).bind fun b ts=>.ok ⟨a,b⟩ ts
def Za9 (fin:Bs) (ts:Ts):R (List Fi):=if isW ts [fin]=true then .ok [] ts else XE [44] 12 ZF WY ts
def ZfI (ts:Ts):R (List Bs):=if isW ts [[60]]=true then (XE [44] 12 ZF YM ts.tail).bind fun l ts=>(ZN [62] ts).bind fun _ ts=>.ok l ts else .ok [] ts
def Zdw (ts:Ts):R Ca:=(YM ts).bind fun a ts=>(ZN [123] ts).bind fun _ ts=>(Za9 [125] ts).bind fun l ts=>(ZN [125] ts).bind fun _ ts=>.ok ⟨a,l⟩ ts
def ZiK (t0:Ts):R Ty:=(YM t0).bind fun nm ts =>
 if isW ts [[60,58]]=true then (YM ts.tail).bind fun b ts=>.ok ⟨1,nm,b,[],[],t0.length⟩ ts
 else (ZN [61] ts).bind fun _ ts =>
  if isW ts [[91]]=true then (Za9 [93] ts.tail).bind fun l ts=>(ZN [93] ts).bind fun _ ts=>.ok ⟨2,nm,[],l,[],t0.length⟩ ts
  else (XE [124] 64 ZF Zdw ts).bind fun l ts=>.ok ⟨3,nm,[],[],l,t0.length⟩ ts
def Y0:Nat->Bool->Bool->Bool->Ts->(Bool×Bool×Bool)×Ts
 | 0,i,o,n,ts=>((i,o,n),ts)
 | f+1,i,o,n,ts=>if i=false/\isW ts [[105,110,112,117,116]]=true then Y0 f true o n ts.tail
   else if o=false/\isW ts [[111,117,116,112,117,116]]=true then Y0 f i true n ts.tail
   else if n=false/\isW ts [[105,110,108,105,110,101]]=true then Y0 f i o true ts.tail
   else ((i,o,n),ts)
def Zp7 (t0:Ts):R Re:=(YM t0).bind fun nm ts=>(ZN [40] ts).bind fun _ ts=>(Za9 [41] ts).bind fun l ts=>(ZN [41] ts).bind fun _ ts =>
 .ok ⟨nm,l,(Y0 4 false false false ts).1.1,(Y0 4 false false false ts).1.2.1,(Y0 4 false false false ts).1.2.2,t0.length⟩ (Y0 4 false false false ts).2
def ZiL (d:Nat) (ex:Ts->R Ex) (fr tw:Bs) (ts:Ts):R (List Ex):=Zq d fr tw (fun ts=>if isW ts [tw]=true then .ok [] ts else XE [44] 12 ZP ex ts) ts
def Zah (ex:Ts->R Ex):Nat->List Ex->Ts->R (List Ex)
 | 0,l,ts=>.ok l ts
 | k+1,l,ts=>(if l=[] then .ok () ts else ZN [44] ts).bind fun _ ts=>(ex ts).bind fun e ts=>Zah ex k (l++[e]) ts
def Wa (op:Nat):Nat:=if op=22 then 3 else if op=20 then 2 else 1
def Zai (d:Nat) (ex:Ts->R Ex) (ts:Ts):R Ex :=
 if ZP ts=false then .err ts.length 150
 else if (hd ts).kind=2 then .ok (.mk 3 [] (hd ts).n [] ts.length) ts.tail
 else if (hd ts).kind=3 then .ok (.mk 4 (hd ts).text 0 [] ts.length) ts.tail
 else if (hd ts).text=[40] then Zq d [40] [41] ex ts
 else if (hd ts).text=[91] then (ZiL d ex [91] [93] ts).bind fun l ts'=>.ok (.mk 6 [] 0 l ts.length) ts'
 else if (hd ts).text=[36] then (YM ts.tail).bind fun nm ts'=>if isW ts' [[40]]=true then (ZiL d ex [40] [41] ts').bind fun l ts'=>.ok (.mk 7 nm 0 l ts.length) ts' else .ok (.mk 7 nm 0 [] ts.length) ts'
 else if ZO (hd ts).text≠0 then (Zq d [40] [41] (Zah ex (Wa (ZO (hd ts).text)) []) ts.tail).bind fun l ts'=>.ok (.mk (ZO (hd ts).text) [] 0 l ts.length) ts'
 else if (hd ts).text=[110,105,108] then .ok (.mk 5 [] 0 [] ts.length) ts.tail
 else if (hd ts).text=[95] then .ok (.mk 2 [] 0 [] ts.length) ts.tail
 else .ok (.mk 1 (hd ts).text 0 [] ts.length) ts.tail
def Ex.at':Ex->Nat | .mk _ _ _ _ a=>a
def Zaj (sub:Nat->Ts->R Ex) (least:Nat):Nat->Ex->Ts->R Ex
 | 0,_,_=>.err 0 150
 | f+1,e,ts=>if (Zb9 ts).1<least\/(Zb9 ts).1=0 then .ok e ts
   else (sub ((Zb9 ts).1+1) ts.tail).bind fun g ts'=>Zaj sub least f (.mk (Zb9 ts).2 [] 0 [e,g] e.at') ts'
def JD (sg:Ts->R Ex):Nat->Nat->Ts->R Ex
 | 0,_,ts=>sg ts
 | k+1,least,ts=>(sg ts).bind fun e ts=>Zaj (JD sg k) least (ts.length+1) e ts
def Zdx (d:Nat) (sg:Ts->R Ex) (ts:Ts):R Ex :=
 if isW ts [[45]]=true then (Zq d [45] [] sg ts).bind fun e ts'=>.ok (.mk 8 [] 0 [e] ts.length) ts'
 else if isW ts [[126]]=true then (Zq d [126] [] sg ts).bind fun e ts'=>.ok (.mk 9 [] 0 [e] ts.length) ts'
 else Zai d (JD sg 6 1) ts
def Xo:Nat->Ts->R Ex
 | 0=>Zdx 0 fun _=>.err 0 150
 | d+1=>Zdx (d+1) (Xo d)
def Zba (d:Nat) (ts:Ts):R Ex:=JD (Xo d) 6 1 ts
def Zdy:Nat->Ts->R Ex
 | 0=>fun _=>.err 0 150
 | d+1=>Zba d
def ZbS (ts:Ts):Nat->List Bs->Option Nat
 | _,[]=>none
 | i,w::ws=>if isW ts [w]=true then some i else ZbS ts (i+1) ws
def relWords:List Bs:=[[61],[33,61],[60],[60,61],[62],[62,61]]
def aggWords:List Bs:=[[99,111,117,110,116],[115,117,109],[109,105,110],[109,97,120]]
def Zdz (ts:Ts):R Nat:=match ZbS ts 0 relWords with
 | none=>.err ts.length 150
 | some 0=>match ZbS ts.tail 0 aggWords with
  | some j=>.ok (9+j) ts.tail.tail
  | none=>.ok 3 ts.tail
 | some k=>.ok (3+k) ts.tail
def ZdA (d op a:Nat) (ts:Ts):R Li:=(YM ts).bind fun nm ts=>(ZiL d (Zdy d) [40] [41] ts).bind fun l ts=>.ok (.mk op nm l [] a) ts
def Wb (d:Nat) (bd:Ts->R (List Li)) (a op:Nat) (l:List Ex) (ts:Ts):R Li :=
 if 9<=op then (ZN [58] ts).bind fun _ ts=>(Zq d [123] [125] bd ts).bind fun b ts=>.ok (.mk op [] l b a) ts
 else .ok (.mk op [] l [] a) ts
def ZlW (d:Nat) (bd:Ts->R (List Li)) (t0:Ts):R Li:=(Zba d t0).bind fun e ts=>(Zdz ts).bind fun op ts =>
 if op=9 then Wb d bd t0.length op [e] ts else (Zba d ts).bind fun g ts=>Wb d bd t0.length op [e,g] ts
def ZnT (d:Nat) (bd:Ts->R (List Li)) (t0:Ts):R Li :=
 if isW t0 [[33]]=true then ZdA d 2 t0.length t0.tail
 else if ZF t0=true/\(hd t0.tail).kind=4/\(hd t0.tail).text=[40] then ZdA d 1 t0.length t0
 else ZlW d bd t0
def Yc (ts:Ts):Bool:=ZP ts || isW ts [[33]]
def ZnU:Nat->Ts->R (List Li)
 | 0=>XE [44] 32 Yc (ZnT 0 fun _=>.err 0 150)
 | d+1=>XE [44] 32 Yc (ZnT (d+1) (ZnU d))
def ZeU:Nat->Ts->R (List Li)
 | 0=>fun _=>.err 0 150
 | d+1=>ZnU d
def Zp8 (d:Nat) (bodies:Bool) (t0:Ts):R Ru:=(YM t0).bind fun nm ts=>(ZiL d (Zdy d) [40] [41] ts).bind fun l ts =>
 if bodies=true/\isW ts [[58,45]]=true then (ZnU d ts.tail).bind fun b ts=>(ZN [46] ts).bind fun _ ts=>.ok ⟨nm,l,b,t0.length⟩ ts
 else (ZN [46] ts).bind fun _ ts=>.ok ⟨nm,l,[],t0.length⟩ ts
def Zp9 (d:Nat) (un:Ts->R Un) (t0:Ts):R Co:=(YM t0).bind fun nm ts=>(ZfI ts).bind fun ps ts =>
 if isW ts [[58]]=true then (YM ts.tail).bind fun b ts=>(ZfI ts).bind fun tys ts=>(Zq d [123] [125] un ts).bind fun u ts=>.ok (.mk nm ps b tys u t0.length) ts
 else (Zq d [123] [125] un ts).bind fun u ts=>.ok (.mk nm ps [] [] u t0.length) ts
def Zqa (t0:Ts):R Ini:=(YM t0).bind fun nm ts=>(ZN [61] ts).bind fun _ ts=>(YM ts).bind fun c ts=>(ZfI ts).bind fun tys ts=>.ok ⟨nm,c,tys,t0.length⟩ ts
def Zqb (t0:Ts):R Ov:=(YM t0).bind fun nm ts=>.ok ⟨nm,t0.length⟩ ts
def XL (inside:Bool) (d:Nat) (un:Ts->R Un):Nat->Un->Ts->R Un
 | 0,_,_=>.err 0 150
 | f+1,.mk tys rels rules comps inits overs,ts =>
  if ts=[]\/(inside=true/\isW ts [[125]]=true) then .ok (.mk tys rels rules comps inits overs) ts
  else if isW ts [[116,121,112,101]]=true then (if tys.length=256 then .err ts.length 3 else (ZiK ts.tail).bind fun x ts=>XL inside d un f (.mk (tys++[x]) rels rules comps inits overs) ts)
  else if isW ts [[100,101,99,108]]=true then (if rels.length=256 then .err ts.length 3 else (Zp7 ts.tail).bind fun x ts=>XL inside d un f (.mk tys (rels++[x]) rules comps inits overs) ts)
  else if isW ts [[99,111,109,112]]=true then (if comps.length=64 then .err ts.length 3 else (Zp9 d un ts.tail).bind fun x ts=>XL inside d un f (.mk tys rels rules (comps++[x]) inits overs) ts)
  else if isW ts [[105,110,105,116]]=true then (if inits.length=256 then .err ts.length 3 else (Zqa ts.tail).bind fun x ts=>XL inside d un f (.mk tys rels rules comps (inits++[x]) overs) ts)
  else if isW ts [[111,118,101,114,114,105,100,101]]=true then (if overs.length=256 then .err ts.length 3 else (Zqb ts.tail).bind fun x ts=>XL inside d un f (.mk tys rels rules comps inits (overs++[x])) ts)
  else if ZF ts=true then (if rules.length=1024 then .err ts.length 3 else (Zp8 d true ts).bind fun x ts=>XL inside d un f (.mk tys rels (rules++[x]) comps inits overs) ts)
  else .err ts.length 150
def Un.nil:Un:=.mk [] [] [] [] [] []
def ZnV (inside:Bool) (d:Nat) (un:Ts->R Un) (ts:Ts):R Un:=XL inside d un (ts.length+1) .nil ts
def Zqc:Nat->Ts->R Un
 | 0=>ZnV true 0 fun _=>.err 0 150
 | d+1=>ZnV true (d+1) (Zqc d)
def Zbb (ts:Ts):R Un:=ZnV false 64 (Zqc 63) ts
end Go.PM.Lex
end

section
noncomputable section
namespace Go.PM.Lex
open Go.Proofs
def tz (L:List Tok) (a:Int):Ts:=(L.drop a.toNat).map Tok.t0
def Zb (L:List Tok) (en:Int) (r:Nat):Int:=match L.drop (L.length - r) with
 | []=>en
 | t::_=>t.at'
structure ROK (L:List Tok) (a:Int) (ts:Ts):Prop where
 lo:0<=a
 hi:a<=L.length
 big:L.length<=1048576
 eq:tz L a=ts
def ROK.len {L:List Tok} {a:Int} {ts:Ts} (h:ROK L a ts):(ts.length:Int)=L.length - a:=by
 rw [<- h.eq];simp only [tz,Td,Tz];have:=h.lo;have:=h.hi;omega
def ROK.next {L:List Tok} {a:Int} {t:T0} {ts:Ts} (h:ROK L a (t::ts)):ROK L (a+1) ts:=by
 have hl:=h.len;have h0:=h.lo;refine ⟨oM,by simp at hl;omega,h.big,?_⟩;have:=h.eq;simp only [tz] at this |-;rw [show (a+1).toNat=a.toNat+1 by omega,<- TJ,List.map_drop,this];rfl
def Yy {ts:Ts} {ws:List Bs} (h:isW ts ws=true):ts≠[]:=by rintro rfl;simp [isW,hd] at h
def ZdD {ts:Ts} (h:ZF ts=true):ts≠[]:=by rintro rfl;simp [ZF,hd] at h
def ROK.tl {L:List Tok} {a:Int} {ts:Ts} (h:ROK L a ts) (hn:ts≠[]):ROK L (a+1) ts.tail:=by
 cases ts with
 | nil=>exact absurd rfl hn
 | cons t ts=>exact h.next
def ROK.get {L:List Tok} {a:Int} {t:T0} {ts:Ts} (h:ROK L a (t::ts)):∃x,L[a.toNat]?=some x/\x.t0=t/\∀en,Zb L en (ts.length+1)=x.at':=by
 have hl:=h.len;have h0:=h.lo;have h1:=h.eq;simp only [Tf] at hl;have aa:a.toNat<L.length:=oM;refine ⟨L[a.toNat],Ta aa,?_,fun en=>?_⟩
 ·simp only [tz] at h1;rw [Tk aa] at h1;simp only [Tx,List.cons.injEq] at h1;exact h1.1
 unfold Zb
 rw [show L.length - (ts.length+1)=a.toNat by omega,Tk aa]
def ROK.none {L:List Tok} {a:Int} (h:ROK L a []):a=L.length:=by have:=h.len;simp at this;omega
def Uf (L:List Tok) (en:Int):Zb L en 0=en:=by simp [Zb]
abbrev Pl:=Nat->Int
mutual
def ZD (pl:Pl):Ex->List D
 | .mk op text n args a=>[.int .u8 op,.str text,.int .i64 n,.sl (Ze pl args),.int .i64 (pl a)]
def Ze (pl:Pl):List Ex->List (List D)
 | []=>[]
 | e::l=>ZD pl e::Ze pl l
end
mutual
def YC (pl:Pl):Li->List D
 | .mk op rel args body a=>[.int .u8 op,.str rel,.sl (Ze pl args),.sl (Zx pl body),.int .i64 (pl a)]
def Zx (pl:Pl):List Li->List (List D)
 | []=>[]
 | e::l=>YC pl e::Zx pl l
end
def Zs (pl:Pl) (r:Ru):List D:=[.str r.head,.sl (Ze pl r.args),.sl (Zx pl r.body),.int .i64 (pl r.at')]
def Zp (f:Fi):List D:=[.str f.name,.str f.typ]
def XF (c:Ca):List D:=[.str c.name,.sl (c.fields.map Zp)]
def Z6 (pl:Pl) (t:Ty):List D:=[.int .u8 t.kind,.str t.name,.str t.base,.sl (t.fields.map Zp),.sl (t.cases.map XF),.int .i64 (pl t.at')]
def Zu (pl:Pl) (r:Re):List D:=[.str r.name,.sl (r.fields.map Zp),.bool r.inn,.bool r.out,.bool r.inl,.int .i64 (pl r.at')]
def Xg (s:Bs):List D:=[.str s]
def ZiM (pl:Pl) (i:Ini):List D:=[.str i.name,.str i.comp,.sl (i.types.map Xg),.int .i64 (pl i.at')]
def ZiN (pl:Pl) (o:Ov):List D:=[.str o.rel,.int .i64 (pl o.at')]
mutual
def WZ (pl:Pl):Un->List D
 | .mk tys rels rules comps inits overs=>[.sl (tys.map (Z6 pl)),.sl (rels.map (Zu pl)),.sl (rules.map (Zs pl)),.sl (ZlZ pl comps),.sl (inits.map (ZiM pl)),.sl (overs.map (ZiN pl))]
def ZeW (pl:Pl):Co->List D
 | .mk name params base types u a=>[.str name,.sl (params.map Xg),.str base,.sl (types.map Xg)]++WZ pl u++[.int .i64 (pl a)]
def ZlZ (pl:Pl):List Co->List (List D)
 | []=>[]
 | e::l=>ZeW pl e::ZlZ pl l
end
def Zc (pl:Pl) (l:List Ex):Ze pl l=l.map (ZD pl):=by induction l with | nil=>rfl | cons x l ih=>simp [Ze,ih]
def Zn (pl:Pl) (l:List Li):Zx pl l=l.map (YC pl):=by induction l with | nil=>rfl | cons x l ih=>simp [Zx,ih]
def ZiO (pl:Pl) (l:List Co):ZlZ pl l=l.map (ZeW pl):=by induction l with | nil=>rfl | cons x l ih=>simp [ZlZ,ih]
abbrev Ug (l:List D):PV:=.agg (l.map .d)
abbrev flt (L:List Tok) (en:Int) (r e:Nat):PV:=.iface 241 (.agg [.d (.int .i64 (Zb L en r)),.d (.int .i64 e)])
abbrev RK:=PEnd->Int->Int->Prop
def RKk {α:Type} (enc:α->PV) (L:List Tok) (en dp lo:Int) (x:R α) (K:RK):Prop:=match x with
 | .ok v ts'=>∀a',lo<=a'->ROK L a' ts'->K (.ret (enc v)) a' dp
 | .err r e=>∀a' dp',K (.panic (flt L en r e)) a' dp'
def Xh (body:List PV->List Tok->Int->Int->Int->Ts->RK->Prop):Zh:=fun args σ K=>match args,σ with
 | .ptr 0 0::rest,⟨[.cells t [.d (.sl rows),.d (.int .i64 a),.d (.int .i64 en),.d (.int .i64 dp)]],[],0⟩=>∃L ts,rows=ZB L/\ROK L a ts /\
   body rest L en dp a ts fun pe a' dp'=>K pe ⟨[.cells t [.d (.sl (ZB L)),.d (.int .i64 a'),.d (.int .i64 en),.d (.int .i64 dp')]],[],0⟩
 | _,_=>False
def Zqf {body:List PV->List Tok->Int->Int->Int->Ts->RK->Prop} (hb:∀rest L en dp a ts (K K':RK),(∀pe a d,K pe a d->K' pe a d)->body rest L en dp a ts K->body rest L en dp a ts K'):Zy (Xh body):=fun args σ K K' hK h=>by
 unfold Xh at h |-
 split at h
 ·obtain ⟨L,ts,h1,h2,h3⟩:=h;exact ⟨L,ts,h1,h2,hb _ _ _ _ _ _ _ _ (fun pe a d hk=>hK _ _ hk) h3⟩
 exact h.elim
def Xd:Zh:=fun args σ K=>match args,σ with
 | [.d (.str s)],⟨[],[],0⟩=>∀n:Int,(ZO s:Int)=n->K (.ret (.d (.int .u8 n))) ⟨[],[],0⟩
 | _,_=>False
def ZiP:Zh:=fun args σ K=>match args,σ with
 | [.d (.str s)],⟨[],[],0⟩=>∀b,Za8 s=b->K (.ret (.d (.bool b))) ⟨[],[],0⟩
 | _,_=>False
def ZeX (s:Bs):Nat->List Bs->Int
 | _,[]=>-1
 | i,w::ws=>if s=w then i else ZeX s (i+1) ws
def Zg3:Zh:=fun args σ K=>match args,σ with
 | [.d (.sl rows),.d (.str s)],⟨[],[],0⟩=>∃ws:List Bs,rows=ws.map Xg/\ws.length<=1048576/\K (.ret (.d (.int .i64 (ZeX s 0 ws)))) ⟨[],[],0⟩
 | _,_=>False
def Zbc:Zh:=fun args σ K=>match args,σ with
 | [.d (.sl rows),.d (.str s)],⟨[],[],0⟩=>∃ws:List Bs,rows=ws.map Xg/\ws.length<=1048576/\∀b,ws.contains s=b->K (.ret (.d (.bool b))) ⟨[],[],0⟩
 | _,_=>False
def Zal:Zh:=Xh fun rest L en dp a ts K=>match rest with
 | [.d (.int .i64 n)]=>∀fin,(n=0/\K (.ret (.agg [.d (.int .u8 (hd ts).kind),.d (.str (hd ts).text),.d (.int .i64 (hd ts).n),.d (.int .i64 (Zb L en ts.length)),.d (.int .i64 fin)])) a dp) \/
   (n=1/\K (.ret (.agg [.d (.int .u8 (hd ts.tail).kind),.d (.str (hd ts.tail).text),.d (.int .i64 (hd ts.tail).n),.d (.int .i64 (Zb L en ts.tail.length)),.d (.int .i64 fin)])) a dp)
 | _=>False
def Wc:Zh:=Xh fun rest L en dp a ts K=>match rest with
 | []=>K (.ret (.d (.int .i64 (Zb L en ts.length)))) a dp
 | _=>False
def ZiQ:Zh:=Xh fun rest L en dp a ts K=>match rest with
 | [.d (.sl rows)]=>∃ws:List Bs,rows=ws.map Xg/\ws.length<=1048576/\∀b,isW ts ws=b->K (.ret (.d (.bool b))) a dp
 | _=>False
def JE (p:Ts->Bool):Zh:=Xh fun rest L en dp a ts K=>match rest with
 | []=>∀b,p ts=b->K (.ret (.d (.bool b))) a dp
 | _=>False
def YQ:Zh:=Xh fun rest L en dp a ts K=>match rest with
 | [.d (.int .i64 e)]=>K (.panic (.iface 241 (.agg [.d (.int .i64 (Zb L en ts.length)),.d (.int .i64 e)]))) a dp
 | _=>False
def Zkw:Zy YQ:=Zqf fun rest L en dp a ts K K' hK h=>by
 split at h
 ·exact hK _ _ _ h
 exact h.elim
def XM:Zh:=Xh fun rest L en dp a ts K=>match rest with
 | [.d (.sl rows)]=>∃ws:List Bs,rows=ws.map Xg/\ws.length<=1048576/\(isW ts ws=true->ROK L (a+1) ts.tail->K (.ret (.d (.bool true))) (a+1) dp)/\(isW ts ws=false->K (.ret (.d (.bool false))) a dp)
 | _=>False
def Zl0:Zh:=Xh fun rest L en dp a ts K=>match rest with
 | [.d (.int .i64 n),.d (.int .i64 m)]=>(n=m->K (.panic (flt L en ts.length 3)) a dp)/\(n≠m->K (.ret (.tuple [])) (a+1) dp)
 | _=>False
def spR {α:Type} (enc:List Tok->Int->α->PV) (P:Ts->R α) (lo:Int):Zh:=Xh fun rest L en dp a ts K=>match rest with
 | []=>∀x,P ts=x->RKk (enc L en) L en dp (a+lo) x K
 | _=>False
def Xj:Zh:=Xh fun rest L en dp a ts K=>match rest with
 | [.d (.str w)]=>∀x,ZN w ts=x->RKk (fun _=>.tuple []) L en dp (a+1) x K
 | _=>False
abbrev Xp:Zh:=spR (fun _ _ (v:Bs)=>.d (.str v)) YM 1
end Go.PM.Lex
end
end

section
namespace Go.PM.Lex
open Go.Proofs
variable {w0:World} {nG:Nat}
def Zbd:PC w0 nG 215 Xd:=by
 refine pwe Tryz.func215 fun args σ K h=>?_
 exact mq80
def Zxj:Tbl:=[(215,Xd)]
def Zkx:PC w0 nG 161 ZiP:=by
 refine pwt (tbl:=Zxj) ⟨Zbd,trivial⟩ Tryz.func161 fun args σ K h=>?_
 unfold ZiP at h
 split at h
 ·rename_i s
  refine pwu [] 0 false ?_
  repeat' ((conv=>whnf);refine ZGr (fun hc=>?_) (fun hc=>?_))
  all_goals (conv=>whnf)
  all_goals first
   | contradiction
   | exact h _ (by subst_vars;decide)
   | skip
  intro n hn
  conv=>whnf
  refine h _ ?_;have hk:keptWords.contains s=false:=by
   have:¬s∈keptWords:=by
    simp only [keptWords,Tr,TT,SC,not_or]
    repeat' (first | assumption | refine ⟨by assumption,?_⟩)
   rw [Bool.eq_false_iff];intro g
   exact this (List.contains_iff_mem.1 g)
  rw [Za8,hk,<- hn]
  by_cases h0:ZO s=0 <;> simp [h0]
 exact h.elim
def ZfJ (s w:Bs) (i:Nat) (ws:List Bs):ZeX s i (w::ws)=if s=w then (i:Int) else ZeX s (i+1) ws:=rfl
def ZiR (s:Bs):∀(ws:List Bs) (i:Nat),(0<=ZeX s i ws)↔ws.contains s=true
 | [],i=>by simp [ZeX]
 | w::ws,i=>by
  rw [ZfJ];split
  ·rename_i h;subst h;simp
  rename_i h;rw [ZiR s ws];simp [h]
def ZnX (s:Bs) (ws:List Bs) (i:Nat) (h:i<ws.length):ZeX s i (ws.drop i)=if s=ws[i] then (i:Int) else ZeX s (i+1) (ws.drop (i+1)):=by
 rw [Tk h,ZfJ]
def Zqg:PC w0 nG 259 Zg3:=by
 refine pwe Tryz.func259 fun args σ K h=>?_
 unfold Zg3 at h
 split at h
 ·rename_i rows s
  obtain ⟨ws,rfl,hw,h⟩:=h;refine pwv [(2,⟨[8],[0,1,7],fun vs σ=>∃i:Nat,vs=[.d (.int .i64 i)]/\σ=⟨[],[],0⟩/\i<=ws.length/\ZeX s 0 ws=ZeX s i (ws.drop i),mu1 ws.length⟩)] 0 false ?_;refine ⟨⟨0,rfl,rfl,oM,rfl⟩,?_⟩;intro vs σ hI
  obtain ⟨i,rfl,rfl,hi,hx⟩:=hI;(conv=>whnf);refine ZGr (fun hc=>wN ?_) (fun hc=>wN ?_)
  ·have hc:i<ws.length:=by have hc:(i:Int)<((ws.map Xg).length:Int):=hc;rw [Td] at hc;omega
   refine ⟨Xg ws[i],oM,by simp [hc],wN ?_⟩;rw [ZnX s ws i hc] at hx;refine ZGr (fun h1=>wN ?_) (fun h1=>wN ?_)
   ·rw [hx,Ti h1] at h;exact h
   rw [Te h1] at hx;refine Zk ?_;refine ⟨⟨i+1,rfl,rfl,oM,hx⟩,?_⟩;exact lzM oM
  have hc:ws.length<=i:=by have hc:¬(i:Int)<((ws.map Xg).length:Int):=hc;rw [Td] at hc;omega
  rw [Tm hc] at hx;rw [hx] at h;exact h
 exact h.elim
def Zxk:Tbl:=[(259,Zg3)]
def Zky:PC w0 nG 232 Zbc:=by
 refine pwt (tbl:=Zxk) ⟨Zqg,trivial⟩ Tryz.func232 fun args σ K h=>?_
 unfold Zbc at h
 split at h
 ·rename_i rows s
  obtain ⟨ws,rfl,hw,h⟩:=h;refine pwv [] 0 false ?_;refine ⟨ws,rfl,hw,wN ?_⟩;exact h _ (by rw [Bool.eq_iff_iff,TH,<- ZiR s ws 0])
 exact h.elim
def JF:PC w0 nG 231 Zal:=by
 refine pwe Tryz.func231 fun args σ K h=>?_
 unfold Zal Xh at h
 split at h
 ·rename_i t rows a en dp
  obtain ⟨L,ts,rfl,ho,h⟩:=h;split at h
  ·rename_i n
   have hl:=ho.len;have h0:=ho.lo;have h1:=ho.hi;have h2:=ho.big;have hn:n=0\/n=1:=by rcases h 0 with g | g <;> simp [g.1]
   refine pwv [] 1 false ?_;refine Zk ?_;refine ZGr (fun hc=>?_) (fun hc=>wN ?_)
   ·have hc:a+n<L.length:=by have hc:a+n<((ZB L).length:Int):=hc;rw [ZS] at hc;exact hc
    rcases hn with rfl | rfl
    ·cases ts with
     | nil=>simp at hl;omega
     | cons t0 ts =>
     obtain ⟨x,hx,rfl,hp⟩:=ho.get;(conv=>whnf);refine ⟨Zxf x,oM,by simp [ZB,hx],wN ?_⟩;have h:=h x.fin;rw [Tf,hp] at h;rcases h with h | h
     ·exact h.2
     exact absurd h.1 oM
    cases ts with
    | nil=>simp at hl;omega
    | cons t1 ts =>
    cases ts with
    | nil=>simp at hl;omega
    | cons t0 ts =>
    obtain ⟨x,hx,rfl,hp⟩:=ho.next.get;(conv=>whnf);refine ⟨Zxf x,oM,by simp [ZB,hx],wN ?_⟩;have h:=h x.fin;simp only [List.tail_cons,Tf,hp] at h;rcases h with h | h
    ·exact absurd h.1 oM
    exact h.2
   have hc:¬a+n<L.length:=by have hc:¬a+n<((ZB L).length:Int):=hc;rw [ZS] at hc;exact hc
   have h:=h 0;rcases hn with rfl | rfl
   ·cases ts with
    | nil => rcases h with h | h
             ·have h:=h.2;simp only [Tj,Uf] at h;exact h
             exact absurd h.1 oM
    | cons t0 ts=>simp at hl;omega
   have:ts.tail=[]:=by
    cases ts with
    | nil=>rfl
    | cons t1 ts=>cases ts with
     | nil=>rfl
     | cons t0 ts=>simp at hl;omega
   rw [this] at h;rcases h with h | h
   ·exact absurd h.1 oM
   have h:=h.2;simp only [Tj,Uf] at h;exact h
  exact h.elim
 exact h.elim
def Ztz:OKw w0 nG [(231,Zal)] 191 Wc:=by
 refine pwo Tryz.func191 fun args σ K h=>?_
 unfold Wc Xh at h
 split at h
 ·rename_i rest t rows a en dp
  obtain ⟨L,ts,rfl,ho,h⟩:=h;split at h
  ·skip
   refine pwv [] 1 false ?_;refine ⟨L,ts,rfl,ho,fun fin=>Or.inl ⟨rfl,wN ?_⟩⟩;exact h
  exact h.elim
 exact h.elim
def ZEj:OKw w0 nG [(231,Zal),(232,Zbc)] 186 ZiQ:=by
 refine pwo Tryz.func186 fun args σ K h=>?_
 unfold ZiQ Xh at h
 split at h
 ·rename_i rest t rows a en dp
  obtain ⟨L,ts,rfl,ho,h⟩:=h;split at h
  ·rename_i rows
   obtain ⟨ws,rfl,hw,h⟩:=h;refine pwv [] 1 false ?_;refine ⟨L,ts,rfl,ho,fun fin=>Or.inl ⟨rfl,wN ?_⟩⟩;refine ZGr (fun h1=>wN ?_) (fun h1=>wN ?_)
   ·refine ⟨ws,rfl,hw,fun b hb=>wN ?_⟩;exact h _ (by simp only [isW,hb];simp [show (hd ts).kind=1 by omega])
   refine ZGr (fun h2=>wN ?_) (fun h2=>wN ?_)
   ·refine ⟨ws,rfl,hw,fun b hb=>wN ?_⟩;exact h _ (by simp only [isW,hb];simp [show (hd ts).kind=4 by omega])
   exact h _ (by simp [isW,show ¬(hd ts).kind=1 by omega,show ¬(hd ts).kind=4 by omega])
  exact h.elim
 exact h.elim
def ZtB:OKw w0 nG [(231,Zal),(161,ZiP)] 195 (JE ZF):=by
 refine pwo Tryz.func195 fun args σ K h=>?_
 unfold JE Xh at h
 split at h
 ·rename_i rest t rows a en dp
  obtain ⟨L,ts,rfl,ho,h⟩:=h;split at h
  ·skip
   refine pwv [] 1 false ?_;refine ⟨L,ts,rfl,ho,fun fin=>Or.inl ⟨rfl,wN ?_⟩⟩;refine ZGr (fun h1=>wN ?_) (fun h1=>wN ?_)
   ·refine ZGu (fun h2=>wN ?_) (fun h2=>wN ?_)
    ·intro b hb
     conv=>whnf
     exact h _ (by simp only [ZF,hb];rw [TY (show (hd ts).kind=1 by omega),decide_eq_false h2];simp)
    exact h _ (by simp only [ZF];rw [TY (p:=(hd ts).text=[95]) h2];simp)
   exact h _ (by simp [ZF,show ¬(hd ts).kind=1 by omega])
  exact h.elim
 exact h.elim
def Zxm:OKw w0 nG [(191,Wc)] 185 YQ:=by
 refine pwo Tryz.func185 fun args σ K h=>?_
 unfold YQ Xh at h
 split at h
 ·rename_i rest t rows a en dp
  obtain ⟨L,ts,rfl,ho,h⟩:=h;split at h
  ·skip
   refine pwv [] 1 false ?_;refine ⟨L,ts,rfl,ho,wN ?_⟩;exact h
  exact h.elim
 exact h.elim
def Zxo:OKw w0 nG [(186,ZiQ)] 233 XM:=by
 refine pwo Tryz.func233 fun args σ K h=>?_
 unfold XM Xh at h
 split at h
 ·rename_i rest t rows a en dp
  obtain ⟨L,ts,rfl,ho,h⟩:=h;split at h
  ·rename_i rows
   obtain ⟨ws,rfl,hw,h1,h2⟩:=h;refine pwv [] 1 false ?_;refine ⟨L,ts,rfl,ho,ws,rfl,hw,fun b hb=>?_⟩
   cases b with
   | true =>
    have ac:=ho.tl (Yy hb);have g1:=ho.lo;have g2:=ac.hi;have g3:=ac.big;(conv=>whnf);refine Zk ?_;exact h1 hb ac
   | false =>
   conv=>whnf
   exact h2 hb
  exact h.elim
 exact h.elim
def Zxq:OKw w0 nG [(233,XM),(185,YQ)] 193 Xj:=by
 refine pwo Tryz.func193 fun args σ K h=>?_
 unfold Xj Xh at h
 split at h
 ·rename_i rest t rows a en dp
  obtain ⟨L,ts,rfl,ho,h⟩:=h;split at h
  ·rename_i w
   refine pwv [] 1 false ?_;refine ⟨L,ts,rfl,ho,[w],rfl,sM,fun hb ac=>wN ?_,fun hb=>wN ?_⟩
   ·have h:=h _ rfl;rw [ZN,Ti hb] at h;exact h _ oM ac
   refine ⟨L,ts,rfl,ho,wN ?_⟩;have h:=h _ rfl;rw [ZN,Te (by rw [hb];simp)] at h;exact h _ _
  exact h.elim
 exact h.elim
def Zxs:OKw w0 nG [(185,YQ)] 187 Zl0:=by
 refine pwo Tryz.func187 fun args σ K h=>?_
 unfold Zl0 Xh at h
 split at h
 ·rename_i rest t rows a en dp
  obtain ⟨L,ts,rfl,ho,h⟩:=h;split at h
  ·rename_i n m
   refine pwv [] 1 false ?_;have g1:=ho.lo;have g2:=ho.hi;have g3:=ho.big;refine ZGr (fun hc=>wN ?_) (fun hc=>wN ?_)
   ·refine ⟨L,ts,rfl,ho,wN ?_⟩;exact h.1 hc
   refine Zk ?_;exact h.2 hc
  exact h.elim
 exact h.elim
def ZtD:OKw w0 nG [(195,(JE ZF)),(185,YQ)] 192 Xp:=by
 refine pwo Tryz.func192 fun args σ K h=>?_
 unfold Xp spR Xh at h
 split at h
 ·rename_i rest t rows a en dp
  obtain ⟨L,ts,rfl,ho,h⟩:=h;split at h
  ·skip
   refine pwv [] 1 false ?_;have h:=h _ rfl;refine ⟨L,ts,rfl,ho,fun b hb=>?_⟩
   cases b with
   | true =>
    have ac:=ho.tl (ZdD hb);have g1:=ho.lo;have g2:=ac.hi;have g3:=ac.big;rw [YM,Ti hb] at h;(conv=>whnf);refine Zk ?_;refine Zk ?_
    cases ts with
    | nil=>exact absurd rfl (ZdD hb)
    | cons t0 ts =>
    obtain ⟨x,hx,rfl,hp⟩:=ho.get;refine ⟨Zxf x,oM,by rw [show a+1 - 1=a by omega];simp [ZB,hx],wN ?_⟩;exact h _ oM ac
   | false =>
   rw [YM,Te (by rw [hb];simp)] at h;(conv=>whnf);exact mq73
  exact h.elim
 exact h.elim
def Zqi:OKw w0 nG [(231,Zal),(186,ZiQ),(161,ZiP),(215,Xd)] 264 (JE ZP):=by
 refine pwo Tryz.func264 fun args σ K h=>?_
 unfold JE Xh at h
 split at h
 ·rename_i rest t rows a en dp
  obtain ⟨L,ts,rfl,ho,h⟩:=h;split at h
  ·skip
   refine pwv [] 1 false ?_;refine ⟨L,ts,rfl,ho,fun fin=>Or.inl ⟨rfl,wN ?_⟩⟩;refine ZGr (fun h1=>wN ?_) (fun h1=>wN ?_)
   ·refine ZGr (fun _=>wN ?_) (fun g=>absurd h1 g);exact h _ (by rw [ZP,Ti oM])
   refine ZGr (fun h2=>wN ?_) (fun h2=>wN ?_)
   ·exact h _ (by rw [ZP,Ti oM])
   refine ZGr (fun h3=>wN ?_) (fun h3=>wN ?_)
   ·refine ⟨L,ts,rfl,ho,[[45],[126],[40],[91],[36]],rfl,sM,fun b hb=>wN ?_⟩;exact h _ (by rw [ZP,Te oM,Ti oM];exact hb)
   refine ZGr (fun h4=>wN ?_) (fun h4=>wN ?_)
   ·have e0:ZP ts=(!Za8 (hd ts).text || (decide ((hd ts).text=[110,105,108]) || decide (ZO (hd ts).text≠0))):=by rw [ZP,Te oM,Te oM,Ti oM]
    rw [e0] at h;intro b hb
    rw [hb] at h
    cases b with
    | false => conv => whnf
               exact h _ rfl
    | true =>
    conv=>whnf
    refine ZGr (fun h5=>wN ?_) (fun h5=>wN ?_)
    ·exact h _ (by rw [TY (p:=(hd ts).text=[110,105,108]) h5];rfl)
    intro n hn
    conv=>whnf
    exact h _ (by rw [decide_eq_false (p:=(hd ts).text=[110,105,108]) h5,<- hn];by_cases g:ZO (hd ts).text=0 <;> simp [g])
   exact h _ (by rw [ZP,Te oM,Te oM,Te oM])
  exact h.elim
 exact h.elim
def ZtE:Zh:=Xh fun rest L en dp a ts K=>match rest with
 | []=>∀n k:Int,((Zb9 ts).1:Int)=n->((Zb9 ts).2:Int)=k->K (.ret (.tuple [.d (.int .i64 n),.d (.int .u8 k)])) a dp
 | _=>False
def Zqj:OKw w0 nG [(231,Zal)] 302 ZtE:=by
 refine pwo Tryz.func302 fun args σ K h=>?_
 unfold ZtE Xh at h
 split at h
 ·rename_i rest t rows a en dp
  obtain ⟨L,ts,rfl,ho,h⟩:=h;split at h
  ·skip
   refine pwv [] 1 false ?_;refine ⟨L,ts,rfl,ho,fun fin=>Or.inl ⟨rfl,wN ?_⟩⟩;refine ZGu (fun h1=>wN ?_) (fun h1=>?_)
   ·refine ZGu (fun h2=>wN ?_) (fun h2=>?_)
    ·have e0:Zb9 ts=(0,0):=by rw [Zb9,Ti oM]
     exact h _ _ (by rw [e0];rfl) (by rw [e0];rfl)
    have hn:¬((hd ts).kind≠1/\(hd ts).kind≠4):=by omega
    clear h1 h2
    exact mq109
   have hn:¬((hd ts).kind≠1/\(hd ts).kind≠4):=by omega
   clear h1
   exact mq109
  exact h.elim
 exact h.elim
def Zqk (body:List PV->List Tok->Int->Int->Int->Ts->RK->Prop):Zh:=fun args σ K=>match args,σ with
 | .ptr 0 0::rest,⟨[.cells t0 [.ptr 1 0],.cells t [.d (.sl rows),.d (.int .i64 a),.d (.int .i64 en),.d (.int .i64 dp)]],[],0⟩=>∃L ts,rows=ZB L/\ROK L a ts /\
   body rest L en dp a ts fun pe a' dp'=>K pe ⟨[.cells t0 [.ptr 1 0],.cells t [.d (.sl (ZB L)),.d (.int .i64 a'),.d (.int .i64 en),.d (.int .i64 dp')]],[],0⟩
 | _,_=>False
def ZAM {α:Type} (enc:List Tok->Int->α->PV) (P:Ts->R α) (lo:Int):Zh:=Zqk fun rest L en dp a ts K=>match rest with
 | []=>∀x,P ts=x->RKk (enc L en) L en dp (a+lo) x K
 | _=>False
def Zl1 (p:Ts->Bool):Zh:=Zqk fun rest L en dp a ts K=>match rest with
 | []=>∀b,p ts=b->K (.ret (.d (.bool b))) a dp
 | _=>False
def ZjN {α:Type} (enc:List Tok->Int->α->PV) (P:Ts->R α) (lo:Int) (d:Nat):Zh:=Xh fun rest L en dp a ts K=>match rest with
 | []=>(dp=64 - (d:Int)/\0<=dp)/\∀x,P ts=x->RKk (enc L en) L en dp (a+lo) x K
 | _=>False
def Zv {α β:Type} (f:α->β) (l:List α) (x:α):l.map f++[f x]=(l++[x]).map f:=sM
def Uh {α : Type} (sign : Bs) (ce : Nat) (st : Ts -> Bool) (one : Ts -> R α) (f : Nat) (l : List α) (ts : Ts) : X9 sign ce st one (f + 1) l ts = if st ts = true /\ l.length = ce then .err ts.length 3
      else (one ts).bind fun x ts=>if isW ts [sign]=true then X9 sign ce st one f (l++[x]) ts.tail else .ok (l++[x]) ts:=rfl
def JG:Zh:=fun args σ K=>match args,σ with
 | [.ptr 0 0,.d (.str sg),.d (.int .i64 m),.func g1 [.ptr 0 0] [],.func g2 [] [.ptr 1 0]],⟨[.cells t [.d (.sl rows),.d (.int .i64 a),.d (.int .i64 en),.d (.int .i64 dp)],.cells t0 [.ptr 0 0]],[],0⟩ =>
   (sg=[44]/\m=12/\g1=195/\g2=261)/\∃L ts,rows=ZB L/\ROK L a ts/\∀x,XE [44] 12 ZF WY ts=x ->
    RKk (fun (l:List Fi)=>.d (.sl (l.map (Zp)))) L en dp a x fun pe a' dp'=>K pe ⟨[.cells t [.d (.sl (ZB L)),.d (.int .i64 a'),.d (.int .i64 en),.d (.int .i64 dp')],.cells t0 [.ptr 0 0]],[],0⟩
 | _,_=>False
def ZiT:OKw w0 nG ([(195,(JE ZF)),(185,YQ),(261,(ZAM (fun _ _ (v:Fi)=>Ug (Zp v)) WY 1)),(233,XM)]) 260 (JG):=by
 refine pwo Tryz.func260 fun args σ K h=>?_
 unfold JG at h
 split at h
 ·rename_i sg m g1 g2 t rows a en dp t0
  obtain ⟨⟨rfl,rfl,rfl,rfl⟩,L,ts,rfl,ho,h⟩:=h;have h:=h _ rfl;have hl:=ho.len;have dm:=ho.big;have qo:=ho.lo;refine pwu [(2,⟨[11],[0,1,2,3,4],fun vs σ=>∃(l:List Fi) (a':Int) (ts':Ts) (f:Nat),vs=[.sl 0 188 (l.map (Zp))] /\
   σ=⟨[.cells t [.d (.sl (ZB L)),.d (.int .i64 a'),.d (.int .i64 en),.d (.int .i64 dp)],.cells t0 [.ptr 0 0]],[0],1⟩/\ROK L a' ts'/\a+l.length<=a'/\ts'.length<f /\
   XE [44] 12 ZF WY ts=X9 [44] 12 ZF WY f l ts',
   fun _ σ=>match σ with | ⟨.cells _ [_,.d (.int _ i),_,_]::_,_,_⟩=>((L.length:Int) - i).toNat | _=>0⟩)] 2 false ?_
  conv=>whnf
  refine ⟨⟨[],a,ts,ts.length+1,rfl,rfl,ho,sM,oM,rfl⟩,?_⟩;intro vs σ hI
  obtain ⟨l,a1,ts1,f,rfl,rfl,ah,vu,hf,hm⟩:=hI;obtain ⟨f,rfl⟩:∃g,f=g+1:=⟨f - 1,oM⟩
  rw [Uh] at hm;have cf:=ah.len;have rq:=ah.hi;(conv=>whnf);refine ⟨L,ts1,rfl,ah,fun b hb=>?_⟩;have step:(¬(ZF ts1=true/\l.length=12))->XE [44] 12 ZF WY ts=((WY) ts1).bind fun x ts=>if isW ts [[44]]=true then X9 [44] 12 ZF WY f (l++[x]) ts.tail else .ok (l++[x]) ts:=fun g=>by rw [hm,Te g]
  cases b with
  | false =>
   have step:=step (by rw [hb];simp);(conv=>whnf);exact mq19
  | true =>
  conv=>whnf
  refine ZGr (fun hc=>wN ?_) (fun hc=>wN ?_)
  ·have hc:l.length=12:=by
    have hc:((l.map (Zp)).length:Int)=12:=hc;rw [Td] at hc;omega
   exact mq71
  have step:=step (fun g=>hc (by show ((l.map (Zp)).length:Int)=12;rw [Td,g.2];rfl));exact mq19
 exact h.elim
def ZdE:Zh:=fun args σ K=>match args,σ with
 | [.ptr 0 0,.d (.str sg),.d (.int .i64 m),.func g1 [.ptr 0 0] [],.func g2 [.ptr 0 0] []],⟨[.cells t [.d (.sl rows),.d (.int .i64 a),.d (.int .i64 en),.d (.int .i64 dp)]],[],0⟩ =>
   (sg=[44]/\m=12/\g1=195/\g2=192)/\∃L ts,rows=ZB L/\ROK L a ts/\∀x,XE [44] 12 ZF YM ts=x ->
    RKk (fun (l:List Bs)=>.d (.sl (l.map (Xg)))) L en dp a x fun pe a' dp'=>K pe ⟨[.cells t [.d (.sl (ZB L)),.d (.int .i64 a'),.d (.int .i64 en),.d (.int .i64 dp')]],[],0⟩
 | _,_=>False
def ZnZ:OKw w0 nG ([(195,(JE ZF)),(185,YQ),(192,Xp),(233,XM)]) 239 (ZdE):=by
 refine pwo Tryz.func239 fun args σ K h=>?_
 unfold ZdE at h
 split at h
 ·rename_i sg m g1 g2 t rows a en dp
  obtain ⟨⟨rfl,rfl,rfl,rfl⟩,L,ts,rfl,ho,h⟩:=h;have h:=h _ rfl;have hl:=ho.len;have dm:=ho.big;have qo:=ho.lo;refine pwu [(2,⟨[11],[0,1,2,3,4],fun vs σ=>∃(l:List Bs) (a':Int) (ts':Ts) (f:Nat),vs=[.sl 0 9 (l.map (Xg))] /\
   σ=⟨[.cells t [.d (.sl (ZB L)),.d (.int .i64 a'),.d (.int .i64 en),.d (.int .i64 dp)]],[0],1⟩/\ROK L a' ts'/\a+l.length<=a'/\ts'.length<f /\
   XE [44] 12 ZF YM ts=X9 [44] 12 ZF YM f l ts',
   fun _ σ=>match σ with | ⟨.cells _ [_,.d (.int _ i),_,_]::_,_,_⟩=>((L.length:Int) - i).toNat | _=>0⟩)] 1 false ?_
  conv=>whnf
  refine ⟨⟨[],a,ts,ts.length+1,rfl,rfl,ho,sM,oM,rfl⟩,?_⟩;intro vs σ hI
  obtain ⟨l,a1,ts1,f,rfl,rfl,ah,vu,hf,hm⟩:=hI;obtain ⟨f,rfl⟩:∃g,f=g+1:=⟨f - 1,oM⟩
  rw [Uh] at hm;have cf:=ah.len;have rq:=ah.hi;(conv=>whnf);refine ⟨L,ts1,rfl,ah,fun b hb=>?_⟩;have step:(¬(ZF ts1=true/\l.length=12))->XE [44] 12 ZF YM ts=((YM) ts1).bind fun x ts=>if isW ts [[44]]=true then X9 [44] 12 ZF YM f (l++[x]) ts.tail else .ok (l++[x]) ts:=fun g=>by rw [hm,Te g]
  cases b with
  | false =>
   have step:=step (by rw [hb];simp);(conv=>whnf);exact mq20
  | true =>
  conv=>whnf
  refine ZGr (fun hc=>wN ?_) (fun hc=>wN ?_)
  ·have hc:l.length=12:=by
    have hc:((l.map (Xg)).length:Int)=12:=hc;rw [Td] at hc;omega
   exact mq71
  have step:=step (fun g=>hc (by show ((l.map (Xg)).length:Int)=12;rw [Td,g.2];rfl));exact mq20
 exact h.elim
def Zbe:Zh:=fun args σ K=>match args,σ with
 | [.ptr 0 0,.d (.str sg),.d (.int .i64 m),.func g1 [.ptr 0 0] [],.func g2 [] [.ptr 1 0]],⟨[.cells t [.d (.sl rows),.d (.int .i64 a),.d (.int .i64 en),.d (.int .i64 dp)],.cells t0 [.ptr 0 0]],[],0⟩ =>
   (sg=[124]/\m=64/\g1=195/\g2=236)/\∃L ts,rows=ZB L/\ROK L a ts/\∀x,XE [124] 64 ZF Zdw ts=x ->
    RKk (fun (l:List Ca)=>.d (.sl (l.map (XF)))) L en dp a x fun pe a' dp'=>K pe ⟨[.cells t [.d (.sl (ZB L)),.d (.int .i64 a'),.d (.int .i64 en),.d (.int .i64 dp')],.cells t0 [.ptr 0 0]],[],0⟩
 | _,_=>False
def ZkA:OKw w0 nG ([(195,(JE ZF)),(185,YQ),(236,(ZAM (fun _ _ (v:Ca)=>Ug (XF v)) Zdw 1)),(233,XM)]) 235 (Zbe):=by
 refine pwo Tryz.func235 fun args σ K h=>?_
 unfold Zbe at h
 split at h
 ·rename_i sg m g1 g2 t rows a en dp t0
  obtain ⟨⟨rfl,rfl,rfl,rfl⟩,L,ts,rfl,ho,h⟩:=h;have h:=h _ rfl;have hl:=ho.len;have dm:=ho.big;have qo:=ho.lo;refine pwu [(2,⟨[11],[0,1,2,3,4],fun vs σ=>∃(l:List Ca) (a':Int) (ts':Ts) (f:Nat),vs=[.sl 0 155 (l.map (XF))] /\
   σ=⟨[.cells t [.d (.sl (ZB L)),.d (.int .i64 a'),.d (.int .i64 en),.d (.int .i64 dp)],.cells t0 [.ptr 0 0]],[0],1⟩/\ROK L a' ts'/\a+l.length<=a'/\ts'.length<f /\
   XE [124] 64 ZF Zdw ts=X9 [124] 64 ZF Zdw f l ts',
   fun _ σ=>match σ with | ⟨.cells _ [_,.d (.int _ i),_,_]::_,_,_⟩=>((L.length:Int) - i).toNat | _=>0⟩)] 2 false ?_
  conv=>whnf
  refine ⟨⟨[],a,ts,ts.length+1,rfl,rfl,ho,sM,oM,rfl⟩,?_⟩;intro vs σ hI
  obtain ⟨l,a1,ts1,f,rfl,rfl,ah,vu,hf,hm⟩:=hI;obtain ⟨f,rfl⟩:∃g,f=g+1:=⟨f - 1,oM⟩
  rw [Uh] at hm;have cf:=ah.len;have rq:=ah.hi;(conv=>whnf);refine ⟨L,ts1,rfl,ah,fun b hb=>?_⟩;have step:(¬(ZF ts1=true/\l.length=64))->XE [124] 64 ZF Zdw ts=((Zdw) ts1).bind fun x ts=>if isW ts [[124]]=true then X9 [124] 64 ZF Zdw f (l++[x]) ts.tail else .ok (l++[x]) ts:=fun g=>by rw [hm,Te g]
  cases b with
  | false =>
   have step:=step (by rw [hb];simp);(conv=>whnf);exact mq18
  | true =>
  conv=>whnf
  refine ZGr (fun hc=>wN ?_) (fun hc=>wN ?_)
  ·have hc:l.length=64:=by
    have hc:((l.map (XF)).length:Int)=64:=hc;rw [Td] at hc;omega
   exact mq71
  have step:=step (fun g=>hc (by show ((l.map (XF)).length:Int)=64;rw [Td,g.2];rfl));exact mq18
 exact h.elim
def Zam (d:Nat):Zh:=fun args σ K=>match args,σ with
 | [.ptr 0 0,.d (.str sg),.d (.int .i64 m),.func g1 [.ptr 0 0] [],.func g2 [.ptr 0 0] []],⟨[.cells t [.d (.sl rows),.d (.int .i64 a),.d (.int .i64 en),.d (.int .i64 dp)]],[],0⟩ =>
   (sg=[44]/\m=12/\g1=264/\g2=265/\(dp=64 - (d:Int)/\0<=dp))/\∃L ts,rows=ZB L/\ROK L a ts/\∀x,XE [44] 12 ZP (Zba d) ts=x ->
    RKk (fun (l:List Ex)=>.d (.sl (l.map (ZD (Zb L en))))) L en dp a x fun pe a' dp'=>K pe ⟨[.cells t [.d (.sl (ZB L)),.d (.int .i64 a'),.d (.int .i64 en),.d (.int .i64 dp')]],[],0⟩
 | _,_=>False
def Zqm (d:Nat):OKw w0 nG [(264,(JE ZP)),(185,YQ),(265,(ZjN (fun L en (v:Ex)=>Ug (ZD (Zb L en) v)) (Zba d) 0 d)),(233,XM)] 263 (Zam d):=by
 refine pwo Tryz.func263 fun args σ K h=>?_
 unfold Zam at h
 split at h
 ·rename_i sg m g1 g2 t rows a en dp
  obtain ⟨⟨rfl,rfl,rfl,rfl,fp⟩,L,ts,rfl,ho,h⟩:=h;have h:=h _ rfl;have hl:=ho.len;have dm:=ho.big;have qo:=ho.lo;refine pwu [(2,⟨[11],[0,1,2,3,4],fun vs σ=>∃(l:List Ex) (a':Int) (ts':Ts) (f:Nat),vs=[.sl 0 67 (l.map (ZD (Zb L en)))] /\
   σ=⟨[.cells t [.d (.sl (ZB L)),.d (.int .i64 a'),.d (.int .i64 en),.d (.int .i64 dp)]],[0],1⟩/\ROK L a' ts'/\a+l.length<=a'/\ts'.length<f /\
   XE [44] 12 ZP (Zba d) ts=X9 [44] 12 ZP (Zba d) f l ts',
   fun _ σ=>match σ with | ⟨.cells _ [_,.d (.int _ i),_,_]::_,_,_⟩=>((L.length:Int) - i).toNat | _=>0⟩)] 1 false ?_
  conv=>whnf
  refine ⟨⟨[],a,ts,ts.length+1,rfl,rfl,ho,sM,oM,rfl⟩,?_⟩;intro vs σ hI
  obtain ⟨l,a1,ts1,f,rfl,rfl,ah,vu,hf,hm⟩:=hI;obtain ⟨f,rfl⟩:∃g,f=g+1:=⟨f - 1,oM⟩
  rw [Uh] at hm;have cf:=ah.len;have rq:=ah.hi;(conv=>whnf);refine ⟨L,ts1,rfl,ah,fun b hb=>?_⟩;have step:(¬(ZP ts1=true/\l.length=12))->XE [44] 12 ZP (Zba d) ts=(((Zba d)) ts1).bind fun x ts=>if isW ts [[44]]=true then X9 [44] 12 ZP (Zba d) f (l++[x]) ts.tail else .ok (l++[x]) ts:=fun g=>by rw [hm,Te g]
  cases b with
  | false =>
   have step:=step (by rw [hb];simp);(conv=>whnf);exact mq16
  | true =>
  conv=>whnf
  refine ZGr (fun hc=>wN ?_) (fun hc=>wN ?_)
  ·have hc:l.length=12:=by
    have hc:((l.map (ZD (Zb L en))).length:Int)=12:=hc;rw [Td] at hc;omega
   exact mq71
  have step:=step (fun g=>hc (by show ((l.map (ZD (Zb L en))).length:Int)=12;rw [Td,g.2];rfl));exact mq16
 exact h.elim
def Zg4 (d:Nat):Zh:=fun args σ K=>match args,σ with
 | [.ptr 0 0,.d (.str sg),.d (.int .i64 m),.func g1 [] [.ptr 1 0],.func g2 [.ptr 0 0] []],⟨[.cells t [.d (.sl rows),.d (.int .i64 a),.d (.int .i64 en),.d (.int .i64 dp)],.cells t0 [.ptr 0 0]],[],0⟩ =>
   (sg=[44]/\m=32/\g1=267/\g2=268/\(dp=64 - (d:Int)/\0<=dp))/\∃L ts,rows=ZB L/\ROK L a ts/\∀x,XE [44] 32 Yc (ZnT d (ZeU d)) ts=x ->
    RKk (fun (l:List Li)=>.d (.sl (l.map (YC (Zb L en))))) L en dp a x fun pe a' dp'=>K pe ⟨[.cells t [.d (.sl (ZB L)),.d (.int .i64 a'),.d (.int .i64 en),.d (.int .i64 dp')],.cells t0 [.ptr 0 0]],[],0⟩
 | _,_=>False
def Zqo (d:Nat):OKw w0 nG [(267,(Zl1 Yc)),(185,YQ),(268,(ZjN (fun L en (v:Li)=>Ug (YC (Zb L en) v)) (ZnT d (ZeU d)) 0 d)),(233,XM)] 266 (Zg4 d):=by
 refine pwo Tryz.func266 fun args σ K h=>?_
 unfold Zg4 at h
 split at h
 ·rename_i sg m g1 g2 t rows a en dp t0
  obtain ⟨⟨rfl,rfl,rfl,rfl,fp⟩,L,ts,rfl,ho,h⟩:=h;have h:=h _ rfl;have hl:=ho.len;have dm:=ho.big;have qo:=ho.lo;refine pwu [(2,⟨[11],[0,1,2,3,4],fun vs σ=>∃(l:List Li) (a':Int) (ts':Ts) (f:Nat),vs=[.sl 0 65 (l.map (YC (Zb L en)))] /\
   σ=⟨[.cells t [.d (.sl (ZB L)),.d (.int .i64 a'),.d (.int .i64 en),.d (.int .i64 dp)],.cells t0 [.ptr 0 0]],[0],1⟩/\ROK L a' ts'/\a+l.length<=a'/\ts'.length<f /\
   XE [44] 32 Yc (ZnT d (ZeU d)) ts=X9 [44] 32 Yc (ZnT d (ZeU d)) f l ts',
   fun _ σ=>match σ with | ⟨.cells _ [_,.d (.int _ i),_,_]::_,_,_⟩=>((L.length:Int) - i).toNat | _=>0⟩)] 2 false ?_
  conv=>whnf
  refine ⟨⟨[],a,ts,ts.length+1,rfl,rfl,ho,sM,oM,rfl⟩,?_⟩;intro vs σ hI
  obtain ⟨l,a1,ts1,f,rfl,rfl,ah,vu,hf,hm⟩:=hI;obtain ⟨f,rfl⟩:∃g,f=g+1:=⟨f - 1,oM⟩
  rw [Uh] at hm;have cf:=ah.len;have rq:=ah.hi;(conv=>whnf);refine ⟨L,ts1,rfl,ah,fun b hb=>?_⟩;have step:(¬(Yc ts1=true/\l.length=32))->XE [44] 32 Yc (ZnT d (ZeU d)) ts=(((ZnT d (ZeU d))) ts1).bind fun x ts=>if isW ts [[44]]=true then X9 [44] 32 Yc (ZnT d (ZeU d)) f (l++[x]) ts.tail else .ok (l++[x]) ts:=fun g=>by rw [hm,Te g]
  cases b with
  | false =>
   have step:=step (by rw [hb];simp);(conv=>whnf);exact mq15
  | true =>
  conv=>whnf
  refine ZGr (fun hc=>wN ?_) (fun hc=>wN ?_)
  ·have hc:l.length=32:=by
    have hc:((l.map (YC (Zb L en))).length:Int)=32:=hc;rw [Td] at hc;omega
   exact mq71
  have step:=step (fun g=>hc (by show ((l.map (YC (Zb L en))).length:Int)=32;rw [Td,g.2];rfl));exact mq15
 exact h.elim
abbrev Zg5:Zh:=ZAM (fun _ _ (v:Fi)=>Ug (Zp v)) WY 1
abbrev ZkB:Zh:=ZAM (fun _ _ (v:Ca)=>Ug (XF v)) Zdw 1
def UI:Zh:=Xh fun rest L en dp a ts K=>match rest with
 | [.d (.str w)]=>∀x,Za9 w ts=x->RKk (fun (v:List Fi)=>.d (.sl (v.map Zp))) L en dp a x K
 | _=>False
abbrev ZdF:Zh:=spR (fun _ _ (v:List Bs)=>.d (.sl (v.map Xg))) ZfI 0
abbrev Zg6:Zh:=spR (fun L en (v:Ty)=>Ug (Z6 (Zb L en) v)) ZiK 0
abbrev Zl2:Zh:=spR (fun L en (v:Re)=>Ug (Zu (Zb L en) v)) Zp7 0
def Zqq:OKw w0 nG [(192,Xp),(193,Xj)] 261 Zg5:=by
 refine pwo Tryz.func261 fun args σ K h=>?_
 unfold Zg5 ZAM Zqk at h
 split at h
 ·rename_i rest t0 t rows a en dp
  obtain ⟨L,ts,rfl,ho,h⟩:=h;split at h
  ·skip
   have h0:=ho.lo;have h1:=ho.hi;have h2:=ho.big;refine pwv [] 2 false ?_;have h:=h _ rfl;unfold WY at h
   refine ⟨L,ts,rfl,ho,fun x du=>?_⟩;rcases x with ⟨v1,ts1⟩ | ⟨r1,e1⟩
   rotate_left
   ·exact mq46
   rw [du,R.bind_ok] at h;intro a1 ef ah
   have bq:=ah.hi;(conv=>whnf);refine ⟨L,ts1,rfl,ah,fun x bo=>?_⟩;exact mq156
  exact h.elim
 exact h.elim
def Zqs:OKw w0 nG [(186,ZiQ),(260,JG)] 234 UI:=by
 refine pwo Tryz.func234 fun args σ K h=>?_
 unfold UI Xh at h
 split at h
 ·rename_i rest t rows a en dp
  obtain ⟨L,ts,rfl,ho,h⟩:=h;split at h
  ·rename_i w
   have h0:=ho.lo;have h1:=ho.hi;have h2:=ho.big;refine pwv [] 1 false ?_;have h:=h _ rfl;unfold Za9 at h
   refine ⟨L,ts,rfl,ho,[w],rfl,sM,fun b1 cy=>?_⟩
   cases b1 with
   | true =>
    rw [Ti cy] at h;(conv=>whnf);exact h _ oM ho
   | false =>
   rw [Te (by rw [cy];simp)] at h;(conv=>whnf);refine ⟨⟨rfl,rfl,rfl,rfl⟩,L,ts,rfl,ho,fun x bo=>?_⟩;rcases x with ⟨v2,ts2⟩ | ⟨r2,e2⟩
   rotate_left
   ·rw [bo] at h;intro a9 d9;(conv=>whnf);exact h _ _
   rw [bo] at h;intro a2 f7 ac
   have dj:=ac.hi;(conv=>whnf);exact h _ oM ac
  exact h.elim
 exact h.elim
def ZtG:OKw w0 nG [(233,XM),(239,ZdE),(193,Xj)] 194 ZdF:=by
 refine pwo Tryz.func194 fun args σ K h=>?_
 unfold ZdF spR Xh at h
 split at h
 ·rename_i rest t rows a en dp
  obtain ⟨L,ts,rfl,ho,h⟩:=h;split at h
  ·skip
   have h0:=ho.lo;have h1:=ho.hi;have h2:=ho.big;refine pwv [] 1 false ?_;have h:=h _ rfl;unfold ZfI at h
   refine ⟨L,ts,rfl,ho,[[60]],rfl,sM,fun cy ah=>wN ?_,fun cy=>wN ?_⟩
   ·rw [Ti cy] at h;have bq:=ah.hi;refine ⟨⟨rfl,rfl,rfl,rfl⟩,L,ts.tail,rfl,ah,fun x bo=>?_⟩;exact mq156
   rw [Te (by rw [cy];simp)] at h;exact h _ oM ho
  exact h.elim
 exact h.elim
def ZtI:OKw w0 nG [(192,Xp),(193,Xj),(234,UI)] 236 ZkB:=by
 refine pwo Tryz.func236 fun args σ K h=>?_
 unfold ZkB ZAM Zqk at h
 split at h
 ·rename_i rest t0 t rows a en dp
  obtain ⟨L,ts,rfl,ho,h⟩:=h;split at h
  ·skip
   have h0:=ho.lo;have h1:=ho.hi;have h2:=ho.big;refine pwv [] 2 false ?_;have h:=h _ rfl;unfold Zdw at h
   refine ⟨L,ts,rfl,ho,fun x du=>?_⟩;rcases x with ⟨v1,ts1⟩ | ⟨r1,e1⟩
   rotate_left
   ·exact mq46
   rw [du,R.bind_ok] at h;intro a1 ef ah
   have bq:=ah.hi;(conv=>whnf);refine ⟨L,ts1,rfl,ah,fun x bo=>?_⟩;rcases x with ⟨v2,ts2⟩ | ⟨r2,e2⟩
   rotate_left
   ·exact mq39
   rw [bo,R.bind_ok] at h;intro a2 f7 ac
   have dj:=ac.hi;(conv=>whnf);refine ⟨L,ts2,rfl,ac,fun x ff=>?_⟩;rcases x with ⟨v3,ts3⟩ | ⟨r3,e3⟩
   rotate_left
   ·exact mq17
   rw [ff,R.bind_ok] at h;intro a3 gq am
   have ib:=am.hi;(conv=>whnf);refine ⟨L,ts3,rfl,am,fun x mz=>?_⟩;rcases x with ⟨v4,ts4⟩ | ⟨r4,e4⟩
   rotate_left
   ·exact mq97
   rw [mz,R.bind_ok] at h;intro a4 nr bz
   have s6:=bz.hi;(conv=>whnf);exact h _ oM bz
  exact h.elim
 exact h.elim
def ZtK:OKw w0 nG [(191,Wc),(192,Xp),(233,XM),(193,Xj),(234,UI),(235,Zbe)] 188 Zg6:=by
 refine pwo Tryz.func188 fun args σ K h=>?_
 unfold Zg6 spR Xh at h
 split at h
 ·rename_i rest t rows a en dp
  obtain ⟨L,ts,rfl,ho,h⟩:=h;split at h
  ·skip
   have h0:=ho.lo;have h1:=ho.hi;have h2:=ho.big;refine pwv [] 1 false ?_;have h:=h _ rfl;unfold ZiK at h
   refine ⟨L,ts,rfl,ho,wN ?_⟩;refine ⟨L,ts,rfl,ho,fun x du=>?_⟩;rcases x with ⟨v1,ts1⟩ | ⟨r1,e1⟩
   rotate_left
   ·exact mq46
   rw [du,R.bind_ok] at h;intro a1 ef ah
   have bq:=ah.hi;(conv=>whnf);refine ⟨L,ts1,rfl,ah,[[60,58]],rfl,sM,fun il ac=>wN ?_,fun il=>wN ?_⟩
   ·rw [Ti il] at h;have dj:=ac.hi;refine ⟨L,ts1.tail,rfl,ac,fun x ff=>?_⟩;rcases x with ⟨v3,ts3⟩ | ⟨r3,e3⟩
    rotate_left
    ·exact mq17
    exact mq105
   rw [Te (by rw [il];simp)] at h;refine ⟨L,ts1,rfl,ah,fun x ff=>?_⟩;rcases x with ⟨v3,ts3⟩ | ⟨r3,e3⟩
   rotate_left
   ·exact mq17
   rw [ff,R.bind_ok] at h;intro a3 gq am
   have ib:=am.hi;(conv=>whnf);refine ⟨L,ts3,rfl,am,[[91]],rfl,sM,fun jx bz=>wN ?_,fun jx=>wN ?_⟩
   ·rw [Ti jx] at h;have s6:=bz.hi;refine ⟨L,ts3.tail,rfl,bz,fun x j5=>?_⟩;rcases x with ⟨v5,ts5⟩ | ⟨r5,e5⟩
    rotate_left
    ·exact mq38
    rw [j5,R.bind_ok] at h;intro a5 mg cn
    have vw:=cn.hi;(conv=>whnf);refine ⟨L,ts5,rfl,cn,fun x rt=>?_⟩;rcases x with ⟨v6,ts6⟩ | ⟨r6,e6⟩
    rotate_left
    ·rw [rt,R.bind_err] at h;intro a9 d9;(conv=>whnf);exact h _ _
    rw [rt,R.bind_ok] at h;intro a6 z8 eh
    have hb6:=eh.hi;(conv=>whnf);exact h _ oM eh
   rw [Te (by rw [jx];simp)] at h;refine ⟨⟨rfl,rfl,rfl,rfl⟩,L,ts3,rfl,am,fun x j5=>?_⟩;rcases x with ⟨v5,ts5⟩ | ⟨r5,e5⟩
   rotate_left
   ·exact mq38
   rw [j5,R.bind_ok] at h;intro a5 mg cn
   have vw:=cn.hi;(conv=>whnf);exact h _ oM cn
  exact h.elim
 exact h.elim
def J0 (i o n:Bool):Nat:=(match i with | true=>0 | false=>1)+(match o with | true=>0 | false=>1)+(match n with | true=>0 | false=>1)
def Zn0 (f : Nat) (i o n : Bool) (ts : Ts) : Y0 (f + 1) i o n ts = if i = false /\ isW ts [[105, 110, 112, 117, 116]] = true then Y0 f true o n ts.tail
      else if o=false/\isW ts [[111,117,116,112,117,116]]=true then Y0 f i true n ts.tail
      else if n=false/\isW ts [[105,110,108,105,110,101]]=true then Y0 f i o true ts.tail
      else ((i,o,n),ts):=rfl
def Zxu:OKw w0 nG [(191,Wc),(192,Xp),(233,XM),(193,Xj),(234,UI)] 189 Zl2:=by
 refine pwo Tryz.func189 fun args σ K h=>?_
 unfold Zl2 spR Xh at h
 split at h
 ·rename_i rest t rows a en dp
  obtain ⟨L,ts,rfl,ho,h⟩:=h;split at h
  ·skip
   have h0:=ho.lo;have h1:=ho.hi;have h2:=ho.big;refine pwv [(7,⟨[],[0,2,3],fun vs σ=>∃(nm:Bs) (l:List Fi) (a5:Int) (ts5:Ts) (i o n:Bool) (a':Int) (ts':Ts) (f:Nat),vs=[]/\σ=⟨[.cells t [.d (.sl (ZB L)),.d (.int .i64 a'),.d (.int .i64 en),.d (.int .i64 dp)],.cells 53 [.d (.str []),.sl 0 188 [],.d (.bool false),.d (.bool false),.d (.bool false),.d (.int .i64 0)],.cells 53 [.d (.str nm),.d (.sl (l.map Zp)),.d (.bool i),.d (.bool o),.d (.bool n),.d (.int .i64 (Zb L en ts.length))]],[0],1⟩/\ROK L a' ts'/\a<=a'/\J0 i o n<f/\RKk (fun (v:Re)=>Ug (Zu (Zb L en) v)) L en dp (a+0) (R.ok ⟨nm,l,(Y0 f i o n ts').1.1,(Y0 f i o n ts').1.2.1,(Y0 f i o n ts').1.2.2,ts.length⟩ (Y0 f i o n ts').2) (fun pe a' dp'=>K pe ⟨[.cells t [.d (.sl (ZB L)),.d (.int .i64 a'),.d (.int .i64 en),.d (.int .i64 dp')]],[],0⟩),fun _ σ=>match σ with | ⟨[_,_,.cells _ [_,_,.d (.bool i),.d (.bool o),.d (.bool n),_]],_,_⟩=>J0 i o n | _=>0⟩)] 1 false ?_;have h:=h _ rfl;unfold Zp7 at h
   refine ⟨L,ts,rfl,ho,wN ?_⟩;refine ⟨L,ts,rfl,ho,fun x du=>?_⟩;rcases x with ⟨v1,ts1⟩ | ⟨r1,e1⟩
   rotate_left
   ·exact mq46
   rw [du,R.bind_ok] at h;intro a1 ef ah
   have bq:=ah.hi;(conv=>whnf);refine ⟨L,ts1,rfl,ah,fun x bo=>?_⟩;rcases x with ⟨v2,ts2⟩ | ⟨r2,e2⟩
   rotate_left
   ·exact mq39
   rw [bo,R.bind_ok] at h;intro a2 f7 ac
   have dj:=ac.hi;(conv=>whnf);refine ⟨L,ts2,rfl,ac,fun x ff=>?_⟩;rcases x with ⟨v3,ts3⟩ | ⟨r3,e3⟩
   rotate_left
   ·exact mq17
   rw [ff,R.bind_ok] at h;intro a3 gq am
   have ib:=am.hi;(conv=>whnf);refine ⟨L,ts3,rfl,am,fun x mz=>?_⟩;rcases x with ⟨v4,ts4⟩ | ⟨r4,e4⟩
   rotate_left
   ·exact mq97
   rw [mz,R.bind_ok] at h;intro a4 nr bz
   have s6:=bz.hi;(conv=>whnf);refine ⟨⟨v1,v3,a4,ts4,false,false,false,a4,ts4,4,rfl,rfl,bz,oM,dM,h⟩,?_⟩
   clear h du bo ff mz ah ac am bz bq dj ib s6 ef f7 gq nr
   intro vs σ hI
   obtain ⟨nm,l,a5,ts5,i,o,n,a',ts',f,rfl,rfl,cz,aw,hf,h⟩:=hI;obtain ⟨f,rfl⟩:∃g,f=g+1:=⟨f - 1,oM⟩
   rw [Zn0] at h;have sc:=cz.hi;(conv=>whnf)
   cases i with
   | true =>
    rw [Te sM] at h;(conv=>whnf)
    cases o with
    | true =>
     rw [Te sM] at h;(conv=>whnf)
     cases n with
     | true =>
      exact mq136
     | false =>
     conv=>whnf
     refine ⟨L,ts',rfl,cz,[[105,110,108,105,110,101]],rfl,sM,fun gt fg=>wN ?_,fun gt=>wN ?_⟩
     ·rw [Ti ⟨rfl,gt⟩] at h;have s7:=fg.hi;refine ⟨⟨nm,l,a5,ts5,true,true,true,a'+1,ts'.tail,f,rfl,rfl,fg,oM,?_,h⟩,?_⟩
      ·(simp only [J0] at hf |-;omega)
      show J0 true true true<J0 true true false
      (simp only [J0];omega)
     exact mq129
    | false =>
    conv=>whnf
    refine ⟨L,ts',rfl,cz,[[111,117,116,112,117,116]],rfl,sM,fun gt fg=>wN ?_,fun gt=>wN ?_⟩
    ·rw [Ti ⟨rfl,gt⟩] at h;have s7:=fg.hi;refine ⟨⟨nm,l,a5,ts5,true,true,n,a'+1,ts'.tail,f,rfl,rfl,fg,oM,?_,h⟩,?_⟩
     ·cases n <;> (simp only [J0] at hf |-;omega)
     show J0 true true n<J0 true false n
     cases n <;> (simp only [J0];omega)
    rw [Te (by rw [gt];simp)] at h
    cases n with
    | true =>
     exact mq136
    | false =>
    conv=>whnf
    refine ⟨L,ts',rfl,cz,[[105,110,108,105,110,101]],rfl,sM,fun gt fg=>wN ?_,fun gt=>wN ?_⟩
    ·rw [Ti ⟨rfl,gt⟩] at h;have s7:=fg.hi;refine ⟨⟨nm,l,a5,ts5,true,false,true,a'+1,ts'.tail,f,rfl,rfl,fg,oM,?_,h⟩,?_⟩
     ·(simp only [J0] at hf |-;omega)
     show J0 true false true<J0 true false false
     (simp only [J0];omega)
    exact mq129
   | false =>
   conv=>whnf
   refine ⟨L,ts',rfl,cz,[[105,110,112,117,116]],rfl,sM,fun gt fg=>wN ?_,fun gt=>wN ?_⟩
   ·rw [Ti ⟨rfl,gt⟩] at h;have s7:=fg.hi;refine ⟨⟨nm,l,a5,ts5,true,o,n,a'+1,ts'.tail,f,rfl,rfl,fg,oM,?_,h⟩,?_⟩
    ·cases o <;> cases n <;> (simp only [J0] at hf |-;omega)
    show J0 true o n<J0 false o n
    cases o <;> cases n <;> (simp only [J0];omega)
   rw [Te (by rw [gt];simp)] at h
   cases o with
   | true =>
    rw [Te sM] at h;(conv=>whnf)
    cases n with
    | true =>
     exact mq136
    | false =>
    conv=>whnf
    refine ⟨L,ts',rfl,cz,[[105,110,108,105,110,101]],rfl,sM,fun gt fg=>wN ?_,fun gt=>wN ?_⟩
    ·rw [Ti ⟨rfl,gt⟩] at h;have s7:=fg.hi;refine ⟨⟨nm,l,a5,ts5,false,true,true,a'+1,ts'.tail,f,rfl,rfl,fg,oM,?_,h⟩,?_⟩
     ·(simp only [J0] at hf |-;omega)
     show J0 false true true<J0 false true false
     (simp only [J0];omega)
    exact mq129
   | false =>
   conv=>whnf
   refine ⟨L,ts',rfl,cz,[[111,117,116,112,117,116]],rfl,sM,fun gt fg=>wN ?_,fun gt=>wN ?_⟩
   ·rw [Ti ⟨rfl,gt⟩] at h;have s7:=fg.hi;refine ⟨⟨nm,l,a5,ts5,false,true,n,a'+1,ts'.tail,f,rfl,rfl,fg,oM,?_,h⟩,?_⟩
    ·cases n <;> (simp only [J0] at hf |-;omega)
    show J0 false true n<J0 false false n
    cases n <;> (simp only [J0];omega)
   rw [Te (by rw [gt];simp)] at h
   cases n with
   | true =>
    exact mq136
   | false =>
   conv=>whnf
   refine ⟨L,ts',rfl,cz,[[105,110,108,105,110,101]],rfl,sM,fun gt fg=>wN ?_,fun gt=>wN ?_⟩
   ·rw [Ti ⟨rfl,gt⟩] at h;have s7:=fg.hi;refine ⟨⟨nm,l,a5,ts5,false,false,true,a'+1,ts'.tail,f,rfl,rfl,fg,oM,?_,h⟩,?_⟩
    ·(simp only [J0] at hf |-;omega)
    show J0 false false true<J0 false false false
    (simp only [J0];omega)
   exact mq129
  exact h.elim
 exact h.elim
def ZbT (fn:Func) (tb:Tbl):Zh:=fun args σ K=>∃K0:PEnd->St->Prop,(∀e σ,K0 e σ->K e σ)/\args.length<=fn.ntmps/\WF (ctx VE tb (Zg [])) fn σ.bx.length false args σ K0
def Zqt (fn:Func) (tb:Tbl):Zy (ZbT fn tb):=fun args σ K K' hK ⟨K0,h1,h2⟩=>⟨K0,fun e σ h=>hK _ _ (h1 e σ h),h2⟩
def Zn1 (fn:Func) (unr:Nat->Nat) (tb:Tbl):Zh:=fun args σ K=>∃K0:PEnd->St->Prop,(∀e σ,K0 e σ->K e σ)/\args.length<=fn.ntmps/\WF (ZD0 VE tb (Zg []) unr (ZC [])) fn σ.bx.length false args σ K0
def _root_.Go.PM.PCalls.closed {G:GE} {g:FuncId} {sp:Zh} (h:PCalls G g sp):PCalls G g (fun args σ K=>∃K0:PEnd->St->Prop,(∀e σ,K0 e σ->K e σ)/\sp args σ K0):=⟨h.enters,fun args σ K ⟨K0,hK,hs⟩ n e w vs hS ha =>
 (h.calls args σ K0 hs n e w vs hS ha).mono fun en w' ⟨pe,σ',e',hk,hr⟩=>⟨pe,σ',e',hK _ _ hk,hr⟩⟩
def W0 {g : FuncId} {fn : Func} {c : Code} {tb : Tbl} (ht : TO w0 nG tb) (hf : (GG w0 nG).P.funcs[g]? = some fn) (hb : fn.body = some c) (ao : (fn.name == "runtime.NumGoroutine") = false) (ak : ZG fn.ntmps c = true) : PC w0 nG g (ZbT fn tb) := by
 have h:PC w0 nG g (fun args σ K=>args.length<=fn.ntmps/\WF (ctx VE tb (Zg [])) fn σ.bx.length false args σ K):=by
  refine Ziv Zr mixed ht hf hb ao ak ?_;intro args σ K h
  exact ⟨Zg [],σ.bx.length,false,Tt _,h.1,h.2⟩
 exact h.closed
def ZiU {g : FuncId} {fn : Func} {c : Code} {unr : Nat -> Nat} {tb : Tbl} (ht : TO w0 nG tb) (hf : (GG w0 nG).P.funcs[g]? = some fn) (hb : fn.body = some c) (ao : (fn.name == "runtime.NumGoroutine") = false) (ak : ZG fn.ntmps c = true) : PC w0 nG g (Zn1 fn unr tb) := by
 have h:PC w0 nG g (fun args σ K=>args.length<=fn.ntmps/\WF (ZD0 VE tb (Zg []) unr (ZC [])) fn σ.bx.length false args σ K):=by
  refine Yn Zr mixed ht hf hb ao ak ?_;intro args σ K h
  exact ⟨Zg [],unr,ZC [],σ.bx.length,false,Tt _,h.1,h.2⟩
 exact h.closed
def Zxv {α:Type} (enc:List Tok->Int->α->PV) (P:Ts->R α) (lo:Int) (d:Nat):Zh:=Xh fun rest L en dp a ts K=>match rest with
 | []=>(0<d/\dp=65 - (d:Int)/\0<=dp)/\∀x,P ts=x->RKk (enc L en) L en dp (a+lo) x K
 | _=>False
def ZdG {α:Type} {enc:List Tok->Int->α->PV} {P:Ts->R α} {lo:Int} {g:FuncId} (h:XK (GG w0 nG).P g):PC w0 nG g (Zxv enc P lo 0):=⟨h,fun args σ K hs=>by
 exfalso;unfold Zxv Xh at hs
 split at hs
 ·obtain ⟨L,ts,_,_,hs⟩:=hs;split at hs
  ·have:=hs.1.1;omega
  exact hs
 exact hs⟩
def _root_.Go.PM.PCalls.weaken1 {G:GE} {g:FuncId} {sp sp':Zh} (h:PCalls G g sp) (hw:∀args σ K,sp' args σ K->sp args σ K):PCalls G g sp':=⟨h.enters,fun args σ K hs=>h.calls args σ K (hw _ _ _ hs)⟩
def ZdH {α:Type} {enc:List Tok->Int->α->PV} {P:Ts->R α} {lo:Int} {d:Nat} {g:FuncId} (h:PC w0 nG g (ZjN enc P lo d)):PC w0 nG g (Zxv enc P lo (d+1)):=h.weaken1 fun args σ K hs=>by
 unfold Zxv Xh at hs
 unfold ZjN Xh
 split at hs
 ·obtain ⟨L,ts,h1,h2,hs⟩:=hs;refine ⟨L,ts,h1,h2,?_⟩;split at hs
  ·exact ⟨by have:=hs.1.2;omega,hs.2⟩
  exact hs.elim
 exact hs
def Zbf:Zh:=fun args σ K=>match args,σ with
 | [.d (.str w),.ptr 0 0],⟨[.cells t0 [.ptr 1 0],.cells t [.d (.sl rows),.d (.int .i64 a),.d (.int .i64 en),.d (.int .i64 dp)]],[],0⟩=>∃L ts,rows=ZB L/\ROK L a ts /\
   (isW ts [w]=true->ROK L (a+1) ts.tail->K (.ret (.d (.bool true))) ⟨[.cells t0 [.ptr 1 0],.cells t [.d (.sl (ZB L)),.d (.int .i64 (a+1)),.d (.int .i64 en),.d (.int .i64 dp)]],[],0⟩) /\
   (isW ts [w]=false->K (.ret (.d (.bool false))) ⟨[.cells t0 [.ptr 1 0],.cells t [.d (.sl (ZB L)),.d (.int .i64 a),.d (.int .i64 en),.d (.int .i64 dp)]],[],0⟩)
 | _,_=>False
def Zl3:Tbl:=[(233,XM)]
def Zqu:OKw w0 nG Zl3 286 Zbf:=by
 refine pwo Tryz.func286 fun args σ K h=>?_
 exact mq72
def Zqv:OKw w0 nG Zl3 287 Zbf:=by
 refine pwo Tryz.func287 fun args σ K h=>?_
 exact mq72
def ZtL:Zh:=fun args σ K=>match args,σ with
 | [.asl 0 0 n,.func g [] [.ptr 1 0]],⟨[.cells tA cs,.cells t0 [.ptr 2 0],.cells t [.d (.sl rows),.d (.int .i64 a),.d (.int .i64 en),.d (.int .i64 dp)]],[],0⟩=>∃L ts ws,rows=ZB L/\ROK L a ts /\
   ((ws=relWords/\g=286)\/(ws=aggWords/\g=287))/\n=ws.length/\cs=ws.map (fun w=>PV.d (.str w)) /\
   (∀k:Nat,ZbS ts 0 ws=some k->ROK L (a+1) ts.tail->K (.ret (.d (.int .i64 k))) ⟨[.cells tA cs,.cells t0 [.ptr 2 0],.cells t [.d (.sl (ZB L)),.d (.int .i64 (a+1)),.d (.int .i64 en),.d (.int .i64 dp)]],[],0⟩) /\
   (ZbS ts 0 ws=none->K (.ret (.d (.int .i64 (-1)))) ⟨[.cells tA cs,.cells t0 [.ptr 2 0],.cells t [.d (.sl (ZB L)),.d (.int .i64 a),.d (.int .i64 en),.d (.int .i64 dp)]],[],0⟩)
 | _,_=>False
def ZvZ:Tbl:=[(286,Zbf),(287,Zbf)]
def ZBl (ht:TO w0 nG ZvZ):PC w0 nG 201 ZtL:=by
 refine Yn Zr mixed (tbl:=ZvZ) ht Tryz.func201 rfl kR kR ?_;intro args σ K h
 unfold ZtL at h
 split at h
 ·rename_i n g tA cs t0 t rows a en dp
  obtain ⟨L,ts,ws,rfl,ho,hws,rfl,rfl,h1,h2⟩:=h;refine ⟨Zg [],ZV [(2,8)],ZC [],3,false,sM,Tb rfl,?_⟩;rcases hws with ⟨rfl,rfl⟩ | ⟨rfl,rfl⟩
  ·conv=>whnf
   refine ⟨dM,dM,wN ?_⟩;refine ⟨L,ts,rfl,ho,fun hw0 ac=>wN ?_,fun hw0=>wN ?_⟩
   ·exact h1 0 (by simp [ZbS,relWords, *]) ac
   refine Zk ?_;refine ⟨dM,dM,wN ?_⟩;refine ⟨L,ts,rfl,ho,fun cy ac=>wN ?_,fun cy=>wN ?_⟩
   ·exact h1 1 (by simp [ZbS,relWords, *]) ac
   refine Zk ?_;refine ⟨dM,dM,wN ?_⟩;refine ⟨L,ts,rfl,ho,fun il ac=>wN ?_,fun il=>wN ?_⟩
   ·exact h1 2 (by simp [ZbS,relWords, *]) ac
   refine Zk ?_;refine ⟨dM,dM,wN ?_⟩;refine ⟨L,ts,rfl,ho,fun nt ac=>wN ?_,fun nt=>wN ?_⟩
   ·exact h1 3 (by simp [ZbS,relWords, *]) ac
   refine Zk ?_;refine ⟨dM,dM,wN ?_⟩;refine ⟨L,ts,rfl,ho,fun jx ac=>wN ?_,fun jx=>wN ?_⟩
   ·exact h1 4 (by simp [ZbS,relWords, *]) ac
   refine Zk ?_;refine ⟨dM,dM,wN ?_⟩;refine ⟨L,ts,rfl,ho,fun hw5 ac=>wN ?_,fun hw5=>wN ?_⟩
   ·exact h1 5 (by simp [ZbS,relWords, *]) ac
   refine Zk ?_;exact h2 (by simp [ZbS,relWords, *])
  conv=>whnf
  refine ⟨dM,dM,wN ?_⟩;refine ⟨L,ts,rfl,ho,fun hw0 ac=>wN ?_,fun hw0=>wN ?_⟩
  ·exact h1 0 (by simp [ZbS,aggWords, *]) ac
  refine Zk ?_;refine ⟨dM,dM,wN ?_⟩;refine ⟨L,ts,rfl,ho,fun cy ac=>wN ?_,fun cy=>wN ?_⟩
  ·exact h1 1 (by simp [ZbS,aggWords, *]) ac
  refine Zk ?_;refine ⟨dM,dM,wN ?_⟩;refine ⟨L,ts,rfl,ho,fun il ac=>wN ?_,fun il=>wN ?_⟩
  ·exact h1 2 (by simp [ZbS,aggWords, *]) ac
  refine Zk ?_;refine ⟨dM,dM,wN ?_⟩;refine ⟨L,ts,rfl,ho,fun nt ac=>wN ?_,fun nt=>wN ?_⟩
  ·exact h1 3 (by simp [ZbS,aggWords, *]) ac
  refine Zk ?_;exact h2 (by simp [ZbS,aggWords, *])
 exact h.elim
def Zg7:Nat->Ts->R Ex
 | 0=>fun _=>.err 0 150
 | d+1=>Xo d
def ZtM (d:Nat):Zdy d=fun ts=>JD (Zg7 d) 6 1 ts:=by cases d <;> rfl
def Zn2 (d:Nat) (ts:Ts):Xo d ts=Zdx d (Zg7 d) ts:=by cases d <;> rfl
def Zn3 {ts:Ts} (h:ZP ts=true):ts≠[]:=by rintro rfl;simp [ZP,hd] at h
abbrev ZkC (d:Nat):Zh:=Zxv (fun L en (v:Ex)=>Ug (ZD (Zb L en) v)) (Zdy d) 0 d
abbrev ZiV (d:Nat):Zh:=Zxv (fun L en (v:Ex)=>Ug (ZD (Zb L en) v)) (Zg7 d) 0 d
abbrev ZfK (d:Nat):Zh:=ZjN (fun L en (v:Ex)=>Ug (ZD (Zb L en) v)) (Zba d) 0 d
abbrev Zcv (d:Nat):Zh:=ZjN (fun L en (v:Ex)=>Ug (ZD (Zb L en) v)) (Xo d) 0 d
abbrev Zan (d:Nat):Zh:=ZjN (fun L en (v:Ex)=>Ug (ZD (Zb L en) v)) (Zai d (Zdy d)) 0 d
def ZdI (d:Nat):Zh:=Xh fun rest L en dp a ts K=>match rest with
 | [.d (.str fr),.d (.str tw)]=>((dp=64 - (d:Int)/\0<=dp)/\tw≠[])/\∀x,ZiL d (Zdy d) fr tw ts=x->RKk (fun (l:List Ex)=>.d (.sl (l.map (ZD (Zb L en))))) L en dp a x K
 | _=>False
def Zl4 (d:Nat):Zh:=Xh fun rest L en dp a ts K=>match rest with
 | [.agg [.d (.int .u8 op),.d (.str []),.d (.int .i64 n),.nils e,.d (.int .i64 at')]]=>((dp=64 - (d:Int)/\0<=dp)/\n=0/\e=67)/\∃o:Nat,op=(o:Int)/\∀x,Zq d [40] [41] (Zah (Zdy d) (Wa o) []) ts=x ->
   RKk (fun (l:List Ex)=>.agg [.d (.int .u8 op),.d (.str []),.d (.int .i64 0),.d (.sl (l.map (ZD (Zb L en)))),.d (.int .i64 at')]) L en dp a x K
 | _=>False
def W1 (d:Nat):Zh:=fun args σ K=>match args,σ with
 | [.ptr 0 0,.d (.str sg),.d (.int .i64 m),.func g1 [.ptr 0 0] [],.func g2 [.ptr 0 0] []],⟨[.cells t [.d (.sl rows),.d (.int .i64 a),.d (.int .i64 en),.d (.int .i64 dp)]],[],0⟩ =>
   (sg=[44]/\m=12/\g1=264/\g2=265/\0<d/\dp=65 - (d:Int)/\0<=dp)/\∃L ts,rows=ZB L/\ROK L a ts/\∀x,XE [44] 12 ZP (Zdy d) ts=x ->
    RKk (fun (l:List Ex)=>.d (.sl (l.map (ZD (Zb L en))))) L en dp a x fun pe a' dp'=>K pe ⟨[.cells t [.d (.sl (ZB L)),.d (.int .i64 a'),.d (.int .i64 en),.d (.int .i64 dp')]],[],0⟩
 | _,_=>False
def Zl5 (d:Nat):Tbl:=[(186,ZiQ),(263,W1 d)]
def Zl6 (d:Nat):Tbl:=[(186,ZiQ),(193,Xj),(185,YQ),(262,ZbT Tryz.f262 (Zl5 d))]
def Zxx {d:Nat}:OKw w0 nG [(237,ZbT Tryz.f237 (Zl6 d))] 240 (ZdI d):=by
 refine pwo Tryz.func240 fun args σ K h=>?_
 unfold ZdI Xh at h
 split at h
 ·rename_i rest t rows a en dp
  obtain ⟨L,ts,rfl,ho,h⟩:=h;split at h
  ·rename_i fr tw
   obtain ⟨⟨fp,xm⟩,h⟩:=h;have h0:=ho.lo;have h1:=ho.hi;have h2:=ho.big;refine pwv [] 1 false ?_;have h:=h _ rfl;unfold ZiL at h
   refine ⟨_,fun _ _ h=>h,Tb rfl,wN ?_⟩;refine ⟨L,ts,rfl,ho,[fr],rfl,sM,fun b cy=>?_⟩
   cases b with
   | false =>
    exact mq171
   | true =>
   rw [Zq,Ti cy] at h;(conv=>whnf);refine ZGr (fun hc=>wN ?_) (fun hc=>wN ?_)
   ·rw [Ti oM] at h;exact mq73
   rw [Te oM] at h;refine ⟨L,ts,rfl,ho,fun x hx=>?_⟩;rw [ZN,Ti cy] at hx;subst hx;intro a1 ef ah
   have bq:=ah.hi;(conv=>whnf);refine Zk ?_;refine ⟨_,fun _ _ h=>h,Tb rfl,wN ?_⟩;refine ⟨L,ts.tail,rfl,ah,[tw],rfl,sM,fun b jx=>?_⟩;have fy:∀(x:R (List Ex)),(if isW ts.tail [tw]=true then R.ok [] ts.tail else XE [44] 12 ZP (Zdy d) ts.tail)=x->True:=fun _ _=>trivial
   cases b with
   | true =>
    rw [Ti jx,R.bind_ok] at h;(conv=>whnf);have ac:=ah;refine ZGu (fun _=>wN ?_) (fun g=>absurd g xm);rw [Te xm] at h;refine ⟨L,ts.tail,rfl,ah,fun x ff=>?_⟩;exact mq12
   | false =>
   rw [Te (by rw [jx];simp)] at h;(conv=>whnf);refine ⟨⟨rfl,rfl,rfl,rfl,oM,oM,oM⟩,L,ts.tail,rfl,ah,fun x bo=>?_⟩;rcases x with ⟨v2,ts2⟩ | ⟨r2,e2⟩
   rotate_left
   ·exact mq39
   rw [bo,R.bind_ok] at h;intro a2 f7 ac
   have dj:=ac.hi;(conv=>whnf);refine ZGu (fun _=>wN ?_) (fun g=>absurd g xm);rw [Te xm] at h;refine ⟨L,ts2,rfl,ac,fun x ff=>?_⟩;exact mq12
  exact h.elim
 exact h.elim
def W2 (ex:Ts->R Ex) (k:Nat) (l:List Ex) (ts:Ts):Zah ex (k+1) l ts=(if l=[] then .ok () ts else ZN [44] ts).bind fun _ ts=>(ex ts).bind fun e ts=>Zah ex k (l++[e]) ts:=rfl
def Zl7 (d:Nat):Tbl:=[(193,Xj),(265,ZkC d)]
def Zl8 (d:Nat):Tbl:=[(186,ZiQ),(193,Xj),(185,YQ),(332,Zn1 Tryz.f332 (ZV [(1,5)]) (Zl7 d))]
def Zxz {d:Nat}:OKw w0 nG [(237,ZbT Tryz.f237 (Zl8 d))] 328 (Zl4 d):=by
 refine pwo Tryz.func328 fun args σ K h=>?_
 unfold Zl4 Xh at h
 split at h
 ·rename_i rest t rows a en dp
  obtain ⟨L,ts,rfl,ho,h⟩:=h;split at h
  ·rename_i op n e at'
   obtain ⟨⟨fp,rfl,rfl⟩,o,rfl,h⟩:=h;have h:=h _ rfl;have h0:=ho.lo;have h1:=ho.hi;have h2:=ho.big;refine pwv [] 1 false ?_;refine ZGr (fun dx=>?_) (fun dx=>wN ?_)
   ·obtain rfl:o=22:=by omega
    have lc:Wa 22=3:=rfl;(conv=>whnf);refine V4 ?_;refine V4 ?_;rw [lc] at h;refine ⟨_,fun _ _ h=>h,Tb rfl,wN ?_⟩;refine ⟨L,ts,rfl,ho,[[40]],rfl,sM,fun b cy=>?_⟩
    cases b with
    | false =>
     exact mq171
    | true =>
    rw [Zq,Ti cy] at h;(conv=>whnf);refine ZGr (fun hc=>wN ?_) (fun hc=>wN ?_)
    ·rw [Ti oM] at h;exact mq73
    rw [Te oM] at h;refine ⟨L,ts,rfl,ho,fun x hx=>?_⟩;rw [ZN,Ti cy] at hx;subst hx;intro a1 ef ah
    have bq:=ah.hi;(conv=>whnf);refine Zk ?_;refine ⟨_,fun _ _ h=>h,Tb rfl,wN ?_⟩;rw [W2] at h;rw [Ti rfl,R.bind_ok] at h;refine ⟨L,ts.tail,rfl,ah,⟨oM,oM,oM⟩,fun x nu=>?_⟩;rcases x with ⟨v10,ts10⟩ | ⟨r10,e10⟩
    rotate_left
    ·exact mq126
    rw [nu,R.bind_ok] at h;intro a10 s8 ld
    have aaa:=ld.hi;obtain ⟨v10a,v10b,v10c,v10d,v10e⟩:=v10;(conv=>whnf);refine ⟨rfl,rfl,Tb rfl,Tb rfl,wN ?_⟩
    repeat (refine ⟨rfl,?_⟩;conv=>whnf)
    refine V4 ?_;rw [W2] at h;rw [Te sM] at h;refine ⟨L,ts10,rfl,ld,fun x j6=>?_⟩;rcases x with ⟨v11,ts11⟩ | ⟨r11,e11⟩
    rotate_left
    ·rw [j6,R.bind_err,R.bind_err] at h;intro a9 d9;(conv=>whnf);exact h _ _
    rw [j6,R.bind_ok] at h;intro a11 s9 lf
    have aab:=lf.hi;(conv=>whnf);refine ⟨L,ts11,rfl,lf,⟨oM,oM,oM⟩,fun x lg=>?_⟩;rcases x with ⟨v12,ts12⟩ | ⟨r12,e12⟩
    rotate_left
    ·rw [lg,R.bind_err,R.bind_err] at h;intro a9 d9;(conv=>whnf);exact h _ _
    rw [lg,R.bind_ok] at h;intro a12 ta lh
    have aac:=lh.hi;obtain ⟨v12a,v12b,v12c,v12d,v12e⟩:=v12;(conv=>whnf);refine ⟨rfl,rfl,Tb rfl,Tb rfl,wN ?_⟩
    repeat (refine ⟨rfl,?_⟩;conv=>whnf)
    refine V4 ?_;rw [W2] at h;rw [Te sM] at h;refine ⟨L,ts12,rfl,lh,fun x aad=>?_⟩;rcases x with ⟨v13,ts13⟩ | ⟨r13,e13⟩
    rotate_left
    ·rw [aad,R.bind_err,R.bind_err] at h;intro a9 d9;(conv=>whnf);exact h _ _
    rw [aad,R.bind_ok] at h;intro a13 afz aae
    have ah9:=aae.hi;(conv=>whnf);refine ⟨L,ts13,rfl,aae,⟨oM,oM,oM⟩,fun x aaf=>?_⟩;rcases x with ⟨v14,ts14⟩ | ⟨r14,e14⟩
    rotate_left
    ·rw [aaf,R.bind_err,R.bind_err] at h;intro a9 d9;(conv=>whnf);exact h _ _
    rw [aaf,R.bind_ok] at h;intro a14 af0 aag
    have aia:=aag.hi;obtain ⟨v14a,v14b,v14c,v14d,v14e⟩:=v14;(conv=>whnf);refine ⟨rfl,rfl,Tb rfl,Tb rfl,wN ?_⟩
    repeat (refine ⟨rfl,?_⟩;conv=>whnf)
    refine V4 ?_;rw [Zah] at h;rw [R.bind_ok] at h;have aah:ts14=ts14:=rfl;have ac:=aag;obtain ⟨ts2,pr⟩:∃t,t=ts14:=⟨_,rfl⟩
    rw [<- pr] at h ac;exact mq167
   refine ZGr (fun vz=>?_) (fun vz=>wN ?_)
   ·obtain rfl:o=20:=by omega
    have lc:Wa 20=2:=rfl;(conv=>whnf);refine V4 ?_;rw [lc] at h;refine ⟨_,fun _ _ h=>h,Tb rfl,wN ?_⟩;refine ⟨L,ts,rfl,ho,[[40]],rfl,sM,fun b cy=>?_⟩
    cases b with
    | false =>
     exact mq171
    | true =>
    rw [Zq,Ti cy] at h;(conv=>whnf);refine ZGr (fun hc=>wN ?_) (fun hc=>wN ?_)
    ·rw [Ti oM] at h;exact mq73
    rw [Te oM] at h;refine ⟨L,ts,rfl,ho,fun x hx=>?_⟩;rw [ZN,Ti cy] at hx;subst hx;intro a1 ef ah
    have bq:=ah.hi;(conv=>whnf);refine Zk ?_;refine ⟨_,fun _ _ h=>h,Tb rfl,wN ?_⟩;rw [W2] at h;rw [Ti rfl,R.bind_ok] at h;refine ⟨L,ts.tail,rfl,ah,⟨oM,oM,oM⟩,fun x nu=>?_⟩;rcases x with ⟨v10,ts10⟩ | ⟨r10,e10⟩
    rotate_left
    ·exact mq126
    rw [nu,R.bind_ok] at h;intro a10 s8 ld
    have aaa:=ld.hi;obtain ⟨v10a,v10b,v10c,v10d,v10e⟩:=v10;(conv=>whnf);refine ⟨rfl,rfl,Tb rfl,Tb rfl,wN ?_⟩
    repeat (refine ⟨rfl,?_⟩;conv=>whnf)
    refine V4 ?_;rw [W2] at h;rw [Te sM] at h;refine ⟨L,ts10,rfl,ld,fun x j6=>?_⟩;rcases x with ⟨v11,ts11⟩ | ⟨r11,e11⟩
    rotate_left
    ·rw [j6,R.bind_err,R.bind_err] at h;intro a9 d9;(conv=>whnf);exact h _ _
    rw [j6,R.bind_ok] at h;intro a11 s9 lf
    have aab:=lf.hi;(conv=>whnf);refine ⟨L,ts11,rfl,lf,⟨oM,oM,oM⟩,fun x lg=>?_⟩;rcases x with ⟨v12,ts12⟩ | ⟨r12,e12⟩
    rotate_left
    ·rw [lg,R.bind_err,R.bind_err] at h;intro a9 d9;(conv=>whnf);exact h _ _
    rw [lg,R.bind_ok] at h;intro a12 ta lh
    have aac:=lh.hi;obtain ⟨v12a,v12b,v12c,v12d,v12e⟩:=v12;(conv=>whnf);refine ⟨rfl,rfl,Tb rfl,Tb rfl,wN ?_⟩
    repeat (refine ⟨rfl,?_⟩;conv=>whnf)
    refine V4 ?_;rw [Zah] at h;rw [R.bind_ok] at h;have aah:ts12=ts12:=rfl;have ac:=lh;obtain ⟨ts2,pr⟩:∃t,t=ts12:=⟨_,rfl⟩
    rw [<- pr] at h ac;exact mq167
   have lc:Wa o=1:=by rw [Wa,Te oM,Te oM]
   rw [lc] at h;refine ⟨_,fun _ _ h=>h,Tb rfl,wN ?_⟩;refine ⟨L,ts,rfl,ho,[[40]],rfl,sM,fun b cy=>?_⟩
   cases b with
   | false =>
    exact mq171
   | true =>
   rw [Zq,Ti cy] at h;(conv=>whnf);refine ZGr (fun hc=>wN ?_) (fun hc=>wN ?_)
   ·rw [Ti oM] at h;exact mq73
   rw [Te oM] at h;refine ⟨L,ts,rfl,ho,fun x hx=>?_⟩;rw [ZN,Ti cy] at hx;subst hx;intro a1 ef ah
   have bq:=ah.hi;(conv=>whnf);refine Zk ?_;refine ⟨_,fun _ _ h=>h,Tb rfl,wN ?_⟩;rw [W2] at h;rw [Ti rfl,R.bind_ok] at h;refine ⟨L,ts.tail,rfl,ah,⟨oM,oM,oM⟩,fun x nu=>?_⟩;rcases x with ⟨v10,ts10⟩ | ⟨r10,e10⟩
   rotate_left
   ·exact mq126
   rw [nu,R.bind_ok] at h;intro a10 s8 ld
   have aaa:=ld.hi;obtain ⟨v10a,v10b,v10c,v10d,v10e⟩:=v10;(conv=>whnf);refine ⟨rfl,rfl,Tb rfl,Tb rfl,wN ?_⟩
   repeat (refine ⟨rfl,?_⟩;conv=>whnf)
   refine V4 ?_;rw [Zah] at h;rw [R.bind_ok] at h;have aah:ts10=ts10:=rfl;have ac:=ld;obtain ⟨ts2,pr⟩:∃t,t=ts10:=⟨_,rfl⟩
   rw [<- pr] at h ac;exact mq167
  exact h.elim
 exact h.elim
def Zl9 (d:Nat):Tbl:=[(265,ZkC d)]
def Zma (d:Nat):Tbl:=[(186,ZiQ),(193,Xj),(185,YQ),(327,ZbT Tryz.f327 (Zl9 d))]
def Zqw (d:Nat):Tbl:=[(264,JE ZP),(185,YQ),(231,Zal),(237,ZbT Tryz.f237 (Zma d)),(240,ZdI d),(192,Xp),(186,ZiQ),(215,Xd),(328,Zl4 d)]
def Zn4 {d:Nat} (ht:TO w0 nG (Zqw d)):PC w0 nG 316 (Zan d):=by
 refine Zdo Zr mixed (tbl:=Zqw d) ht Tryz.func316 rfl kR kR ?_;intro args σ K h
 unfold Zan ZjN Xh at h
 split at h
 ·rename_i rest t rows a en dp
  obtain ⟨L,ts,rfl,ho,h⟩:=h;split at h
  ·obtain ⟨fp,h⟩:=h;have h0:=ho.lo;have h1:=ho.hi;have h2:=ho.big;refine ⟨Zg [],ZV [],ZC [],ZC [],ZC [328],1,false,sM,Tb rfl,wN ?_⟩;have h:=h _ rfl;refine ⟨L,ts,rfl,ho,fun b hst=>?_⟩
   cases b with
   | false =>
    rw [Zai,Ti hst] at h;(conv=>whnf);exact mq73
   | true =>
   rw [Zai,Te (by rw [hst];simp)] at h;have x8:=ho.tl (Zn3 hst);have hbt:=x8.hi;(conv=>whnf);refine ⟨L,ts,rfl,ho,fun fin=>Or.inl ⟨rfl,wN ?_⟩⟩;refine ZGr (fun hc=>wN ?_) (fun hc=>wN ?_)
   ·rw [Ti (show (hd ts).kind=2 by omega)] at h;exact mq120
   rw [Te (show ¬(hd ts).kind=2 by omega)] at h;refine ZGr (fun hc=>wN ?_) (fun hc=>wN ?_)
   ·rw [Ti (show (hd ts).kind=3 by omega)] at h;exact mq120
   rw [Te (show ¬(hd ts).kind=3 by omega)] at h;refine ZGr (fun hc=>wN ?_) (fun hc=>wN ?_)
   ·rw [Ti (show (hd ts).text=[40] from hc)] at h;refine ⟨_,fun _ _ h=>h,Tb rfl,wN ?_⟩;refine ⟨L,ts,rfl,ho,[[40]],rfl,sM,fun b cy=>?_⟩
    cases b with
    | false =>
     exact mq171
    | true =>
    rw [Zq,Ti cy] at h;(conv=>whnf);refine ZGr (fun hc=>wN ?_) (fun hc=>wN ?_)
    ·rw [Ti oM] at h;exact mq73
    rw [Te oM] at h;refine ⟨L,ts,rfl,ho,fun x hx=>?_⟩;rw [ZN,Ti cy] at hx;subst hx;intro a1 ef ah
    have bq:=ah.hi;(conv=>whnf);refine Zk ?_;refine ⟨_,fun _ _ h=>h,Tb rfl,wN ?_⟩;refine ⟨L,ts.tail,rfl,ah,⟨oM,oM,oM⟩,fun x bo=>?_⟩;rcases x with ⟨v2,ts2⟩ | ⟨r2,e2⟩
    rotate_left
    ·exact mq39
    rw [bo,R.bind_ok] at h;intro a2 f7 ac
    have dj:=ac.hi;obtain ⟨v2a,v2b,v2c,v2d,v2e⟩:=v2;(conv=>whnf);exact mq167
   rw [Te (show ¬(hd ts).text=[40] from hc)] at h;refine ZGr (fun hc=>wN ?_) (fun hc=>wN ?_)
   ·rw [Ti (show (hd ts).text=[91] from hc)] at h;refine ⟨L,ts,rfl,ho,⟨fp,sM⟩,fun x du=>?_⟩;rcases x with ⟨v1,ts1⟩ | ⟨r1,e1⟩
    rotate_left
    ·exact mq46
    rw [du,R.bind_ok] at h;intro a1 ef ah
    have bq:=ah.hi;(conv=>whnf);rw [<- Zc];exact h _ oM ah
   rw [Te (show ¬(hd ts).text=[91] from hc)] at h;refine ZGr (fun hc=>wN ?_) (fun hc=>wN ?_)
   ·rw [Ti (show (hd ts).text=[36] from hc)] at h;refine Zk ?_;refine ⟨L,ts.tail,rfl,x8,fun x du=>?_⟩;rcases x with ⟨v1,ts1⟩ | ⟨r1,e1⟩
    rotate_left
    ·exact mq46
    rw [du,R.bind_ok] at h;intro a1 ef ah
    have bq:=ah.hi;(conv=>whnf);refine ⟨L,ts1,rfl,ah,[[40]],rfl,sM,fun b il=>?_⟩
    cases b with
    | false =>
     rw [Te (by rw [il];simp)] at h;(conv=>whnf);exact h _ oM ah
    | true =>
    rw [Ti il] at h;(conv=>whnf);refine ⟨L,ts1,rfl,ah,⟨fp,sM⟩,fun x ff=>?_⟩;rcases x with ⟨v3,ts3⟩ | ⟨r3,e3⟩
    rotate_left
    ·exact mq17
    exact mq135
   rw [Te (show ¬(hd ts).text=[36] from hc)] at h;intro n hn
   conv=>whnf
   refine ZGu (fun hc=>wN ?_) (fun hc=>wN ?_)
   ·rw [Ti (show ZO (hd ts).text≠0 by omega)] at h;refine Zk ?_;intro n2 kd
    conv=>whnf
    refine ⟨L,ts.tail,rfl,x8,⟨fp,rfl,rfl⟩,ZO (hd ts).text,kd.symm,fun x du=>?_⟩;rcases x with ⟨v1,ts1⟩ | ⟨r1,e1⟩
    rotate_left
    ·exact mq46
    rw [du,R.bind_ok] at h;intro a1 ef ah
    have bq:=ah.hi;(conv=>whnf);rw [<- kd,<- Zc];exact h _ oM ah
   rw [Te (show ¬ZO (hd ts).text≠0 by omega)] at h;refine ZGr (fun hc=>wN ?_) (fun hc=>wN ?_)
   ·rw [Ti (show (hd ts).text=[110,105,108] from hc)] at h;refine Zk ?_;exact h _ oM x8
   rw [Te (show ¬(hd ts).text=[110,105,108] from hc)] at h;refine ZGr (fun hc=>wN ?_) (fun hc=>wN ?_)
   ·rw [Ti (show (hd ts).text=[95] from hc)] at h;refine Zk ?_;exact h _ oM x8
   rw [Te (show ¬(hd ts).text=[95] from hc)] at h;exact mq120
  exact h.elim
 exact h.elim
def Zmb (d:Nat):Tbl:=[(301,ZiV d)]
def Zmc (d:Nat):Tbl:=[(186,ZiQ),(193,Xj),(185,YQ),(315,ZbT Tryz.f315 (Zmb d))]
def Zmd (d:Nat):Tbl:=[(191,Wc),(186,ZiQ),(237,ZbT Tryz.f237 (Zmc d)),(316,Zan d)]
def Zqx {d:Nat} (ht:TO w0 nG (Zmd d)):PC w0 nG 301 (Zcv d):=by
 refine Yn Zr mixed (tbl:=Zmd d) ht Tryz.func301 rfl kR kR ?_;intro args σ K h
 unfold Zcv ZjN Xh at h
 split at h
 ·rename_i rest t rows a en dp
  obtain ⟨L,ts,rfl,ho,h⟩:=h;split at h
  ·obtain ⟨fp,h⟩:=h;have h0:=ho.lo;have h1:=ho.hi;have h2:=ho.big;refine ⟨Zg [],ZV [(3,4)],ZC [],1,false,sM,Tb rfl,wN ?_⟩;have h:=h _ rfl;rw [Zn2,Zdx] at h;refine ⟨L,ts,rfl,ho,wN ?_⟩;refine ⟨dM,dM,wN ?_⟩;refine ⟨L,ts,rfl,ho,[[45]],rfl,sM,fun b hw8=>?_⟩
   cases b with
   | true =>
    rw [Ti hw8] at h;(conv=>whnf);refine ⟨_,fun _ _ h=>h,Tb rfl,wN ?_⟩;refine ⟨L,ts,rfl,ho,[[45]],rfl,sM,fun b cy=>?_⟩;exact mq14
   | false =>
   rw [Te (by rw [hw8];simp)] at h;(conv=>whnf);refine V4 ?_;refine ⟨dM,dM,wN ?_⟩;refine ⟨L,ts,rfl,ho,[[126]],rfl,sM,fun b gt=>?_⟩
   cases b with
   | true =>
    rw [Ti gt] at h;(conv=>whnf);refine ⟨_,fun _ _ h=>h,Tb rfl,wN ?_⟩;refine ⟨L,ts,rfl,ho,[[126]],rfl,sM,fun b cy=>?_⟩;exact mq14
   | false =>
   rw [Te (by rw [gt];simp)] at h;(conv=>whnf);refine V4 ?_;rw [show JD (Zg7 d) 6 1=Zdy d from (ZtM d).symm] at h;refine ⟨L,ts,rfl,ho,fp,fun x du=>?_⟩;exact mq81
  exact h.elim
 exact h.elim
def ZfL (d j:Nat):Zh:=Xh fun rest L en dp a ts K=>match rest with
 | [.d (.int .i64 least)]=>((dp=64 - (d:Int)/\0<=dp)/\1<=least/\least<=6/\6<=least+(j:Int))/\∀x,JD (Xo d) j least.toNat ts=x->RKk (fun (v:Ex)=>Ug (ZD (Zb L en) v)) L en dp a x K
 | _=>False
def ZdJ (d j:Nat):Zh:=Xh fun rest L en dp a ts K=>match rest with
 | [.d (.int .i64 least)]=>((dp=64 - (d:Int)/\0<=dp)/\0<j/\1<=least/\least<=6/\7<=least+(j:Int))/\∀x,JD (Xo d) (j - 1) least.toNat ts=x->RKk (fun (v:Ex)=>Ug (ZD (Zb L en) v)) L en dp a x K
 | _=>False
def Zqy (ts:Ts):(Zb9 ts).1<=5/\(Zb9 ts).2<=255:=by
 unfold Zb9
 repeat' (first | (split;decide) | split)
 all_goals decide
def ZiW (sub : Nat -> Ts -> R Ex) (least f : Nat) (e : Ex) (ts : Ts) : Zaj sub least (f + 1) e ts = if (Zb9 ts).1 < least \/ (Zb9 ts).1 = 0 then .ok e ts
      else (sub ((Zb9 ts).1+1) ts.tail).bind fun g ts'=>Zaj sub least f (.mk (Zb9 ts).2 [] 0 [e,g] e.at') ts':=rfl
def Zn5 {sub:Nat->Ts->R Ex} {least f:Nat} {e:Ex} {ts:Ts} (h:6<=least):Zaj sub least (f+1) e ts=.ok e ts:=by
 rw [ZiW,Ti];have:=(Zqy ts).1;omega
def ZxA {ts:Ts} (h:(Zb9 ts).1≠0):ts≠[]:=by rintro rfl;exact h rfl
def ZtN (sg:Ts->R Ex) (j least:Nat) (ts:Ts) (h:6<=least+j):JD sg j least ts=(sg ts).bind fun e ts=>Zaj (JD sg (j - 1)) least (ts.length+1) e ts:=by
 cases j with
 | zero =>
  rw [JD]
  cases sg ts with
  | ok e ts=>rw [R.bind_ok,Zn5 oM]
  | err r e=>rfl
 | succ j=>rfl
def Zqz {d j:Nat}:OKw w0 nG [(301,Zcv d),(302,ZtE),(285,ZdJ d j)] 285 (ZfL d j):=by
 refine pwo Tryz.func285 fun args σ K h=>?_
 unfold ZfL Xh at h
 split at h
 ·rename_i rest t rows a en dp
  obtain ⟨L,ts,rfl,ho,h⟩:=h;split at h
  ·rename_i least
   obtain ⟨⟨fp,cf,dg,ct⟩,h⟩:=h;have h0:=ho.lo;have h1:=ho.hi;have h2:=ho.big;refine pwv [(2,⟨[],[0,1,4,5],fun vs σ=>∃(u1:Nat) (u2:Bs) (u3:Int) (u4:List Ex) (u5:Nat) (a':Int) (ts':Ts) (f:Nat),vs=[]/\σ=⟨[.cells t [.d (.sl (ZB L)),.d (.int .i64 a'),.d (.int .i64 en),.d (.int .i64 dp)],.cells 67 [.d (.int .u8 0),.d (.str []),.d (.int .i64 0),.sl 0 67 [],.d (.int .i64 0)],.cells 67 [.d (.int .u8 u1),.d (.str u2),.d (.int .i64 u3),.d (.sl (Ze (Zb L en) u4)),.d (.int .i64 (Zb L en u5))]],[0],1⟩/\ROK L a' ts'/\a<=a'/\ts'.length<f/\RKk (fun (v:Ex)=>Ug (ZD (Zb L en) v)) L en dp a (Zaj (JD (Xo d) (j - 1)) least.toNat f (.mk u1 u2 u3 u4 u5) ts') (fun pe a' dp'=>K pe ⟨[.cells t [.d (.sl (ZB L)),.d (.int .i64 a'),.d (.int .i64 en),.d (.int .i64 dp')]],[],0⟩),fun _ σ=>match σ with | ⟨.cells _ [_,.d (.int _ i),_,_]::_,_,_⟩=>((L.length:Int) - i).toNat | _=>0⟩)] 1 false ?_;have h:=h _ rfl;rw [ZtN _ _ _ _ oM] at h;refine ⟨L,ts,rfl,ho,fp,fun x du=>?_⟩;rcases x with ⟨v1,ts1⟩ | ⟨r1,e1⟩
   rotate_left
   ·exact mq46
   rw [du,R.bind_ok] at h;intro a1 ef ah
   have bq:=ah.hi;obtain ⟨v1a,v1b,v1c,v1d,v1e⟩:=v1;(conv=>whnf);refine ⟨⟨v1a,v1b,v1c,v1d,v1e,a1,ts1,ts1.length+1,rfl,rfl,ah,oM,oM,h⟩,?_⟩
   clear h du ah bq ef
   intro vs σ hI
   obtain ⟨u1,u2,u3,u4,u5,a',ts',f,rfl,rfl,cz,ad6,hf,h⟩:=hI;obtain ⟨f,rfl⟩:∃g,f=g+1:=⟨f - 1,oM⟩
   rw [ZiW] at h;have qn:=cz.hi;have tf:=cz.len;(conv=>whnf);refine ⟨L,ts',rfl,cz,fun n op hn dx=>wN ?_⟩;have aib:=Zqy ts';refine ZGr (fun hc=>wN ?_) (fun hc=>wN ?_)
   ·rw [Ti oM] at h;exact h _ oM cz
   refine ZGr (fun bw=>wN ?_) (fun bw=>wN ?_)
   ·rw [Ti oM] at h;exact h _ oM cz
   rw [Te oM] at h;have ac:=cz.tl (ZxA oM);have dj:=ac.hi;have gf:=ac.len;refine Zk ?_;refine Zk ?_;refine ⟨L,ts'.tail,rfl,ac,⟨fp,oM,oM,oM,oM⟩,fun x ff=>?_⟩;rw [show (n+1).toNat=(Zb9 ts').1+1 by omega] at ff;rcases x with ⟨v3,ts3⟩ | ⟨r3,e3⟩
   rotate_left
   ·exact mq17
   rw [ff,R.bind_ok] at h;intro a3 gq am
   have ib:=am.hi;obtain ⟨v3a,v3b,v3c,v3d,v3e⟩:=v3;(conv=>whnf);have jl:=am.len;obtain rfl:op=((Zb9 ts').2:Int):=dx.symm;refine ⟨⟨(Zb9 ts').2,[],0,[.mk u1 u2 u3 u4 u5,.mk v3a v3b v3c v3d v3e],u5,a3,ts3,f,rfl,rfl,am,oM,oM,h⟩,?_⟩;exact mq154
  exact h.elim
 exact h.elim
def ZxD {d:Nat}:OKw w0 nG [(285,ZfL d 6)] 265 (ZfK d):=by
 refine pwo Tryz.func265 fun args σ K h=>?_
 unfold ZfK ZjN Xh at h
 split at h
 ·rename_i rest t rows a en dp
  obtain ⟨L,ts,rfl,ho,h⟩:=h;split at h
  ·obtain ⟨fp,h⟩:=h;have h0:=ho.lo;have h1:=ho.hi;have h2:=ho.big;refine pwv [] 1 false ?_;have h:=h _ rfl;refine ⟨L,ts,rfl,ho,⟨fp,oM,oM,oM⟩,fun x du=>?_⟩;rw [Zba] at h
   change JD (Xo d) 6 1 ts=x at du
   exact mq81
  exact h.elim
 exact h.elim
abbrev ZxE (d:Nat):Zh:=ZjN (fun L en (v:Li)=>Ug (YC (Zb L en) v)) (ZnT d (ZeU d)) 0 d
abbrev ZiX (d:Nat):Zh:=ZjN (fun L en (v:List Li)=>.d (.sl (v.map (YC (Zb L en))))) (ZnU d) 0 d
abbrev Zg8 (d:Nat):Zh:=Zxv (fun L en (v:List Li)=>.d (.sl (v.map (YC (Zb L en))))) (ZeU d) 0 d
def ZtO (d:Nat):ZnU d=XE [44] 32 Yc (ZnT d (ZeU d)):=by cases d <;> rfl
def Zme (d:Nat):Zh:=Xh fun rest L en dp a ts K=>match rest with
 | [.d (.bool b)]=>(dp=64 - (d:Int)/\0<=dp)/\∀x,Zp8 d b ts=x->RKk (fun (v:Ru)=>Ug (Zs (Zb L en) v)) L en dp (a+1) x K
 | _=>False
def JH {ts:Ts}:∀{ws:List Bs} {i k:Nat},ZbS ts i ws=some k->i<=k/\k<i+ws.length
 | [],i,k,h=>by simp [ZbS] at h
 | w::ws,i,k,h=>by
  rw [ZbS] at h;split at h
  ·cases h;simp
  have:=JH h;simp only [Tf];omega
def Zbg {ts:Ts} (h:ZbS ts 0 relWords=none):Zdz ts=.err ts.length 150:=by rw [Zdz,h]
def ZdK {ts:Ts} {j:Nat} (h:ZbS ts 0 relWords=some 0) (h2:ZbS ts.tail 0 aggWords=some j):Zdz ts=.ok (9+j) ts.tail.tail:=by rw [Zdz,h];simp only [h2]
def Zg9 {ts:Ts} (h:ZbS ts 0 relWords=some 0) (h2:ZbS ts.tail 0 aggWords=none):Zdz ts=.ok 3 ts.tail:=by rw [Zdz,h];simp only [h2]
def ZdL {ts:Ts} {k:Nat} (h:ZbS ts 0 relWords=some (k+1)):Zdz ts=.ok (3+(k+1)) ts.tail:=by rw [Zdz,h];rfl
def ZtQ:OKw w0 nG [(264,(JE ZP)),(186,ZiQ)] 267 (Zl1 Yc):=by
 refine pwo Tryz.func267 fun args σ K h=>?_
 unfold Zl1 Zqk at h
 split at h
 ·rename_i rest t0 t rows a en dp
  obtain ⟨L,ts,rfl,ho,h⟩:=h;split at h
  ·skip
   refine pwv [] 2 false ?_;refine ⟨L,ts,rfl,ho,fun b hb=>?_⟩
   cases b with
   | true =>
    conv=>whnf
    exact h _ (by rw [Yc,hb];rfl)
   | false =>
   conv=>whnf
   refine ⟨L,ts,rfl,ho,[[33]],rfl,sM,fun b hw=>wN ?_⟩;exact h _ (by rw [Yc,hb,hw];rfl)
  exact h.elim
 exact h.elim
def ZxG {d:Nat}:OKw w0 nG [(266,Zg4 d)] 241 (ZiX d):=by
 refine pwo Tryz.func241 fun args σ K h=>?_
 unfold ZiX ZjN Xh at h
 split at h
 ·rename_i rest t rows a en dp
  obtain ⟨L,ts,rfl,ho,h⟩:=h;split at h
  ·obtain ⟨fp,h⟩:=h;have h0:=ho.lo;have h1:=ho.hi;have h2:=ho.big;refine pwv [] 1 false ?_;have h:=h _ rfl;rw [ZtO] at h;refine ⟨⟨rfl,rfl,rfl,rfl,fp⟩,L,ts,rfl,ho,fun x du=>?_⟩;rcases x with ⟨v1,ts1⟩ | ⟨r1,e1⟩
   rotate_left
   ·rw [du] at h;intro a9 d9;(conv=>whnf);exact h _ _
   rw [du] at h;intro a1 ef ah
   have bq:=ah.hi;(conv=>whnf);exact h _ oM ah
  exact h.elim
 exact h.elim
def ZqA (d:Nat):Tbl:=[(241,Zg8 d)]
def ZqB (d:Nat):Tbl:=[(186,ZiQ),(193,Xj),(185,YQ),(288,ZbT Tryz.f288 (ZqA d))]
def Zv0 (d:Nat):Tbl:=[(191,Wc),(233,XM),(231,Zal),(195,JE ZF),(192,Xp),(240,ZdI d),(265,ZfK d),(201,ZtL),(185,YQ),(193,Xj),(237,ZbT Tryz.f237 (ZqB d))]
def ZBm {d:Nat} (ht:TO w0 nG (Zv0 d)):PC w0 nG 268 (ZxE d):=by
 refine Zdo Zr mixed (tbl:=Zv0 d) ht Tryz.func268 rfl kR kR ?_;intro args σ K h
 unfold ZxE ZjN Xh at h
 split at h
 ·rename_i rest t rows a en dp
  obtain ⟨L,ts,rfl,ho,h⟩:=h;split at h
  ·obtain ⟨fp,h⟩:=h;have h0:=ho.lo;have h1:=ho.hi;have h2:=ho.big;refine ⟨Zg [],ZV [],ZC [],ZC [50],ZC [],1,false,sM,Tb rfl,wN ?_⟩;have h:=h _ rfl;rw [ZnT] at h;refine ⟨L,ts,rfl,ho,wN ?_⟩;refine ⟨L,ts,rfl,ho,[[33]],rfl,sM,fun cy ah=>wN ?_,fun cy=>wN ?_⟩
   ·rw [Ti cy] at h;have bq:=ah.hi;refine ⟨L,ts.tail,rfl,ah,fun fin=>Or.inr ⟨rfl,wN ?_⟩⟩;rw [ZdA] at h;refine ⟨L,ts.tail,rfl,ah,fun x j6=>?_⟩;exact mq42
   rw [Te (by rw [cy];simp)] at h;refine ⟨L,ts,rfl,ho,fun fin=>Or.inr ⟨rfl,wN ?_⟩⟩;refine ⟨L,ts,rfl,ho,fun b hn=>?_⟩
   cases b with
   | false =>
    rw [Te (by rw [hn];simp)] at h;(conv=>whnf);exact mq0
   | true =>
   conv=>whnf
   refine ZGr (fun hc=>wN ?_) (fun hc=>wN ?_)
   ·refine ZGr (fun bw=>wN ?_) (fun bw=>wN ?_)
    ·rw [Ti ⟨hn,oM,bw⟩] at h;rw [ZdA] at h;refine ⟨L,ts,rfl,ho,fun x j6=>?_⟩;exact mq42
    rw [Te (fun g=>bw g.2.2)] at h;exact mq0
   rw [Te (fun g=>hc (by have:=g.2.1;omega))] at h;exact mq0
  exact h.elim
 exact h.elim
def ZxI {d:Nat}:OKw w0 nG [(191,Wc),(192,Xp),(240,ZdI d),(233,XM),(241,ZiX d),(193,Xj)] 196 (Zme d):=by
 refine pwo Tryz.func196 fun args σ K h=>?_
 unfold Zme Xh at h
 split at h
 ·rename_i rest t rows a en dp
  obtain ⟨L,ts,rfl,ho,h⟩:=h;split at h
  ·rename_i bodies
   obtain ⟨fp,h⟩:=h;have h0:=ho.lo;have h1:=ho.hi;have h2:=ho.big;refine pwv [] 1 false ?_;have h:=h _ rfl;rw [Zp8] at h;refine ⟨L,ts,rfl,ho,wN ?_⟩;refine ⟨L,ts,rfl,ho,fun x du=>?_⟩;rcases x with ⟨v1,ts1⟩ | ⟨r1,e1⟩
   rotate_left
   ·exact mq46
   rw [du,R.bind_ok] at h;intro a1 ef ah
   have bq:=ah.hi;(conv=>whnf);refine ⟨L,ts1,rfl,ah,⟨fp,sM⟩,fun x bo=>?_⟩;have aic:=fp;rcases x with ⟨v2,ts2⟩ | ⟨r2,e2⟩
   rotate_left
   ·exact mq39
   rw [bo,R.bind_ok] at h;intro a2 f7 ac
   have dj:=ac.hi;(conv=>whnf)
   cases bodies with
   | false =>
    rw [Te sM] at h;(conv=>whnf);refine ⟨L,ts2,rfl,ac,fun x ff=>?_⟩;rcases x with ⟨v3,ts3⟩ | ⟨r3,e3⟩
    rotate_left
    ·exact mq17
    exact mq135
   | true =>
   conv=>whnf
   refine ⟨L,ts2,rfl,ac,[[58,45]],rfl,sM,fun nt am=>wN ?_,fun nt=>wN ?_⟩
   ·rw [Ti ⟨rfl,nt⟩] at h;have ib:=am.hi;refine ⟨L,ts2.tail,rfl,am,fp,fun x mz=>?_⟩;rcases x with ⟨v4,ts4⟩ | ⟨r4,e4⟩
    rotate_left
    ·exact mq97
    rw [mz,R.bind_ok] at h;intro a4 nr bz
    have s6:=bz.hi;(conv=>whnf);refine ⟨L,ts4,rfl,bz,fun x j5=>?_⟩;rcases x with ⟨v5,ts5⟩ | ⟨r5,e5⟩
    rotate_left
    ·exact mq38
    rw [j5,R.bind_ok] at h;intro a5 mg cn
    have vw:=cn.hi;(conv=>whnf);rw [<- Zc,<- Zn];exact h _ oM cn
   rw [Te (by rw [nt];simp)] at h;refine ⟨L,ts2,rfl,ac,fun x mz=>?_⟩;rcases x with ⟨v4,ts4⟩ | ⟨r4,e4⟩
   rotate_left
   ·exact mq97
   rw [mz,R.bind_ok] at h;intro a4 nr bz
   have s6:=bz.hi;(conv=>whnf);rw [<- Zc];exact h _ oM bz
  exact h.elim
 exact h.elim
def Zn6:Nat->Ts->R Un
 | 0=>fun _=>.err 0 150
 | d+1=>Zqc d
def ZtR (d:Nat):Zqc d=ZnV true d (Zn6 d):=by cases d <;> rfl
def ZxJ (b:Bool) (d:Nat) (ts:Ts):R Un:=ZnV b d (Zn6 d) ts
def ZdM (d:Nat):Zh:=Xh fun rest L en dp a ts K=>match rest with
 | [.d (.bool b)]=>(dp=64 - (d:Int)/\0<=dp)/\∀x,ZxJ b d ts=x->RKk (fun (v:Un)=>Ug (WZ (Zb L en) v)) L en dp a x K
 | _=>False
def Ui (d:Nat):Zh:=Xh fun rest L en dp a ts K=>match rest with
 | [.d (.bool b)]=>(0<d/\dp=65 - (d:Int)/\0<=dp/\b=true)/\∀x,Zn6 d ts=x->RKk (fun (v:Un)=>Ug (WZ (Zb L en) v)) L en dp a x K
 | _=>False
abbrev Zmf (d:Nat):Zh:=ZjN (fun L en (v:Co)=>Ug (ZeW (Zb L en) v)) (Zp9 d (Zn6 d)) 0 d
def Zmg (d:Nat):Tbl:=[(130,Ui d)]
def Zmh (d:Nat):Tbl:=[(186,ZiQ),(193,Xj),(185,YQ),(238,ZbT Tryz.f238 (Zmg d))]
def ZxL {d:Nat}:OKw w0 nG [(191,Wc),(192,Xp),(194,ZdF),(233,XM),(237,ZbT Tryz.f237 (Zmh d))] 190 (Zmf d):=by
 refine pwo Tryz.func190 fun args σ K h=>?_
 unfold Zmf ZjN Xh at h
 split at h
 ·rename_i rest t rows a en dp
  obtain ⟨L,ts,rfl,ho,h⟩:=h;split at h
  ·obtain ⟨fp,h⟩:=h;have h0:=ho.lo;have h1:=ho.hi;have h2:=ho.big;refine pwv [] 1 false ?_;have h:=h _ rfl;rw [Zp9] at h;refine ⟨L,ts,rfl,ho,wN ?_⟩;refine ⟨L,ts,rfl,ho,fun x du=>?_⟩;rcases x with ⟨v1,ts1⟩ | ⟨r1,e1⟩
   rotate_left
   ·exact mq46
   rw [du,R.bind_ok] at h;intro a1 ef ah
   have bq:=ah.hi;(conv=>whnf);refine ⟨L,ts1,rfl,ah,fun x bo=>?_⟩;rcases x with ⟨v2,ts2⟩ | ⟨r2,e2⟩
   rotate_left
   ·exact mq39
   rw [bo,R.bind_ok] at h;intro a2 f7 ac
   have dj:=ac.hi;(conv=>whnf);refine ⟨L,ts2,rfl,ac,[[58]],rfl,sM,fun nt am=>wN ?_,fun nt=>wN ?_⟩
   ·rw [Ti nt] at h;have ib:=am.hi;refine ⟨L,ts2.tail,rfl,am,fun x mz=>?_⟩;rcases x with ⟨v4,ts4⟩ | ⟨r4,e4⟩
    rotate_left
    ·exact mq97
    rw [mz,R.bind_ok] at h;intro a4 nr bz
    have s6:=bz.hi;(conv=>whnf);refine ⟨L,ts4,rfl,bz,fun x j5=>?_⟩;rcases x with ⟨v5,ts5⟩ | ⟨r5,e5⟩
    rotate_left
    ·exact mq38
    rw [j5,R.bind_ok] at h;intro a5 mg cn
    have vw:=cn.hi;(conv=>whnf);refine ⟨_,fun _ _ h=>h,Tb rfl,wN ?_⟩;refine ⟨L,ts5,rfl,cn,[[123]],rfl,sM,fun b m7=>?_⟩
    cases b with
    | false =>
     rw [Zq,Te (by rw [m7];simp),R.bind_err] at h;(conv=>whnf);refine ⟨L,ts5,rfl,cn,fun x hx=>?_⟩;rw [ZN,Te (by rw [m7];simp)] at hx;exact mq165
    | true =>
    rw [Zq,Ti m7] at h;(conv=>whnf);refine ZGr (fun hc=>wN ?_) (fun hc=>wN ?_)
    ·rw [Ti oM,R.bind_err] at h;refine ⟨L,ts5,rfl,cn,wN ?_⟩;exact h _ _
    rw [Te oM] at h;refine ⟨L,ts5,rfl,cn,fun x hx=>?_⟩;rw [ZN,Ti m7] at hx;subst hx;intro a7 aai im
    have hb7:=im.hi;(conv=>whnf);refine Zk ?_;refine ⟨_,fun _ _ h=>h,Tb rfl,wN ?_⟩;refine ⟨L,ts5.tail,rfl,im,⟨oM,oM,oM,rfl⟩,fun x x9=>?_⟩;exact mq37
   rw [Te (by rw [nt];simp)] at h;refine ⟨_,fun _ _ h=>h,Tb rfl,wN ?_⟩;refine ⟨L,ts2,rfl,ac,[[123]],rfl,sM,fun b m7=>?_⟩
   cases b with
   | false =>
    rw [Zq,Te (by rw [m7];simp),R.bind_err] at h;(conv=>whnf);refine ⟨L,ts2,rfl,ac,fun x hx=>?_⟩;rw [ZN,Te (by rw [m7];simp)] at hx;exact mq165
   | true =>
   rw [Zq,Ti m7] at h;(conv=>whnf);refine ZGr (fun hc=>wN ?_) (fun hc=>wN ?_)
   ·rw [Ti oM,R.bind_err] at h;refine ⟨L,ts2,rfl,ac,wN ?_⟩;exact h _ _
   rw [Te oM] at h;refine ⟨L,ts2,rfl,ac,fun x hx=>?_⟩;rw [ZN,Ti m7] at hx;subst hx;intro a7 aai im
   have hb7:=im.hi;(conv=>whnf);refine Zk ?_;refine ⟨_,fun _ _ h=>h,Tb rfl,wN ?_⟩;refine ⟨L,ts2.tail,rfl,im,⟨oM,oM,oM,rfl⟩,fun x x9=>?_⟩;exact mq37
  exact h.elim
 exact h.elim
def ZiY (inside:Bool) (d:Nat) (un:Ts->R Un) (f:Nat) (tys:List Ty) (rels:List Re) (rules:List Ru) (comps:List Co) (inits:List Ini) (overs:List Ov) (ts:Ts):XL inside d un (f+1) (.mk tys rels rules comps inits overs) ts =
  if ts=[]\/(inside=true/\isW ts [[125]]=true) then .ok (.mk tys rels rules comps inits overs) ts
  else if isW ts [[116,121,112,101]]=true then (if tys.length=256 then .err ts.length 3 else (ZiK ts.tail).bind fun x ts=>XL inside d un f (.mk (tys++[x]) rels rules comps inits overs) ts)
  else if isW ts [[100,101,99,108]]=true then (if rels.length=256 then .err ts.length 3 else (Zp7 ts.tail).bind fun x ts=>XL inside d un f (.mk tys (rels++[x]) rules comps inits overs) ts)
  else if isW ts [[99,111,109,112]]=true then (if comps.length=64 then .err ts.length 3 else (Zp9 d un ts.tail).bind fun x ts=>XL inside d un f (.mk tys rels rules (comps++[x]) inits overs) ts)
  else if isW ts [[105,110,105,116]]=true then (if inits.length=256 then .err ts.length 3 else (Zqa ts.tail).bind fun x ts=>XL inside d un f (.mk tys rels rules comps (inits++[x]) overs) ts)
  else if isW ts [[111,118,101,114,114,105,100,101]]=true then (if overs.length=256 then .err ts.length 3 else (Zqb ts.tail).bind fun x ts=>XL inside d un f (.mk tys rels rules comps inits (overs++[x])) ts)
  else if ZF ts=true then (if rules.length=1024 then .err ts.length 3 else (Zp8 d true ts).bind fun x ts=>XL inside d un f (.mk tys rels (rules++[x]) comps inits overs) ts)
  else .err ts.length 150:=rfl
def ZxN {d:Nat}:OKw w0 nG [(186,ZiQ),(187,Zl0),(188,Zg6),(189,Zl2),(190,Zmf d),(191,Wc),(192,Xp),(193,Xj),(194,ZdF),(195,JE ZF),(196,Zme d),(185,YQ)] 130 (ZdM d):=by
 refine pwo Tryz.func130 fun args σ K h=>?_
 unfold ZdM Xh at h
 split at h
 ·rename_i rest t rows a en dp
  obtain ⟨L,ts,rfl,ho,h⟩:=h;split at h
  ·rename_i inside
   obtain ⟨fp,h⟩:=h;have h0:=ho.lo;have h1:=ho.hi;have h2:=ho.big;refine pwv [(1,⟨[],[0,1,4],fun vs σ=>∃(tys:List Ty) (rels:List Re) (rules:List Ru) (comps:List Co) (inits:List Ini) (overs:List Ov) (a':Int) (ts':Ts) (f:Nat),vs=[]/\σ=⟨[.cells t [.d (.sl (ZB L)),.d (.int .i64 a'),.d (.int .i64 en),.d (.int .i64 dp)],.cells 60 [.sl 0 122 (tys.map (Z6 (Zb L en))),.sl 1 53 (rels.map (Zu (Zb L en))),.sl 2 46 (rules.map (Zs (Zb L en))),.sl 3 126 (comps.map (ZeW (Zb L en))),.sl 4 129 (inits.map (ZiM (Zb L en))),.sl 5 133 (overs.map (ZiN (Zb L en)))]],[5,4,3,2,1,0],6⟩/\ROK L a' ts'/\a<=a'/\ts'.length<f/\(tys.length<=256/\rels.length<=256/\rules.length<=1024/\comps.length<=64/\inits.length<=256/\overs.length<=256)/\RKk (fun (v:Un)=>Ug (WZ (Zb L en) v)) L en dp a (XL inside d (Zn6 d) f (.mk tys rels rules comps inits overs) ts') (fun pe a' dp'=>K pe ⟨[.cells t [.d (.sl (ZB L)),.d (.int .i64 a'),.d (.int .i64 en),.d (.int .i64 dp')]],[],0⟩),fun _ σ=>match σ with | ⟨.cells _ [_,.d (.int _ i),_,_]::_,_,_⟩=>((L.length:Int) - i).toNat | _=>0⟩)] 1 false ?_;have h:=h _ rfl;rw [ZxJ,ZnV] at h;refine ⟨⟨[],[],[],[],[],[],a,ts,ts.length+1,rfl,rfl,ho,oM,oM,sM,h⟩,?_⟩
   clear h
   intro vs σ hI
   obtain ⟨tys,rels,rules,comps,inits,overs,a',ts',f,rfl,rfl,cz,ad6,hf,aid,h⟩:=hI;obtain ⟨f,rfl⟩:∃g,f=g+1:=⟨f - 1,oM⟩
   rw [ZiY] at h;have qn:=cz.hi;have tf:=cz.len;have yw:=cz.lo;(conv=>whnf);refine ZGr (fun hc=>wN ?_) (fun hc=>wN ?_)
   ·have ai:ts'≠[]:=by rintro rfl;have hc:a'<((ZB L).length:Int):=hc;rw [ZS] at hc;simp at tf;omega
    cases inside with
    | false =>
     rw [Te (by simp [ai])] at h;exact mq1
    | true =>
    conv=>whnf
    refine ⟨L,ts',rfl,cz,[[125]],rfl,sM,fun b hw=>?_⟩
    cases b with
    | true =>
     rw [Ti (.inr ⟨rfl,hw⟩)] at h;(conv=>whnf)
     repeat (refine ⟨rfl,?_⟩;conv=>whnf)
     have h:=h _ oM cz;simp only [Ug,WZ,ZiO,Tx,TN] at h;exact h
    | false =>
    rw [Te (by simp [ai,hw])] at h;exact mq1
   have fh:ts'=[]:=by have hc:¬a'<((ZB L).length:Int):=hc;rw [ZS] at hc;exact Sg oM
   rw [Ti (.inl fh)] at h;have h:=h _ oM cz;simp only [Ug,WZ,ZiO,Tx,TN] at h;exact h
  exact h.elim
 exact h.elim
def ZbU:PC w0 nG 191 Wc:=Ztz ⟨JF,trivial⟩
def cIs:PC w0 nG 186 ZiQ:=ZEj ⟨JF,Zky,trivial⟩
def ZfM:PC w0 nG 195 (JE ZF):=ZtB ⟨JF,Zkx,trivial⟩
def VK:PC w0 nG 185 YQ:=Zxm ⟨ZbU,trivial⟩
def Zao:PC w0 nG 233 XM:=Zxo ⟨cIs,trivial⟩
def JI:PC w0 nG 193 Xj:=Zxq ⟨Zao,VK,trivial⟩
def ZEk:PC w0 nG 187 Zl0:=Zxs ⟨VK,trivial⟩
def Je:PC w0 nG 192 Xp:=ZtD ⟨ZfM,VK,trivial⟩
def ZkD:PC w0 nG 264 (JE ZP):=Zqi ⟨JF,cIs,Zkx,Zbd,trivial⟩
def ZqC:PC w0 nG 302 ZtE:=Zqj ⟨JF,trivial⟩
def ZxO:PC w0 nG 261 Zg5:=Zqq ⟨Je,JI,trivial⟩
def ZkE:PC w0 nG 234 UI:=Zqs ⟨cIs,ZiT ⟨ZfM,VK,ZxO,Zao,trivial⟩,trivial⟩
def Zv1:PC w0 nG 194 ZdF:=ZtG ⟨Zao,ZnZ ⟨ZfM,VK,Je,Zao,trivial⟩,JI,trivial⟩
def ZBn:PC w0 nG 236 ZkB:=ZtI ⟨Je,JI,ZkE,trivial⟩
def ZBo:PC w0 nG 188 Zg6:=ZtK ⟨ZbU,Je,Zao,JI,ZkE,ZkA ⟨ZfM,VK,ZBn,Zao,trivial⟩,trivial⟩
def ZEl:PC w0 nG 189 Zl2:=Zxu ⟨ZbU,Je,Zao,JI,ZkE,trivial⟩
def ZFY:PC w0 nG 201 ZtL:=ZBl ⟨Zqu ⟨Zao,trivial⟩,Zqv ⟨Zao,trivial⟩,trivial⟩
def ZiZ (h:XK (GG w0 nG).P 263):PC w0 nG 263 (W1 0):=⟨h,fun args σ K hs=>by
 exfalso;unfold W1 at hs
 split at hs
 ·exact absurd hs.1.2.2.2.2.1 oM
 exact hs⟩
def Zi0 {d:Nat} (h:PC w0 nG 263 (Zam d)):PC w0 nG 263 (W1 (d+1)):=h.weaken1 fun args σ K hs=>by
 unfold W1 at hs
 unfold Zam
 split at hs
 ·obtain ⟨⟨h1,h2,h3,h4,h5,h6,h7⟩,hs⟩:=hs;exact ⟨⟨h1,h2,h3,h4,oM,h7⟩,hs⟩
 exact hs.elim
def Zn7 (d:Nat) (h:XK (GG w0 nG).P 285):PC w0 nG 285 (ZdJ d 0):=⟨h,fun args σ K hs=>by
 exfalso;unfold ZdJ Xh at hs
 split at hs
 ·obtain ⟨L,ts,_,_,hs⟩:=hs;split at hs
  ·exact absurd hs.1.2.1 oM
  exact hs
 exact hs⟩
def Zn8 {d j:Nat} (h:PC w0 nG 285 (ZfL d j)):PC w0 nG 285 (ZdJ d (j+1)):=h.weaken1 fun args σ K hs=>by
 unfold ZdJ Xh at hs
 unfold ZfL Xh
 split at hs
 ·obtain ⟨L,ts,h1,h2,hs⟩:=hs;refine ⟨L,ts,h1,h2,?_⟩;split at hs
  ·exact ⟨⟨hs.1.1,hs.1.2.2.1,hs.1.2.2.2.1,by have:=hs.1.2.2.2.2;omega⟩,hs.2⟩
  exact hs.elim
 exact hs
structure Deep (w0:World) (nG d:Nat):Prop where
 sg:PC w0 nG 301 (ZiV d)
 ex:PC w0 nG 265 (ZkC d)
 many:PC w0 nG 263 (W1 d)
def Zmi {d:Nat} (D:Deep w0 nG d):PC w0 nG 240 (ZdI d):=Zxx ⟨(W0 (tb:=Zl6 d) ⟨cIs,JI,VK,(W0 (tb:=Zl5 d) ⟨cIs,D.many,trivial⟩ Tryz.func262 rfl kR kR),trivial⟩ Tryz.func237 rfl kR kR),trivial⟩
def ZtS {d:Nat} (D:Deep w0 nG d):PC w0 nG 328 (Zl4 d):=Zxz ⟨(W0 (tb:=Zl8 d) ⟨cIs,JI,VK,(ZiU (tb:=Zl7 d) ⟨JI,D.ex,trivial⟩ Tryz.func332 rfl kR kR),trivial⟩ Tryz.func237 rfl kR kR),trivial⟩
def ZkF {d:Nat} (D:Deep w0 nG d):PC w0 nG 316 (Zan d):=Zn4 ⟨ZkD,VK,JF,(W0 (tb:=Zma d) ⟨cIs,JI,VK,(W0 (tb:=Zl9 d) ⟨D.ex,trivial⟩ Tryz.func327 rfl kR kR),trivial⟩ Tryz.func237 rfl kR kR),Zmi D,Je,cIs,Zbd,ZtS D,trivial⟩
def Zbh {d:Nat} (D:Deep w0 nG d):PC w0 nG 301 (Zcv d):=Zqx ⟨ZbU,cIs,(W0 (tb:=Zmc d) ⟨cIs,JI,VK,(W0 (tb:=Zmb d) ⟨D.sg,trivial⟩ Tryz.func315 rfl kR kR),trivial⟩ Tryz.func237 rfl kR kR),ZkF D,trivial⟩
def Zmj {d:Nat} (D:Deep w0 nG d):∀j,PC w0 nG 285 (ZfL d j)
 | 0=>Zqz ⟨Zbh D,ZqC,Zn7 d (Zf Tryz.func285 kR rfl),trivial⟩
 | j+1=>Zqz ⟨Zbh D,ZqC,Zn8 (Zmj D j),trivial⟩
def Zha {d:Nat} (D:Deep w0 nG d):PC w0 nG 265 (ZfK d):=ZxD ⟨Zmj D 6,trivial⟩
def ZqD {d:Nat} (h:PC w0 nG 265 (ZfK d)):PC w0 nG 263 (Zam d):=Zqm d ⟨ZkD,VK,h,Zao,trivial⟩
def ZBp:∀d,Deep w0 nG d
 | 0=>⟨ZdG (Zf Tryz.func301 kR rfl),ZdG (Zf Tryz.func265 kR rfl),ZiZ (Zf Tryz.func263 kR rfl)⟩
 | d+1=>⟨ZdH (Zbh (ZBp d)),ZdH (Zha (ZBp d)),Zi0 (ZqD (Zha (ZBp d)))⟩
def ZBq (d:Nat):PC w0 nG 240 (ZdI d):=Zmi (ZBp d)
def ZEm (d:Nat):PC w0 nG 265 (ZfK d):=Zha (ZBp d)
def ZBr:PC w0 nG 267 (Zl1 Yc):=ZtQ ⟨ZkD,cIs,trivial⟩
def ZxP {d:Nat} (h:PC w0 nG 241 (Zg8 d)):PC w0 nG 268 (ZxE d):=ZBm ⟨ZbU,Zao,JF,ZfM,Je,ZBq d,ZEm d,ZFY,VK,JI,(W0 (tb:=ZqB d) ⟨cIs,JI,VK,(W0 (tb:=ZqA d) ⟨h,trivial⟩ Tryz.func288 rfl kR kR),trivial⟩ Tryz.func237 rfl kR kR),trivial⟩
def Zmk {d:Nat} (h:PC w0 nG 241 (Zg8 d)):PC w0 nG 241 (ZiX d):=ZxG ⟨Zqo d ⟨ZBr,VK,ZxP h,Zao,trivial⟩,trivial⟩
def Zv2:∀d,PC w0 nG 241 (Zg8 d)
 | 0=>ZdG (Zf Tryz.func241 kR rfl)
 | d+1=>ZdH (Zmk (Zv2 d))
def ZEn (d:Nat):PC w0 nG 241 (ZiX d):=Zmk (Zv2 d)
def ZEo (d:Nat):PC w0 nG 196 (Zme d):=ZxI ⟨ZbU,Je,ZBq d,Zao,ZEn d,JI,trivial⟩
def Zn9 (h:XK (GG w0 nG).P 130):PC w0 nG 130 (Ui 0):=⟨h,fun args σ K hs=>by
 exfalso;unfold Ui Xh at hs
 split at hs
 ·obtain ⟨L,ts,_,_,hs⟩:=hs;split at hs
  ·exact absurd hs.1.1 oM
  exact hs
 exact hs⟩
def Zoa {d:Nat} (h:PC w0 nG 130 (ZdM d)):PC w0 nG 130 (Ui (d+1)):=h.weaken1 fun args σ K hs=>by
 unfold Ui Xh at hs
 unfold ZdM Xh
 split at hs
 ·obtain ⟨L,ts,h1,h2,hs⟩:=hs;refine ⟨L,ts,h1,h2,?_⟩;split at hs
  ·obtain ⟨⟨g1,g2,g3,rfl⟩,hs⟩:=hs;refine ⟨oM,?_⟩;rw [Zn6,ZtR] at hs;exact hs
  exact hs.elim
 exact hs
def ZtT {d:Nat} (h:PC w0 nG 130 (Ui d)):PC w0 nG 190 (Zmf d):=ZxL ⟨ZbU,Je,Zv1,Zao,(W0 (tb:=Zmh d) ⟨cIs,JI,VK,(W0 (tb:=Zmg d) ⟨h,trivial⟩ Tryz.func238 rfl kR kR),trivial⟩ Tryz.func237 rfl kR kR),trivial⟩
def Zml {d:Nat} (h:PC w0 nG 130 (Ui d)):PC w0 nG 130 (ZdM d):=ZxN ⟨cIs,ZEk,ZBo,ZEl,ZtT h,ZbU,Je,JI,Zv1,ZfM,ZEo d,VK,trivial⟩
def Zv3:∀d,PC w0 nG 130 (Ui d)
 | 0=>Zn9 (Zf Tryz.func130 kR rfl)
 | d+1=>Zoa (Zml (Zv3 d))
def ZEp (d:Nat):PC w0 nG 130 (ZdM d):=Zml (Zv3 d)
def R.good {α:Type} (x:R α):Prop:=match x with | .ok _ _=>True | .err _ e=>e≠0
def ZGs {α β:Type} {x:R α} {f:α->Ts->R β} (h:x.good) (hf:∀a ts,(f a ts).good):(x.bind f).good:=by
 cases x with
 | ok a ts=>exact hf a ts
 | err r e=>exact h
def ZGL {α:Type} (a:α) (ts:Ts):(R.ok a ts:R α).good:=trivial
def ZGv {α:Type} {c:Prop} [Decidable c] {x y:R α} (h1:x.good) (h2:y.good):(if c then x else y).good:=by split;exact h1;exact h2
def ZGw {α:Type} {r e:Nat} (h:e≠0):(R.err r e:R α).good:=h
def Yd (w:Bs) (ts:Ts):(ZN w ts).good:=ZGv trivial (ZGw dM)
def ZR (ts:Ts):(YM ts).good:=ZGv trivial (ZGw dM)
def YG {α:Type} {d:Nat} {fr tw:Bs} {read:Ts->R α} (h:∀ts,(read ts).good) (ts:Ts):(Zq d fr tw read ts).good :=
 ZGv (ZGv (ZGw dM) (ZGs (h _) fun _ _=>ZGv trivial (ZGs (Yd _ _) fun _ _=>trivial))) (ZGw dM)
def ZdN {α:Type} {sign:Bs} {ce:Nat} {st:Ts->Bool} {one:Ts->R α} (h:∀ts,(one ts).good):∀f l ts,(X9 sign ce st one f l ts).good
 | 0,_,_=>ZGw dM
 | f+1,l,ts=>ZGv (ZGw dM) (ZGs (h _) fun _ _=>ZGv (ZdN h f _ _) trivial)
def W3 {α:Type} {sign:Bs} {ce:Nat} {st:Ts->Bool} {one:Ts->R α} (h:∀ts,(one ts).good) (ts:Ts):(XE sign ce st one ts).good:=ZdN h _ _ _
def Zob (ts:Ts):(WY ts).good:=ZGs (ZR _) fun _ _=>ZGs (Yd _ _) fun _ _=>ZGs (ZR _) fun _ _=>trivial
def JJ (w:Bs) (ts:Ts):(Za9 w ts).good:=ZGv trivial (W3 Zob _)
def Zbi (ts:Ts):(ZfI ts).good:=ZGv (ZGs (W3 ZR _) fun _ _=>ZGs (Yd _ _) fun _ _=>trivial) trivial
def ZqE (ts:Ts):(Zdw ts).good:=ZGs (ZR _) fun _ _=>ZGs (Yd _ _) fun _ _=>ZGs (JJ _ _) fun _ _=>ZGs (Yd _ _) fun _ _=>trivial
def Zoc (ts:Ts):(ZiK ts).good:=ZGs (ZR _) fun _ _=>ZGv (ZGs (ZR _) fun _ _=>trivial) (ZGs (Yd _ _) fun _ _ =>
 ZGv (ZGs (JJ _ _) fun _ _=>ZGs (Yd _ _) fun _ _=>trivial) (ZGs (W3 ZqE _) fun _ _=>trivial))
def ZqF (ts:Ts):(Zp7 ts).good:=ZGs (ZR _) fun _ _=>ZGs (Yd _ _) fun _ _=>ZGs (JJ _ _) fun _ _=>ZGs (Yd _ _) fun _ _=>trivial
def Zap {d:Nat} {ex:Ts->R Ex} (h:∀ts,(ex ts).good) (fr tw:Bs) (ts:Ts):(ZiL d ex fr tw ts).good:=by
 unfold ZiL
 exact YG (fun ts=>ZGv (ZGL _ _) (W3 h _)) ts
def ZdO {ex:Ts->R Ex} (h:∀ts,(ex ts).good):∀k l ts,(Zah ex k l ts).good
 | 0,_,_=>trivial
 | k+1,l,ts=>ZGs (ZGv trivial (Yd _ _)) fun _ _=>ZGs (h _) fun _ _=>ZdO h k _ _
def Zi1 {d:Nat} {ex:Ts->R Ex} (h:∀ts,(ex ts).good) (ts:Ts):(Zai d ex ts).good :=
 ZGv (ZGw dM) <| ZGv trivial <| ZGv trivial <| ZGv (YG h _) <| ZGv (ZGs (Zap h _ _ _) fun _ _=>trivial) <|
 ZGv (ZGs (ZR _) fun _ _=>ZGv (ZGs (Zap h _ _ _) fun _ _=>trivial) trivial) <|
 ZGv (ZGs (YG (ZdO h _ _) _) fun _ _=>trivial) <| ZGv trivial <| ZGv trivial trivial
def ZdP {sub:Nat->Ts->R Ex} (h:∀n ts,(sub n ts).good) (least:Nat):∀f e ts,(Zaj sub least f e ts).good
 | 0,_,_=>ZGw dM
 | f+1,e,ts=>ZGv trivial (ZGs (h _ _) fun _ _=>ZdP h least f _ _)
def Zbj {sg:Ts->R Ex} (h:∀ts,(sg ts).good):∀k least ts,(JD sg k least ts).good
 | 0,_,_=>h _
 | k+1,least,ts=>ZGs (h _) fun _ _=>ZdP (fun n ts=>Zbj h k n ts) _ _ _ _
def ZbV {d:Nat} {sg:Ts->R Ex} (h:∀ts,(sg ts).good) (ts:Ts):(Zdx d sg ts).good :=
 ZGv (ZGs (YG h _) fun _ _=>trivial) <| ZGv (ZGs (YG h _) fun _ _=>trivial) (Zi1 (fun ts=>Zbj h _ _ _) _)
def ZdQ:∀d ts,(Xo d ts).good
 | 0,ts=>ZbV (fun _=>(ZGw dM)) ts
 | d+1,ts=>ZbV (ZdQ d) ts
def ZdR (d:Nat) (ts:Ts):(Zba d ts).good:=Zbj (ZdQ d) _ _ _
def ZfN:∀d ts,(Zdy d ts).good
 | 0,_=>(ZGw dM)
 | d+1,ts=>ZdR d ts
def Zod (ts:Ts):(Zdz ts).good:=by
 unfold Zdz
 split
 ·exact ZGw dM
 ·split <;> trivial
 trivial
def ZbW (d op a:Nat) (ts:Ts):(ZdA d op a ts).good:=ZGs (ZR _) fun _ _=>ZGs (Zap (ZfN d) _ _ _) fun _ _=>trivial
def ZdS {d:Nat} {bd:Ts->R (List Li)} (h:∀ts,(bd ts).good) (a op:Nat) (l:List Ex) (ts:Ts):(Wb d bd a op l ts).good :=
 ZGv (ZGs (Yd _ _) fun _ _=>ZGs (YG h _) fun _ _=>trivial) trivial
def Zmm {d:Nat} {bd:Ts->R (List Li)} (h:∀ts,(bd ts).good) (ts:Ts):(ZnT d bd ts).good :=
 ZGv (ZbW _ _ _ _) <| ZGv (ZbW _ _ _ _) <| ZGs (ZdR _ _) fun _ _=>ZGs (Zod _) fun _ _=>ZGv (ZdS h _ _ _ _) (ZGs (ZdR _ _) fun _ _=>ZdS h _ _ _ _)
def Zi2:∀d ts,(ZnU d ts).good
 | 0,ts=>W3 (Zmm fun _=>(ZGw dM)) ts
 | d+1,ts=>W3 (Zmm (Zi2 d)) ts
def ZqG (d:Nat) (b:Bool) (ts:Ts):(Zp8 d b ts).good:=ZGs (ZR _) fun _ _=>ZGs (Zap (ZfN d) _ _ _) fun _ _ =>
 ZGv (ZGs (Zi2 _ _) fun _ _=>ZGs (Yd _ _) fun _ _=>trivial) (ZGs (Yd _ _) fun _ _=>trivial)
def ZqH {d:Nat} {un:Ts->R Un} (h:∀ts,(un ts).good) (ts:Ts):(Zp9 d un ts).good:=ZGs (ZR _) fun _ _=>ZGs (Zbi _) fun _ _ =>
 ZGv (ZGs (ZR _) fun _ _=>ZGs (Zbi _) fun _ _=>ZGs (YG h _) fun _ _=>trivial) (ZGs (YG h _) fun _ _=>trivial)
def ZqI (ts:Ts):(Zqa ts).good:=ZGs (ZR _) fun _ _=>ZGs (Yd _ _) fun _ _=>ZGs (ZR _) fun _ _=>ZGs (Zbi _) fun _ _=>trivial
def ZqJ (ts:Ts):(Zqb ts).good:=ZGs (ZR _) fun _ _=>trivial
def Yt {b:Bool} {d:Nat} {un:Ts->R Un} (h:∀ts,(un ts).good):∀f u ts,(XL b d un f u ts).good
 | 0,_,_=>ZGw dM
 | f+1,.mk tys rels rules comps inits overs,ts=>by
  rw [ZiY];exact ZGv trivial <| ZGv (ZGv (ZGw dM) (ZGs (Zoc _) fun _ _=>Yt h f _ _)) <| ZGv (ZGv (ZGw dM) (ZGs (ZqF _) fun _ _=>Yt h f _ _)) <|
   ZGv (ZGv (ZGw dM) (ZGs (ZqH h _) fun _ _=>Yt h f _ _)) <| ZGv (ZGv (ZGw dM) (ZGs (ZqI _) fun _ _=>Yt h f _ _)) <|
   ZGv (ZGv (ZGw dM) (ZGs (ZqJ _) fun _ _=>Yt h f _ _)) <| ZGv (ZGv (ZGw dM) (ZGs (ZqG _ _ _) fun _ _=>Yt h f _ _)) (ZGw dM)
def ZfO:∀d ts,(Zqc d ts).good
 | 0,ts=>Yt (fun _=>(ZGw dM)) _ _ _
 | d+1,ts=>Yt (ZfO d) _ _ _
def Zi3 (ts:Ts):(Zbb ts).good:=Yt (ZfO 63) _ _ _
def Zoe {a:Nat} {r:Bs} {room:Bool} {t:Tok} (h:Jy a r room=.tok t):room=true:=by
 cases room with
 | true=>rfl
 | false =>
 unfold Jy at h
 simp only at h;split at h
 ·cases h
 simp at h
def Zmn:∀(f:Nat) (m:Int) (a:Nat) (r:Bs),(V5 f m a r).1.length<=m.toNat
 | 0,m,a,r=>by simp [V5]
 | f+1,m,a,r=>by
  unfold V5
  split
  ·simp
  simp only;split
  ·simp
  split
  ·simp
  rename_i t ht
  have hr:=Zoe ht;rw [TH] at hr;have:=Zmn f (m - 1) t.fin ((r.drop (YP r).2).drop (t.fin - (a+(YP r).2)));simp only [Tf];omega
def ZxQ (s:Bs) (m:Int):(ZeR s m).1.length<=m.toNat:=Zmn _ _ _ _
inductive Top (α:Type) where
 | ok (v:α) (L:List Tok) | err (p:Int) (e:Nat)
def JK {α:Type} (bytes ce:Nat) (P:Ts->R α) (s:Bs):Top α :=
 if bytes<s.length then .err 0 3
 else if (ZeR s ce).2.2≠0 then .err (ZeR s ce).2.1 (ZeR s ce).2.2
 else match P ((ZeR s ce).1.map Tok.t0) with
  | .ok v []=>.ok v (ZeR s ce).1
  | .ok v (_::ts)=>.err (Zb (ZeR s ce).1 s.length (ts.length+1)) 150
  | .err r e=>.err (Zb (ZeR s ce).1 s.length r) e
def ZkG {α:Type} {bytes ce:Nat} {P:Ts->R α} (hP:∀ts,(P ts).good) {s:Bs} {p:Int} {e:Nat} (h:JK bytes ce P s=.err p e):e≠0:=by
 unfold JK at h
 split at h
 ·cases h;decide
 split at h
 ·rename_i hn;cases h;exact hn
 split at h
 ·cases h
 ·cases h;decide
 rename_i r e' he
 cases h
 have:=hP ((ZeR s ce).1.map Tok.t0);rw [he] at this;exact this
def ZfP:Zh:=fun args σ K=>match args,σ with
 | [.d (.str s),.d (.int .i64 m)],⟨[],[],0⟩=>s.length<4294967281 /\
   ∀l p c,ZeR s m=(l,(p,c))->(c=0->K (.ret (.tuple [.d (.sl (ZB l)),.d (.int .i64 p),.d (.int .i64 0)])) ⟨[],[],0⟩) /\
    (c≠0->K (.ret (.tuple [.d (.sl []),.d (.int .i64 p),.d (.int .i64 c)])) ⟨[],[],0⟩)
 | _,_=>False
def ZkH:Zy ZfP:=fun args σ K K' hK h=>by
 unfold ZfP at h |-
 split at h
 ·exact ⟨h.1,fun l p c hx=>⟨fun g=>hK _ _ ((h.2 l p c hx).1 g),fun g=>hK _ _ ((h.2 l p c hx).2 g)⟩⟩
 exact h.elim
def ZxR (h:PC w0 nG 183 Zag):PC w0 nG 183 ZfP:=h.weaken1 fun args σ K hs=>by
 unfold ZfP at hs
 unfold Zag
 split at hs
 ·rename_i s m
  obtain ⟨h1,hs⟩:=hs;refine ⟨h1,?_⟩;have hs:=hs (ZeR s m).1 (ZeR s m).2.1 (ZeR s m).2.2 rfl
  by_cases hc:(ZeR s m).2.2=0
  ·rw [Ti hc,hc];exact hs.1 hc
  rw [Te hc];exact hs.2 hc
 exact hs.elim
def recOf:Nat×Nat×Code:=match ZAL (Y8 Tryz.f184) with | some x=>x | none=>(0,0,.skip)
def ZBs:List PV->St->(St->Prop)->Prop:=fun args σ K=>args.length<=Tryz.f184.ntmps/\W (ctx VE [] (Zg [])) recOf.2.2 (Ztx VE Tryz.f184 σ.bx.length K) (Va (Va (Zck 0 args) recOf.1 (.d .nili)) recOf.2.1 (.d .nili)) σ
def ZBt:PV->List PV->St->(St->Prop)->Prop:=fun pv args σ K=>args.length<=Tryz.f184.ntmps/\W (ctx VE [] (Zg [])) recOf.2.2 (Ztx VE Tryz.f184 σ.bx.length K) (Va (Va (Zck 0 args) recOf.1 pv) recOf.2.1 pv) σ
def ZBu:PDef (GG w0 nG) 184 ZBs ZBt :=
 Zku (a:=recOf.1) (b:=recOf.2.1) (rest:=recOf.2.2) Zr mixed Tryz.func184 rfl kR rfl kR (fun args σ K h=>⟨ZoY VE [] (Zg []) (fun _=>0) (fun _=>false),σ.bx.length,CxG.of (tbl:=[]) Zr trivial trivial _ _ _,Tt _,h.1,h.2⟩) (fun pv args σ K h=>⟨ZoY VE [] (Zg []) (fun _=>0) (fun _=>false),σ.bx.length,CxG.of (tbl:=[]) Zr trivial trivial _ _ _,Tt _,h.1,h.2⟩)
def WhK {α:Type} (tU:TypeId) (enc:List Tok->Int->α->List PV) (bad:List PV->Prop) (n:Int) (x:Top α) (K:PEnd->St->Prop):Prop:=match x with
 | .ok v L=>K (.ret (.tuple [.d (.int .i64 0),.d (.int .i64 0)])) ⟨[.cells tU (enc L n v)],[],0⟩
 | .err p e=>∀cs,bad cs->K (.ret (.tuple [.d (.int .i64 p),.d (.int .i64 e)])) ⟨[.cells tU cs],[],0⟩
def ZqK {l:List Tok} (h:l.length<=1048576):ROK l 0 (l.map Tok.t0):=⟨oM,oM,h,by simp [tz]⟩
def ZFZ (cs:List PV):Prop:=∃a b c d e f:List (List D),cs=[.d (.sl a),.d (.sl b),.d (.sl c),.d (.sl d),.d (.sl e),.d (.sl f)]
def Zmo:Tbl:=[(130,ZdM 64)]
def ZxS:Zh:=fun args σ K=>match args,σ with
 | [.d (.str s),.d (.int .i64 by'),.d (.int .i64 ce),.func g [] [.ptr 0 0]],⟨[.cells tU c0],tk,n⟩=>(g=129/\by'=65536/\ce=16384/\c0=[.sl 0 122 [],.sl 1 53 [],.sl 2 46 [],.sl 3 126 [],.sl 4 129 [],.sl 5 133 []]/\tk=[5,4,3,2,1,0]/\n=6)/\s.length<4294967281 /\
   ∀x,JK 65536 16384 Zbb s=x->WhK tU (fun L n (v:Un)=>(WZ (Zb L n) v).map .d) ZFZ s.length x K
 | _,_=>False
def Zv4:Tbl:=[(183,ZfP),(129,ZbT Tryz.f129 Zmo),(185,YQ)]
def ZqL (ht:TO w0 nG Zv4):PC w0 nG 128 ZxS:=by
 refine Zcu Zr mixed Tryz.func128 rfl kR kR ZBu ?_;intro args σ K h
 unfold ZxS at h
 split at h
 ·obtain ⟨⟨rfl,rfl,rfl,rfl,rfl,rfl⟩,hs,h⟩:=h
  rename_i s tU
  have h:=h _ rfl;refine ⟨ZoY VE Zv4 (Zg []) (ZV []) (ZC []),1,false,CxG.of Zr ht ⟨ZkH,Zqt _ _,Zkw,trivial⟩ _ _ _,sM,Tb rfl,wN ?_⟩;unfold JK at h
  refine ZGr (fun hc=>wN ?_) (fun hc=>wN ?_)
  ·rw [Ti oM] at h;exact h _ ⟨_,_,_,_,_,_,rfl⟩
  rw [Te oM] at h;refine ⟨hs,fun l p c hx=>?_⟩;have hlen:=ZxQ s 16384;rw [show ((16384:Nat):Int)=16384 from rfl,hx] at h;rw [hx] at hlen;refine ⟨fun h0=>?_,fun h0=>wN ?_⟩
  ·subst h0;rw [Te sM] at h;simp only at h hlen;have ho:=ZqK (l:=l) (by simp at hlen;omega)
   clear hx hlen
   generalize hts:l.map Tok.t0=ts at h ho;(conv=>whnf);refine ⟨_,fun _ _ h=>h,Tb rfl,wN ?_⟩;refine ⟨l,ts,rfl,ho,oM,fun x hx=>?_⟩;rw [show Zbb ts=ZxJ false 64 ts from rfl,hx] at h;rcases x with ⟨⟨v1,v2,v3,v4,v5,v6⟩,ts2⟩ | ⟨r,e⟩
   rotate_left
   ·intro a9 d9;(conv=>whnf);refine ⟨Tb rfl,?_⟩;(conv=>whnf);(repeat (refine ⟨rfl,?_⟩;conv=>whnf));exact h _ ⟨_,_,_,_,_,_,rfl⟩
   intro a2 f7 ac
   conv=>whnf
   have dg:=ac.len
   (repeat (refine ⟨rfl,?_⟩;conv=>whnf))
   refine ZGr (fun d0=>?_) (fun d0=>?_)
   ·have d0:a2<l.length:=by have d0:a2<((ZB l).length:Int):=d0;rw [ZS] at d0;exact d0
    cases ts2 with
    | nil=>simp at dg;omega
    | cons t0 ts3 =>
    conv=>whnf
    refine ⟨l,_,rfl,ac,wN ?_⟩;refine ⟨Tb rfl,wN ?_⟩
    (repeat (refine ⟨rfl,?_⟩;conv=>whnf))
    exact h _ ⟨_,_,_,_,_,_,rfl⟩
   have d0:¬a2<l.length:=by have d0:¬a2<((ZB l).length:Int):=d0;rw [ZS] at d0;exact d0
   obtain rfl:ts2=[]:=Sg oM;(conv=>whnf);refine ⟨Tb rfl,wN ?_⟩;exact h
  rw [Ti h0] at h;refine ZGu (fun bw=>?_) (fun bw=>absurd (show c=0 by omega) h0);(conv=>whnf)
  (repeat (refine ⟨rfl,?_⟩;conv=>whnf))
  exact h _ ⟨_,_,_,_,_,_,rfl⟩
 exact h.elim
def ZFo {α:Type} (enc:List Tok->α->PV) (zero:PV) (x:Top α) (K:PEnd->St->Prop):Prop:=match x with
 | .ok v L=>K (.ret (.tuple [enc L v,.d (.int .i64 0),.d (.int .i64 0)])) ⟨[],[],0⟩
 | .err p e=>K (.ret (.tuple [zero,.d (.int .i64 p),.d (.int .i64 e)])) ⟨[],[],0⟩
def Zmp:Zh:=fun args σ K=>match args,σ with
 | [.d (.str s)],⟨[],[],0⟩=>s.length<4294967281/\∀x,JK 65536 16384 Zbb s=x->ZFo (fun L (v:Un)=>Ug (WZ (Zb L s.length) v)) (Ug (WZ (fun _=>0) .nil)) x K
 | _,_=>False
def ZxU:OKw w0 nG [(128,ZxS)] 69 Zmp:=by
 refine pwo Tryz.func69 fun args σ K h=>?_
 unfold Zmp at h
 split at h
 ·rename_i s
  obtain ⟨hs,h⟩:=h;refine pwv [] 0 false ?_;refine ⟨⟨rfl,rfl,rfl,rfl,rfl,rfl⟩,hs,fun x hx=>?_⟩;have h:=h x hx
  cases x with
  | ok v L =>
   obtain ⟨v1,v2,v3,v4,v5,v6⟩:=v;exact mq35
  | err p e =>
  have he:=ZkG Zi3 hx;intro cs et
  obtain ⟨b1,b2,b3,b4,b5,b6,rfl⟩:=et;(conv=>whnf);refine ZGu (fun hc=>?_) (fun hc=>absurd (show e=0 by omega) he);exact mq35
 exact h.elim
def Zof (hg:GlobOK w0 nG):PC w0 nG 183 ZfP:=ZxR (Zxh hg)
def ZEq (hg:GlobOK w0 nG):PC w0 nG 69 Zmp:=ZxU ⟨ZqL ⟨Zof hg,W0 (tb:=Zmo) ⟨ZEp 64,trivial⟩ Tryz.func129 rfl kR kR,VK,trivial⟩,trivial⟩
mutual
def szE:Ex->Nat
 | .mk _ _ _ l _=>1+VF l
def VF:List Ex->Nat
 | []=>0
 | x::l=>1+szE x+VF l
end
def YA:∀(l:List Ex),l.length<=VF l
 | []=>Tt _
 | x::l=>by have:=YA l;simp only [Tf,VF];omega
def YB:∀(l:List Ex) (i:Nat) (h:i<l.length),szE l[i]<VF l
 | x::l,0,h=>by simp only [List.getElem_cons_zero,VF];omega
 | x::l,i+1,h=>by have:=YB l i (by simpa using h);simp only [List.getElem_cons_succ,VF];omega
def Li.op:Li->Nat | .mk o _ _ _ _=>o
end Go.PM.Lex
end

section
namespace Go.PM.Lex
mutual
def erE:Ex->Ex
 | .mk op t n args _=>.mk op t n (ZFp args) 0
def ZFp:List Ex->List Ex
 | []=>[]
 | e::l=>erE e::ZFp l
end
def Stb {α:Type} (er:α->α) (m:Ts) (x y:R α):Prop:=∀v ts,x=.ok v ts->∃v',er v'=er v/\y=.ok v' (ts++m)
section
variable {α β:Type} {er:α->α} {er2:β->β} {m:Ts}
def Stb.ok {v v':α} {ts:Ts} (h:er v'=er v):Stb er m (.ok v ts) (.ok v' (ts++m)):=fun w rest e=>by cases e;exact ⟨v',h,rfl⟩
def Stb.ok' {v v':α} {ts ts':Ts} (h:er v'=er v) (e:ts'=ts++m):Stb er m (.ok v ts) (.ok v' ts'):=e ▸ Stb.ok h
def Stb.err {r e:Nat} {y:R α}:Stb er m (.err r e) y:=fun w rest e=>by cases e
def Stb.bind {x y:R α} {f g:α->Ts->R β} (h:Stb er m x y) (hf:∀v v' ts,er v'=er v->Stb er2 m (f v ts) (g v' (ts++m))):Stb er2 m (x.bind f) (y.bind g):=fun w rest e=>by
 cases x with
 | ok v ts =>
  obtain ⟨v',h1,rfl⟩:=h v ts rfl;exact hf v v' ts h1 w rest e
 | err r e'=>cases e
def Stb.binds {x y:R α} {f g:α->Ts->R β} (h:Stb id m x y) (hf:∀v ts,Stb er2 m (f v ts) (g v (ts++m))):Stb er2 m (x.bind f) (y.bind g):=Stb.bind h fun v v' ts e=>by cases (show v'=v from e);exact hf v ts
end
variable {m:Ts}
def map_id' {α:Type} (l:List α):l.map id=l:=sM
def Un.le:Un->Un->Prop
 | .mk a1 a2 a3 a4 a5 a6,.mk b1 b2 b3 b4 b5 b6=>a1.length<=b1.length/\a2.length<=b2.length/\a3.length<=b3.length/\a4.length<=b4.length/\a5.length<=b5.length/\a6.length<=b6.length
def Un.le_refl:∀u:Un,Un.le u u | .mk ..=>⟨Tt _,Tt _,Tt _,Tt _,Tt _,Tt _⟩
def Un.le_trans:∀{u v w:Un},Un.le u v->Un.le v w->Un.le u w
 | .mk ..,.mk ..,.mk ..,⟨h1,h2,h3,h4,h5,h6⟩,⟨k1,k2,k3,k4,k5,k6⟩=>⟨oM,oM,oM,oM,oM,oM⟩
def Un.room:Un->Un->Prop
 | .mk a1 a2 a3 a4 a5 a6,.mk b1 b2 b3 b4 b5 b6=>a1.length+b1.length<=256/\a2.length+b2.length<=256/\a3.length+b3.length<=1024/\a4.length+b4.length<=64/\a5.length+b5.length<=256/\a6.length+b6.length<=256
end Go.PM.Lex
end

section
namespace Go.PM.Lex
open Go.Proofs
variable {w0:World} {nG:Nat}
def szS {α:Type} (f:α->Nat):List α->Nat
 | []=>0
 | x::l=>1+f x+szS f l
def ZE {α:Type} (f:α->Nat):∀(l:List α),l.length<=szS f l
 | []=>Tt _
 | x::l=>by have:=ZE f l;simp only [Tf,szS];omega
def ZQ {α:Type} (f:α->Nat):∀(l:List α) (i:Nat) (h:i<l.length),f l[i]<szS f l
 | x::l,0,h=>by simp only [List.getElem_cons_zero,szS];omega
 | x::l,i+1,h=>by have:=ZQ f l i (by simpa using h);simp only [List.getElem_cons_succ,szS];omega
def XG:∀(l:List Ex),VF l=szS szE l
 | []=>rfl
 | x::l=>by rw [VF,szS,XG l]
def eqB (a b:Bs):Bool:=decide (a=b)
mutual
def szL:Li->Nat
 | .mk _ _ a b _=>1+szS szE a+ZdT b
def ZdT:List Li->Nat
 | []=>0
 | x::l=>1+szL x+ZdT l
end
def Vt:∀(l:List Li),ZdT l=szS szL l
 | []=>by rw [ZdT,szS]
 | x::l=>by rw [ZdT,szS,Vt l]
def ZbX (r:Ru):Nat:=1+szS szE r.args+szS szL r.body
def sz0 {α:Type} (_:α):Nat:=0
def ZBv (c:Ca):Nat:=1+szS sz0 c.fields
def ZDD (a:Ty):Nat:=1+szS sz0 a.fields+szS ZBv a.cases
def ZDE (a:Re):Nat:=1+szS sz0 a.fields
def spB (sp:Nat->Zh) (n:Nat):Zh:=fun args σ K=>0<n/\sp (n - 1) args σ K
def Zmq {sp:Nat->Zh} (h:∀n,Zy (sp n)) (n:Nat):Zy (spB sp n):=fun args σ K K' hK g=>⟨g.1,h _ _ _ _ _ hK g.2⟩
def Zz {g:FuncId} {sp:Nat->Zh} (h:XK (GG w0 nG).P g):PC w0 nG g (spB sp 0):=⟨h,fun args σ K hs=>absurd hs.1 oM⟩
def ZA {g:FuncId} {sp:Nat->Zh} {n:Nat} (h:PC w0 nG g (sp n)):PC w0 nG g (spB sp (n+1)):=h.weaken1 fun args σ K hs=>hs.2
abbrev ws:Bs:=[32,9,13,10]
def Zog (c:Nat):Option UInt8:=if c=10 then some 110 else if c=9 then some 116 else if c=34 then some 34 else if c=92 then some 92 else none
def Vu:Nat->Bs->Bs->Option Bs
 | 0,_,_=>none
 | f+1,r,out=>if r=[] then some out else match Zog (Lib.decodeL r).1 with
  | some b=>Vu f (r.drop (Lib.decodeL r).2) (out++[92,b])
  | none=>if (Lib.decodeL r).1<32 then none else Vu f (r.drop (Lib.decodeL r).2) (out++Lib.encodeRune (Lib.decodeL r).1)
def Jf (s:Bs):Option Bs:=if Lib.validD s=true then (Vu (s.length+1) s [34]).map (·++[34]) else none
def Zmr:Zh:=fun args σ K=>match args,σ with
 | [.d (.int .i32 c)],⟨[],[],0⟩=>K (.ret (.d (.bool (Zl c)))) ⟨[],[],0⟩
 | _,_=>False
def Zaq:PC w0 nG 146 X7:=by
 refine pwe Tryz.func146 fun args σ K h=>?_
 unfold X7 at h
 split at h
 ·rename_i c
  refine pwu [] 0 false ?_;exact mq99
 exact h.elim
def ZfQ:PC w0 nG 203 Zmr:=by
 refine pwe Tryz.func203 fun args σ K h=>?_
 unfold Zmr at h
 split at h
 ·rename_i c
  refine pwu [] 0 false ?_
  repeat' ((conv=>whnf);refine ZGr (fun h1=>?_) (fun h1=>?_))
  all_goals (conv=>whnf)
  all_goals (refine ZbN h ?_;simp only [Zl,TH,decide_eq_false_iff_not,decide_eq_decide];omega)
 exact h.elim
def ZkI:Zh:=fun args σ K=>match args with
 | [.d (.str s)]=>s.length<=9223372036854775807/\K (.ret (.d (.bool (Lib.validD s)))) σ
 | _=>False
def ZtU (h1:1<nG) (hT:Lib.Utf8Tabs 0 1 w0):PC w0 nG 247 ZkI:=YL (Zf Tryz.func247 kR rfl) fun args σ K h e w vs hS ha=>by
 unfold ZkI at h
 split at h
 ·rename_i s
  obtain ⟨u,rfl,hu⟩:=ZgR ha
  cases hu.dstr
  have hT':Lib.Utf8Tabs 0 1 w:=by
   have g0:=hS.glob 0 (show 0<nG by omega);have g1:=hS.glob 1 h1;obtain ⟨a,b⟩:=hT;refine ⟨fun c hc=>?_,fun i hi=>?_⟩
   ·have:=a c hc;simpa [World.cell?,g0] using this
   have:=b i hi;simpa [World.cell?,g1] using this
  exact ⟨_,h.2,_,fun _ _=>.mkbool,(Any.utf8_ValidString Tryz.laysValid ⟨s.toArray⟩ w (show s.toArray.size<=_ by simpa using h.1) hT').mono fun en w' ⟨h1,h2⟩=>⟨h1,ZGx h2⟩⟩
 exact h.elim
def ZtV {n:Nat} (h:Zog n=none):Zdr [10,9,34,92] n=-1:=by
 unfold Zog at h
 split at h;· cases h
 split at h;· cases h
 split at h;· cases h
 split at h;· cases h
 rename_i h1 h2 h3 h4
 unfold Zdr
 split
 ·rename_i h5
  have hc:([10,9,34,92]:Bs).contains ((n:Int).toNat.toUInt8)=false:=by
   have b1:=Ue (n:=n) (k:=10) oM oM h1;have b2:=Ue (n:=n) (k:=9) oM oM h2;exact mq112
  rw [Lib.contains_iff_indexByte,decide_eq_false_iff_not] at hc;have:=Lib.indexByte_ge [10,9,34,92] ((n:Int).toNat.toUInt8);omega
 rfl
def ZtW {n:Nat} {b:UInt8} (h:Zog n=some b):(Zdr [10,9,34,92] n=0/\b=110)\/(Zdr [10,9,34,92] n=1/\b=116)\/(Zdr [10,9,34,92] n=2/\b=34)\/(Zdr [10,9,34,92] n=3/\b=92):=by
 unfold Zog at h
 exact mq67
def JL:Zh:=fun args σ K=>match args,σ with
 | [.d (.str s)],⟨[],[],0⟩=>s.length<4294967281/\(Jf s=none->K (.ret (.tuple [.d (.str []),.d (.bool false)])) ⟨[],[],0⟩)/\(∀q,Jf s=some q->K (.ret (.tuple [.d (.str q),.d (.bool true)])) ⟨[],[],0⟩)
 | _,_=>False
def Zi4:Zy JL:=fun args σ K K' hK h=>by
 unfold JL at h |-
 split at h
 ·exact ⟨h.1,fun g=>hK _ _ (h.2.1 g),fun q g=>hK _ _ (h.2.2 q g)⟩
 exact h.elim
def ZF0 (B:Nat):List PV->St->Nat:=fun _ σ=>match σ.bx with | [_,.iter _ p]=>B - p | _=>0
def ZtY:OKw w0 nG [(247,ZkI),(248,Vl),(249,X8),(250,Vm),(70,Zcs)] 219 JL:=by
 refine pwo Tryz.func219 fun args σ K h=>?_
 unfold JL at h
 split at h
 ·rename_i s
  obtain ⟨hs,dq,d7⟩:=h;refine pwv [(6,⟨[],[4,13],fun vs σ=>vs=[]/\∃(out:Bs) (i f:Nat),σ=⟨[.cells 141 [.ptr 0 0,.sl 0 5 (Zm out)],.iter s i],[0],1⟩/\(i<=s.length/\s.length<i+f/\out.length<=4 * i+1)/\Vu f (s.drop i) out=Vu (s.length+1) s [34],ZF0 s.length⟩)] 0 false ?_;refine ⟨oM,wN ?_⟩;refine ZGt (fun h1=>wN ?_) (fun h1=>wN ?_)
  ·have hv:Lib.validD s=false:=by simpa using h1
   exact dq (by unfold Jf;rw [Te (by rw [hv];simp)])
  have hv:Lib.validD s=true:=by simpa using h1
  have hq:Jf s=(Vu (s.length+1) s [34]).map (·++[34]):=by unfold Jf;rw [Ti hv]
  refine ⟨⟨.inl rfl,rfl,rfl,sM,sM⟩,wN ?_⟩;refine ⟨⟨rfl,[34],0,s.length+1,rfl,⟨oM,oM,sM⟩,by rw [Sq]⟩,?_⟩;intro vs σ1 hI
  obtain ⟨rfl,out,i,f,rfl,⟨hi1,af,hol⟩,fy⟩:=hI;obtain ⟨f,rfl⟩:∃g,f=g+1:=⟨f - 1,oM⟩
  have bq:=ZfE out;have dc:=ZfF out;have bl:=Zdp s i;have i7:=ZgZ (s.drop i);have jw:=Lib.decodeL_le (s.drop i);rw [Tz] at jw;(conv=>whnf);refine ZGr (fun h2=>wN ?_) (fun h2=>wN ?_)
  ·have ai:s.drop i≠[]:=fun g=>by have:=congrArg List.length g;rw [Tz] at this;simp at this;omega
   have g3:i+(decodeL s i).2<=s.length:=by rw [bl];have:=jw ai;omega
   have rp:1<=(decodeL s i).2:=by rw [bl];omega
   refine ⟨⟨.inr rfl,oM,by rw [bl];omega⟩,wN ?_⟩;generalize hk:Zdr _ _=k;have gw:Zdr [10,9,34,92] ((Lib.decodeL (s.drop i)).1:Int)=k:=by rw [<- bl];exact hk
   cases hE:Zog (Lib.decodeL (s.drop i)).1 with
   | some b =>
    have g1:Vu f (s.drop (i+(decodeL s i).2)) (out++[92,b])=Vu (s.length+1) s [34]:=by rw [<- fy,bl];simp [Vu,ai,hE,TJ]
    rcases ZtW hE with ⟨e1,rfl⟩ | ⟨e1,rfl⟩ | ⟨e1,rfl⟩ | ⟨e1,rfl⟩
    all_goals (rw [e1] at gw;subst gw)
    all_goals (conv=>whnf)
    all_goals (refine ⟨⟨.inr rfl,rfl,rfl,bq,oM⟩,?_⟩)
    all_goals (conv=>whnf)
    all_goals (refine ⟨oM,by first | omega | (simp;done) | (simp;omega),?_⟩)
    all_goals (conv=>whnf)
    all_goals (refine ⟨⟨.inr rfl,rfl,rfl,fun r hr=>by (rcases Tw.1 hr with hr | hr;exact bq r hr;simp at hr;subst hr;rfl),by rw [Tc];simp;omega⟩,?_⟩)
    all_goals (conv=>whnf)
    all_goals (refine ⟨⟨rfl,_,_,f,?_,⟨g3,oM,?_⟩,g1⟩,?_⟩)
    all_goals (first | (rw [WX,Tp];rfl) | (rw [Tc];simp;omega) | exact (show s.length - (i+(decodeL s i).2)<s.length - i by omega))
   | none =>
   rw [ZtV hE] at gw;subst gw;(conv=>whnf);refine ZGr (fun h5=>wN ?_) (fun h5=>wN ?_)
   ·have gh:(Lib.decodeL (s.drop i)).1<32:=by rw [bl] at h5;omega
    refine dq ?_;rw [hq,<- fy];simp [Vu,ai,hE,gh]
   have gh:¬(Lib.decodeL (s.drop i)).1<32:=by rw [bl] at h5;omega
   have g1:Vu f (s.drop (i+(decodeL s i).2)) (out++Lib.encodeRune ((decodeL s i).1:Int))=Vu (s.length+1) s [34]:=by rw [<- fy,bl];simp [Vu,ai,hE,gh,TJ]
   have vt:=Zkt ((decodeL s i).1:Int);refine ⟨⟨.inr rfl,rfl,rfl,bq,oM,oM,by rw [bl];omega⟩,wN ?_⟩;refine ⟨⟨rfl,_,_,f,?_,⟨g3,oM,?_⟩,g1⟩,?_⟩
   ·rw [WX];rfl
   ·rw [Tc];omega
   exact (show s.length - (i+(decodeL s i).2)<s.length - i by omega)
  have fh:s.drop i=[]:=Tm oM;have g1:Vu (s.length+1) s [34]=some out:=by rw [<- fy];simp [Vu,fh]
  refine ⟨⟨.inr rfl,rfl,rfl,bq,oM⟩,wN ?_⟩;refine ⟨out++[34],⟨by rw [JB];rfl,rfl,rfl,.inr rfl,by rw [Tc];simp;omega⟩,wN ?_⟩;exact d7 _ (by rw [hq,g1];rfl)
 exact h.elim
end Go.PM.Lex
end
