/- A part of the proof: plain logic, contracts and laws over the given program. -/
import Derived.Lib.MapLaws
import Derived.Lib.Strings
import Derived.Lib.Bytealg
import Derived.Lib.Index
import Derived.Lib.SlTrimSet
import Derived.Test.YtflgockgjnddnaaGreatDoorProg
import Derived.Lib.Small
import Derived.Lib.IndexAny
import Derived.Lib.ValidU
import Derived.Test.YtflgockgjnddnaaGreatDoorE04
set_option linter.unusedVariables false
set_option linter.unusedSimpArgs false
set_option linter.all false
set_option maxRecDepth 100000
set_option maxHeartbeats 16000000
section
namespace Go.PM.Lex
abbrev Bs:=List UInt8
def Zj (c:Int):Bool:=decide (48≤c∧c≤57)
def Zf (c:Int):Bool:=decide (c=95∨128≤c∨(97≤c∧c≤122)∨(65≤c∧c≤90))
def pk (r:Bs):Int×Nat:=if r=[]∨Lib.decodeL r=(65533,1) then (-1,1) else ((Lib.decodeL r).1,(Lib.decodeL r).2)
def Yy:Nat→Bs→Nat
 | 0,_=>0
 | f+1,r=>if (pk r).1=46 then (if Zf (pk (r.drop 1)).1=true then (pk r).2+Yy f (r.drop (pk r).2) else 0)
   else if Zf (pk r).1=true∨Zj (pk r).1=true then (pk r).2+Yy f (r.drop (pk r).2) else 0
def XA (r:Bs):Nat:=Yy (r.length+1) r
def Zu:Nat→Bs→Bool×Nat
 | 0,_=>(false,0)
 | f+1,r =>
  let rest:=Lib.trimLeftS r [32,9,13,10]
  let k:=r.length - rest.length
  if Lib.hasPrefix rest [47,47]=true then
   let n:=if Lib.indexByte rest 10<0 then rest.length else (Lib.indexByte rest 10).toNat
   let t:=Zu f (rest.drop n)
   (t.1,k+n+t.2)
  else if Lib.hasPrefix rest [47,42]=true then
   if Lib.index (rest.drop 2) [42,47]<0 then (false,k) else
   let n:=(Lib.index (rest.drop 2) [42,47]).toNat+4
   let t:=Zu f (rest.drop n)
   (t.1,k+n+t.2)
  else (true,k)
def Zt (r:Bs):Bool×Nat:=Zu (r.length+1) r
def Xx (hex:Bool) (b:UInt8):Bool:=Zj b.toNat || (hex && decide ((97≤b.toNat∧b.toNat≤102)∨(65≤b.toNat∧b.toNat≤70)))
def Zbo (b:UInt8):Nat:=if b.toNat≤57 then b.toNat - 48 else if b.toNat≤70 then b.toNat - 55 else b.toNat - 87
def XB (base:Nat) (l:Bs):Nat:=l.foldl (fun n b=>n * base+Zbo b) 0
def Xc (r:Bs):Bool:=Lib.hasPrefix r [48,120]
def Zd (r:Bs):Bs:=(r.drop (if Xc r then 2 else 0)).takeWhile (Xx (Xc r))
def Zw (r:Bs):Nat:=(if Xc r then 2 else 0)+(Zd r).length
def ZJ (r:Bs):Option Nat :=
 if Zd r=[] then none
 else if (if Xc r then 18446744073709551616 else 9223372036854775808)≤XB (if Xc r then 16 else 10) (Zd r) then none
 else if Zf (pk (r.drop (Zw r))).1=true∨Zj (pk (r.drop (Zw r))).1=true∨(Xc r=true∧16<(Zd r).length) then none
 else some (XB (if Xc r then 16 else 10) (Zd r))
def ZjW (c:Nat):Option UInt8:=if c=110 then some 10 else if c=116 then some 9 else if c=34 then some 34 else if c=92 then some 92 else none
inductive TR where
 | err (at':Nat) | ok (txt:Bs) (len:Nat)
 deriving DecidableEq
def ZG:Nat→Bs→Bool→Bs→Nat→TR
 | 0,_,_,_,_=>.err 0
 | f+1,r,esc,acc,p =>
  if r=[] then .err 0
  else if esc=true then (match ZjW (Lib.decodeL r).1 with
   | none=>.err (p - 1)
   | some b=>ZG f (r.drop (Lib.decodeL r).2) false (acc++[b]) (p+(Lib.decodeL r).2))
  else if (Lib.decodeL r).1=34 then .ok acc (p+1)
  else if (Lib.decodeL r).1=92 then ZG f (r.drop (Lib.decodeL r).2) true acc (p+(Lib.decodeL r).2)
  else if (pk r).1<32 then .err p
  else ZG f (r.drop (Lib.decodeL r).2) false (acc++Lib.encodeRune (Lib.decodeL r).1) (p+(Lib.decodeL r).2)
def XH (r:Bs):TR:=ZG (r.length+1) (r.drop 1) false [] 1
def twos:List Bs:=[[58,45],[33,61],[60,61],[62,61],[60,58]]
def ones:Bs:=[40,41,91,93,123,125,44,46,58,33,61,60,62,43,45,42,47,37,124,36,126]
def Yh (r:Bs):Nat:=if twos.any (Lib.hasPrefix r) then 2 else if ones.contains (r.getD 0 0) then 1 else 0
structure Tok where
 kind:Nat
 text:Bs
 n:Int
 at':Nat
 fin:Nat
 deriving DecidableEq
inductive NR where
 | bad (at':Nat) (e:Nat) | tok (t:Tok)
 deriving DecidableEq
def XI (a:Nat) (r:Bs):NR:=match ZJ r with | none=>.bad a 142 | some n=>.tok ⟨2,[],IntKind.i64.wrap n,a,a+Zw r⟩
def ZaQ (a:Nat) (r:Bs):NR:=match XH r with | .err p=>.bad (a+p) 141 | .ok t l=>.tok ⟨3,t,0,a,a+l⟩
def Xn (a:Nat) (r:Bs) (room:Bool):NR :=
 let c:=(pk r).1
 let n:=Yh r
 if n=0∧c≠34∧Zf c=false∧Zj c=false then .bad a 140
 else if room=false then .bad a 3
 else if 0<n then .tok ⟨4,r.take n,0,a,a+n⟩
 else if c=34 then ZaQ a r
 else if Zj c=true then XI a r
 else .tok ⟨1,r.take (XA r),0,a,a+XA r⟩
def Xd:Nat→Int→Nat→Bs→List Tok×(Nat×Nat)
 | 0,_,_,_=>([],(0,0))
 | f+1,most,a,r =>
  if (Zt r).1=false then ([],(a+(Zt r).2,140))
  else
   let a:=a+(Zt r).2
   let r:=r.drop (Zt r).2
   if r=[] then ([],(0,0))
   else match Xn a r (decide (0<most)) with
    | .bad p e=>([],(p,e))
    | .tok t=>let u:=Xd f (most - 1) t.fin (r.drop (t.fin - a));(t::u.1,u.2)
def VG (s:Bs) (most:Int):List Tok×(Nat×Nat):=Xd (s.length+1) most 0 s
end Go.PM.Lex
end

section
namespace Go.PM.Lex
structure T0 where
 kind:Nat
 text:Bs
 n:Int
 deriving DecidableEq
def Tok.t0 (t:Tok):T0:=⟨t.kind,t.text,t.n⟩
abbrev Ts:=List T0
inductive R (α:Type) where
 | ok (a:α) (ts:Ts) | err (r e:Nat)
def R.bind {α β:Type} (x:R α) (f:α→Ts→R β):R β:=match x with
 | .ok a ts=>f a ts
 | .err r e=>.err r e
@[simp] theorem R.bind_ok {α β:Type} (a:α) (ts:Ts) (f:α→Ts→R β):(R.ok a ts).bind f=f a ts:=rfl
@[simp] theorem R.bind_err {α β:Type} (r e:Nat) (f:α→Ts→R β):(R.err r e:R α).bind f=.err r e:=rfl
inductive Ex where
 | mk (op:Nat) (text:Bs) (n:Int) (args:List Ex) (at':Nat)
inductive Li where
 | mk (op:Nat) (rel:Bs) (args:List Ex) (body:List Li) (at':Nat)
structure Ru where
 head:Bs
 args:List Ex
 body:List Li
 at':Nat
structure Fi where
 name:Bs
 typ:Bs
structure Ca where
 name:Bs
 fields:List Fi
structure Ty where
 kind:Nat
 name:Bs
 base:Bs
 fields:List Fi
 cases:List Ca
 at':Nat
structure Re where
 name:Bs
 fields:List Fi
 inn:Bool
 out:Bool
 inl:Bool
 at':Nat
structure Ini where
 name:Bs
 comp:Bs
 types:List Bs
 at':Nat
structure Ov where
 rel:Bs
 at':Nat
mutual
inductive Un where
 | mk (types:List Ty) (rels:List Re) (rules:List Ru) (comps:List Co) (inits:List Ini) (overs:List Ov)
inductive Co where
 | mk (name:Bs) (params:List Bs) (base:Bs) (types:List Bs) (unit:Un) (at':Nat)
end
def hd (ts:Ts):T0:=match ts with
 | []=>⟨0,[],0⟩
 | t::_=>t
def ZU (s:Bs):Nat :=
 if s=[99,97,116] then 20 else if s=[115,116,114,108,101,110] then 21 else if s=[115,117,98,115,116,114] then 22 else if s=[99,111,100,101] then 23 else if s=[115,116,114] then 24 else if s=[110,117,109] then 25 else 0
def keptWords:List Bs:=[[116,121,112,101],[100,101,99,108],[105,110,112,117,116],[111,117,116,112,117,116],[105,110,108,105,110,101],[99,111,109,112],[105,110,105,116],[111,118,101,114,114,105,100,101],[110,105,108],[99,111,117,110,116],[115,117,109],[109,105,110],[109,97,120],[98,111,114],[98,120,111,114],[98,97,110,100],[115,104,108],[115,104,114]]
def Zcm (s:Bs):Bool:=keptWords.contains s || decide (ZU s≠0)
def isW (ts:Ts) (ws:List Bs):Bool:=(decide ((hd ts).kind=1) || decide ((hd ts).kind=4)) && ws.contains (hd ts).text
def Zn (ts:Ts):Bool:=decide ((hd ts).kind=1) && (!decide ((hd ts).text=[95]) && !Zcm (hd ts).text)
def Zx (ts:Ts):Bool :=
 if (hd ts).kind=2∨(hd ts).kind=3 then true
 else if (hd ts).kind=4 then isW ts [[45],[126],[40],[91],[36]]
 else if (hd ts).kind=1 then !Zcm (hd ts).text || (decide ((hd ts).text=[110,105,108]) || decide (ZU (hd ts).text≠0))
 else false
def Wu (ts:Ts):Nat×Nat :=
 if (hd ts).kind≠1∧(hd ts).kind≠4 then (0,0)
 else if (hd ts).text=[98,111,114] then (1,16) else if (hd ts).text=[98,120,111,114] then (1,17) else if (hd ts).text=[98,97,110,100] then (2,15) else if (hd ts).text=[115,104,108] then (3,18) else if (hd ts).text=[115,104,114] then (3,19)
 else if (hd ts).text=[43] then (4,10) else if (hd ts).text=[45] then (4,11) else if (hd ts).text=[42] then (5,12) else if (hd ts).text=[47] then (5,13) else if (hd ts).text=[37] then (5,14) else (0,0)
def ZO (w:Bs) (ts:Ts):R Unit:=if isW ts [w]=true then .ok () ts.tail else .err ts.length 150
def Z1 (ts:Ts):R Bs:=if Zn ts=true then .ok (hd ts).text ts.tail else .err ts.length 150
def Zq {α:Type} (d:Nat) (fr tw:Bs) (read:Ts→R α) (ts:Ts):R α :=
 if isW ts [fr]=true then
  (if d=0 then .err ts.length 151 else (read ts.tail).bind fun x ts=>if tw=[] then .ok x ts else (ZO tw ts).bind fun _ ts=>.ok x ts)
 else .err ts.length 150
def Xe {α:Type} (sign:Bs) (most:Nat) (starts:Ts→Bool) (one:Ts→R α):Nat→List α→Ts→R (List α)
 | 0,_,_=>.err 0 150
 | f+1,l,ts=>if starts ts=true∧l.length=most then .err ts.length 3
   else (one ts).bind fun x ts=>if isW ts [sign]=true then Xe sign most starts one f (l++[x]) ts.tail else .ok (l++[x]) ts
def YE {α:Type} (sign:Bs) (most:Nat) (starts:Ts→Bool) (one:Ts→R α) (ts:Ts):R (List α):=Xe sign most starts one (ts.length+1) [] ts
def YG (ts:Ts):R Fi:=(Z1 ts).bind fun a ts=>(ZO [58] ts).bind fun _ ts=>(Z1 ts).bind fun b ts=>.ok ⟨a,b⟩ ts
def Yn (fin:Bs) (ts:Ts):R (List Fi):=if isW ts [fin]=true then .ok [] ts else YE [44] 12 Zn YG ts
def Y2 (ts:Ts):R (List Bs):=if isW ts [[60]]=true then (YE [44] 12 Zn Z1 ts.tail).bind fun l ts=>(ZO [62] ts).bind fun _ ts=>.ok l ts else .ok [] ts
def Wv (ts:Ts):R Ca:=(Z1 ts).bind fun a ts=>(ZO [123] ts).bind fun _ ts=>(Yn [125] ts).bind fun l ts=>(ZO [125] ts).bind fun _ ts=>.ok ⟨a,l⟩ ts
def Jw (t0:Ts):R Ty:=(Z1 t0).bind fun nm ts =>
 if isW ts [[60,58]]=true then (Z1 ts.tail).bind fun b ts=>.ok ⟨1,nm,b,[],[],t0.length⟩ ts
 else (ZO [61] ts).bind fun _ ts =>
  if isW ts [[91]]=true then (Yn [93] ts.tail).bind fun l ts=>(ZO [93] ts).bind fun _ ts=>.ok ⟨2,nm,[],l,[],t0.length⟩ ts
  else (YE [124] 64 Zn Wv ts).bind fun l ts=>.ok ⟨3,nm,[],[],l,t0.length⟩ ts
def YO:Nat→Bool→Bool→Bool→Ts→(Bool×Bool×Bool)×Ts
 | 0,i,o,n,ts=>((i,o,n),ts)
 | f+1,i,o,n,ts=>if i=false∧isW ts [[105,110,112,117,116]]=true then YO f true o n ts.tail
   else if o=false∧isW ts [[111,117,116,112,117,116]]=true then YO f i true n ts.tail
   else if n=false∧isW ts [[105,110,108,105,110,101]]=true then YO f i o true ts.tail
   else ((i,o,n),ts)
def Zd6 (t0:Ts):R Re:=(Z1 t0).bind fun nm ts=>(ZO [40] ts).bind fun _ ts=>(Yn [41] ts).bind fun l ts=>(ZO [41] ts).bind fun _ ts =>
 .ok ⟨nm,l,(YO 4 false false false ts).1.1,(YO 4 false false false ts).1.2.1,(YO 4 false false false ts).1.2.2,t0.length⟩ (YO 4 false false false ts).2
def XY (d:Nat) (ex:Ts→R Ex) (fr tw:Bs) (ts:Ts):R (List Ex):=Zq d fr tw (fun ts=>if isW ts [tw]=true then .ok [] ts else YE [44] 12 Zx ex ts) ts
def X2 (ex:Ts→R Ex):Nat→List Ex→Ts→R (List Ex)
 | 0,l,ts=>.ok l ts
 | k+1,l,ts=>(if l=[] then .ok () ts else ZO [44] ts).bind fun _ ts=>(ex ts).bind fun e ts=>X2 ex k (l++[e]) ts
def YF (op:Nat):Nat:=if op=22 then 3 else if op=20 then 2 else 1
def Yr (d:Nat) (ex:Ts→R Ex) (ts:Ts):R Ex :=
 if Zx ts=false then .err ts.length 150
 else if (hd ts).kind=2 then .ok (.mk 3 [] (hd ts).n [] ts.length) ts.tail
 else if (hd ts).kind=3 then .ok (.mk 4 (hd ts).text 0 [] ts.length) ts.tail
 else if (hd ts).text=[40] then Zq d [40] [41] ex ts
 else if (hd ts).text=[91] then (XY d ex [91] [93] ts).bind fun l ts'=>.ok (.mk 6 [] 0 l ts.length) ts'
 else if (hd ts).text=[36] then (Z1 ts.tail).bind fun nm ts'=>if isW ts' [[40]]=true then (XY d ex [40] [41] ts').bind fun l ts'=>.ok (.mk 7 nm 0 l ts.length) ts' else .ok (.mk 7 nm 0 [] ts.length) ts'
 else if ZU (hd ts).text≠0 then (Zq d [40] [41] (X2 ex (YF (ZU (hd ts).text)) []) ts.tail).bind fun l ts'=>.ok (.mk (ZU (hd ts).text) [] 0 l ts.length) ts'
 else if (hd ts).text=[110,105,108] then .ok (.mk 5 [] 0 [] ts.length) ts.tail
 else if (hd ts).text=[95] then .ok (.mk 2 [] 0 [] ts.length) ts.tail
 else .ok (.mk 1 (hd ts).text 0 [] ts.length) ts.tail
def Ex.at':Ex→Nat | .mk _ _ _ _ a=>a
def Vb (sub:Nat→Ts→R Ex) (least:Nat):Nat→Ex→Ts→R Ex
 | 0,_,_=>.err 0 150
 | f+1,e,ts=>if (Wu ts).1<least∨(Wu ts).1=0 then .ok e ts
   else (sub ((Wu ts).1+1) ts.tail).bind fun g ts'=>Vb sub least f (.mk (Wu ts).2 [] 0 [e,g] e.at') ts'
def Vc (sg:Ts→R Ex):Nat→Nat→Ts→R Ex
 | 0,_,ts=>sg ts
 | k+1,least,ts=>(sg ts).bind fun e ts=>Vb (Vc sg k) least (ts.length+1) e ts
def V4 (d:Nat) (sg:Ts→R Ex) (ts:Ts):R Ex :=
 if isW ts [[45]]=true then (Zq d [45] [] sg ts).bind fun e ts'=>.ok (.mk 8 [] 0 [e] ts.length) ts'
 else if isW ts [[126]]=true then (Zq d [126] [] sg ts).bind fun e ts'=>.ok (.mk 9 [] 0 [e] ts.length) ts'
 else Yr d (Vc sg 6 1) ts
def Zp:Nat→Ts→R Ex
 | 0=>V4 0 fun _=>.err 0 150
 | d+1=>V4 (d+1) (Zp d)
def ZW (d:Nat) (ts:Ts):R Ex:=Vc (Zp d) 6 1 ts
def Yi:Nat→Ts→R Ex
 | 0=>fun _=>.err 0 150
 | d+1=>ZW d
def UL (ts:Ts):Nat→List Bs→Option Nat
 | _,[]=>none
 | i,w::ws=>if isW ts [w]=true then some i else UL ts (i+1) ws
def relWords:List Bs:=[[61],[33,61],[60],[60,61],[62],[62,61]]
def aggWords:List Bs:=[[99,111,117,110,116],[115,117,109],[109,105,110],[109,97,120]]
def Zbq (ts:Ts):R Nat:=match UL ts 0 relWords with
 | none=>.err ts.length 150
 | some 0=>match UL ts.tail 0 aggWords with
  | some j=>.ok (9+j) ts.tail.tail
  | none=>.ok 3 ts.tail
 | some k=>.ok (3+k) ts.tail
def Jx (d op a:Nat) (ts:Ts):R Li:=(Z1 ts).bind fun nm ts=>(XY d (Yi d) [40] [41] ts).bind fun l ts=>.ok (.mk op nm l [] a) ts
def XC (d:Nat) (bd:Ts→R (List Li)) (a op:Nat) (l:List Ex) (ts:Ts):R Li :=
 if 9≤op then (ZO [58] ts).bind fun _ ts=>(Zq d [123] [125] bd ts).bind fun b ts=>.ok (.mk op [] l b a) ts
 else .ok (.mk op [] l [] a) ts
def Zga (d:Nat) (bd:Ts→R (List Li)) (t0:Ts):R Li:=(ZW d t0).bind fun e ts=>(Zbq ts).bind fun op ts =>
 if op=9 then XC d bd t0.length op [e] ts else (ZW d ts).bind fun g ts=>XC d bd t0.length op [e,g] ts
def Zbr (d:Nat) (bd:Ts→R (List Li)) (t0:Ts):R Li :=
 if isW t0 [[33]]=true then Jx d 2 t0.length t0.tail
 else if Zn t0=true∧(hd t0.tail).kind=4∧(hd t0.tail).text=[40] then Jx d 1 t0.length t0
 else Zga d bd t0
def ZA (ts:Ts):Bool:=Zx ts || isW ts [[33]]
def Ue:Nat→Ts→R (List Li)
 | 0=>YE [44] 32 ZA (Zbr 0 fun _=>.err 0 150)
 | d+1=>YE [44] 32 ZA (Zbr (d+1) (Ue d))
def W2:Nat→Ts→R (List Li)
 | 0=>fun _=>.err 0 150
 | d+1=>Ue d
def Zd7 (d:Nat) (bodies:Bool) (t0:Ts):R Ru:=(Z1 t0).bind fun nm ts=>(XY d (Yi d) [40] [41] ts).bind fun l ts =>
 if bodies=true∧isW ts [[58,45]]=true then (Ue d ts.tail).bind fun b ts=>(ZO [46] ts).bind fun _ ts=>.ok ⟨nm,l,b,t0.length⟩ ts
 else (ZO [46] ts).bind fun _ ts=>.ok ⟨nm,l,[],t0.length⟩ ts
def Zd8 (d:Nat) (un:Ts→R Un) (t0:Ts):R Co:=(Z1 t0).bind fun nm ts=>(Y2 ts).bind fun ps ts =>
 if isW ts [[58]]=true then (Z1 ts.tail).bind fun b ts=>(Y2 ts).bind fun tys ts=>(Zq d [123] [125] un ts).bind fun u ts=>.ok (.mk nm ps b tys u t0.length) ts
 else (Zq d [123] [125] un ts).bind fun u ts=>.ok (.mk nm ps [] [] u t0.length) ts
def Zd9 (t0:Ts):R Ini:=(Z1 t0).bind fun nm ts=>(ZO [61] ts).bind fun _ ts=>(Z1 ts).bind fun c ts=>(Y2 ts).bind fun tys ts=>.ok ⟨nm,c,tys,t0.length⟩ ts
def ZfF (t0:Ts):R Ov:=(Z1 t0).bind fun nm ts=>.ok ⟨nm,t0.length⟩ ts
def X3 (inside:Bool) (d:Nat) (un:Ts→R Un):Nat→Un→Ts→R Un
 | 0,_,_=>.err 0 150
 | f+1,.mk tys rels rules comps inits overs,ts =>
  if ts=[]∨(inside=true∧isW ts [[125]]=true) then .ok (.mk tys rels rules comps inits overs) ts
  else if isW ts [[116,121,112,101]]=true then (if tys.length=256 then .err ts.length 3 else (Jw ts.tail).bind fun x ts=>X3 inside d un f (.mk (tys++[x]) rels rules comps inits overs) ts)
  else if isW ts [[100,101,99,108]]=true then (if rels.length=256 then .err ts.length 3 else (Zd6 ts.tail).bind fun x ts=>X3 inside d un f (.mk tys (rels++[x]) rules comps inits overs) ts)
  else if isW ts [[99,111,109,112]]=true then (if comps.length=64 then .err ts.length 3 else (Zd8 d un ts.tail).bind fun x ts=>X3 inside d un f (.mk tys rels rules (comps++[x]) inits overs) ts)
  else if isW ts [[105,110,105,116]]=true then (if inits.length=256 then .err ts.length 3 else (Zd9 ts.tail).bind fun x ts=>X3 inside d un f (.mk tys rels rules comps (inits++[x]) overs) ts)
  else if isW ts [[111,118,101,114,114,105,100,101]]=true then (if overs.length=256 then .err ts.length 3 else (ZfF ts.tail).bind fun x ts=>X3 inside d un f (.mk tys rels rules comps inits (overs++[x])) ts)
  else if Zn ts=true then (if rules.length=1024 then .err ts.length 3 else (Zd7 d true ts).bind fun x ts=>X3 inside d un f (.mk tys rels (rules++[x]) comps inits overs) ts)
  else .err ts.length 150
def Un.nil:Un:=.mk [] [] [] [] [] []
def ZmM (inside:Bool) (d:Nat) (un:Ts→R Un) (ts:Ts):R Un:=X3 inside d un (ts.length+1) .nil ts
def ZmN:Nat→Ts→R Un
 | 0=>ZmM true 0 fun _=>.err 0 150
 | d+1=>ZmM true (d+1) (ZmN d)
def W3 (ts:Ts):R Un:=ZmM false 64 (ZmN 63) ts
end Go.PM.Lex
end

section
namespace Go.PM.Lex
mutual
def erE:Ex→Ex
 | .mk op t n args _=>.mk op t n (ZzA args) 0
def ZzA:List Ex→List Ex
 | []=>[]
 | e::l=>erE e::ZzA l
end
def Stb {α:Type} (er:α→α) (m:Ts) (x y:R α):Prop:=∀v ts,x=.ok v ts→∃v',er v'=er v∧y=.ok v' (ts++m)
section
variable {α β:Type} {er:α→α} {er2:β→β} {m:Ts}
theorem Stb.ok {v v':α} {ts:Ts} (h:er v'=er v):Stb er m (.ok v ts) (.ok v' (ts++m)):=fun w rest e=>by cases e;exact ⟨v',h,rfl⟩
theorem Stb.ok' {v v':α} {ts ts':Ts} (h:er v'=er v) (e:ts'=ts++m):Stb er m (.ok v ts) (.ok v' ts'):=e ▸ Stb.ok h
theorem Stb.err {r e:Nat} {y:R α}:Stb er m (.err r e) y:=fun w rest e=>by cases e
theorem Stb.bind {x y:R α} {f g:α→Ts→R β} (h:Stb er m x y) (hf:∀v v' ts,er v'=er v→Stb er2 m (f v ts) (g v' (ts++m))):Stb er2 m (x.bind f) (y.bind g):=fun w rest e=>by
 cases x with
 | ok v ts =>
  obtain ⟨v',h1,rfl⟩:=h v ts rfl;exact hf v v' ts h1 w rest e
 | err r e'=>cases e
theorem Stb.binds {x y:R α} {f g:α→Ts→R β} (h:Stb id m x y) (hf:∀v ts,Stb er2 m (f v ts) (g v (ts++m))):Stb er2 m (x.bind f) (y.bind g):=Stb.bind h fun v v' ts e=>by cases (show v'=v from e);exact hf v ts
end
variable {m:Ts}
theorem ZtT (ws:List Bs):isW [] ws=false:=by simp [isW,hd]
theorem ZtU {ts:Ts} {ws:List Bs} (h:isW ts ws=true):∃t l,ts=t::l:=by
 cases ts with
 | nil=>rw [ZtT] at h;cases h
 | cons t l=>exact ⟨t,l,rfl⟩
theorem ZtV {ts:Ts} (h:(Wu ts).1≠0):∃t l,ts=t::l:=by
 cases ts with
 | nil=>exact absurd rfl h
 | cons t l=>exact ⟨t,l,rfl⟩
def Un.app:Un→Un→Un
 | .mk a1 a2 a3 a4 a5 a6,.mk b1 b2 b3 b4 b5 b6=>.mk (a1++b1) (a2++b2) (a3++b3) (a4++b4) (a5++b5) (a6++b6)
def Un.le:Un→Un→Prop
 | .mk a1 a2 a3 a4 a5 a6,.mk b1 b2 b3 b4 b5 b6=>a1.length≤b1.length∧a2.length≤b2.length∧a3.length≤b3.length∧a4.length≤b4.length∧a5.length≤b5.length∧a6.length≤b6.length
theorem Un.le_refl:∀u:Un,Un.le u u | .mk ..=>⟨Tq _,Tq _,Tq _,Tq _,Tq _,Tq _⟩
theorem Un.le_trans:∀{u v w:Un},Un.le u v→Un.le v w→Un.le u w
 | .mk ..,.mk ..,.mk ..,⟨h1,h2,h3,h4,h5,h6⟩,⟨k1,k2,k3,k4,k5,k6⟩=>⟨by omega,by omega,by omega,by omega,by omega,by omega⟩
def Un.room:Un→Un→Prop
 | .mk a1 a2 a3 a4 a5 a6,.mk b1 b2 b3 b4 b5 b6=>a1.length+b1.length≤256∧a2.length+b2.length≤256∧a3.length+b3.length≤1024∧a4.length+b4.length≤64∧a5.length+b5.length≤256∧a6.length+b6.length≤256
theorem ZAj {α β:Type} {x:R α} {f:α→Ts→R β} {v:β} {ts:Ts} (h:x.bind f=.ok v ts):∃a ts1,x=.ok a ts1∧f a ts1=.ok v ts:=by
 cases x with
 | ok a ts1=>exact ⟨a,ts1,rfl,h⟩
 | err r e=>cases h
end Go.PM.Lex
end

section
namespace Go.PM.Lex
open Go.Proofs
def Zko:Tab:=(.node (.node (.node (.node (.node (.node (.node (.node (.node .leaf 0 ⟨1,0,.other,[],false⟩ .leaf) 1 ⟨1,8,.func,[.d .nilf],false⟩ .leaf) 2 ⟨1,8,.int .i64,[.d (.int .i64 (0))],true⟩ (.node (.node .leaf 3 ⟨1,8,.int .i64,[.d (.int .i64 (0))],true⟩ .leaf) 4 ⟨1,1,.bool,[.d (.bool false)],false⟩ .leaf)) 5 ⟨1,1,.int .u8,[.d (.int .u8 (0))],true⟩ (.node (.node (.node .leaf 6 ⟨1,1,.int .u8,[.d (.int .u8 (0))],true⟩ .leaf) 7 ⟨4,24,.struct [(0,2),(1,3),(2,4),(3,6)],[.d (.int .i64 (0)),.d (.int .i64 (0)),.d (.bool false),.d (.int .u8 (0))],false⟩ .leaf) 8 ⟨4,24,.struct [(0,2),(1,3),(2,4),(3,6)],[.d (.int .i64 (0)),.d (.int .i64 (0)),.d (.bool false),.d (.int .u8 (0))],false⟩ (.node (.node .leaf 9 ⟨1,16,.string,[.d (.str [])],false⟩ .leaf) 10 ⟨1,16,.string,[.d (.str [])],false⟩ .leaf))) 11 ⟨1,16,.string,[.d (.str [])],false⟩ (.node (.node (.node (.node .leaf 12 ⟨1,8,.int .u64,[.d (.int .u64 (0))],true⟩ .leaf) 13 ⟨2,24,.struct [(0,9),(1,12)],[.d (.str []),.d (.int .u64 (0))],false⟩ .leaf) 14 ⟨2,24,.struct [(0,9),(1,12)],[.d (.str []),.d (.int .u64 (0))],false⟩ (.node (.node .leaf 15 ⟨1,8,.ptr 356,[.d .nilp],false⟩ .leaf) 16 ⟨1,8,.ptr 359,[.d .nilp],false⟩ .leaf)) 17 ⟨1,8,.ptr 366,[.d .nilp],false⟩ (.node (.node (.node .leaf 18 ⟨1,8,.struct [(0,17)],[.d .nilp],false⟩ .leaf) 19 ⟨1,8,.struct [(0,17)],[.d .nilp],false⟩ .leaf) 20 ⟨1,16,.iface,[.d .nili],false⟩ (.node .leaf 21 ⟨1,4,.int .i32,[.d (.int .i32 (0))],true⟩ .leaf)))) 22 ⟨1,24,.slice 24,[.nils 24],false⟩ (.node (.node (.node (.node (.node .leaf 23 ⟨5,64,.struct [(0,5),(1,9),(2,2),(3,22),(4,3)],[.d (.int .u8 (0)),.d (.str []),.d (.int .i64 (0)),.nils 24,.d (.int .i64 (0))],false⟩ .leaf) 24 ⟨5,64,.struct [(0,5),(1,9),(2,2),(3,22),(4,3)],[.d (.int .u8 (0)),.d (.str []),.d (.int .i64 (0)),.nils 24,.d (.int .i64 (0))],false⟩ .leaf) 25 ⟨1,8,.func,[.d .nilf],false⟩ (.node (.node .leaf 26 ⟨1,8,.func,[.d .nilf],false⟩ .leaf) 27 ⟨1,8,.int .i64,[.d (.int .i64 (0))],true⟩ .leaf)) 28 ⟨1,0,.other,[],false⟩ (.node (.node (.node .leaf 29 ⟨1,8,.func,[.d .nilf],false⟩ .leaf) 30 ⟨1,0,.other,[],false⟩ .leaf) 31 ⟨1,8,.func,[.d .nilf],false⟩ (.node (.node .leaf 32 ⟨1,8,.func,[.d .nilf],false⟩ .leaf) 33 ⟨1,8,.func,[.d .nilf],false⟩ .leaf))) 34 ⟨1,8,.func,[.d .nilf],false⟩ (.node (.node (.node (.node .leaf 35 ⟨1,8,.func,[.d .nilf],false⟩ .leaf) 36 ⟨1,8,.func,[.d .nilf],false⟩ .leaf) 37 ⟨1,24,.slice 64,[.nils 64],false⟩ (.node (.node .leaf 38 ⟨1,24,.slice 68,[.nils 68],false⟩ .leaf) 39 ⟨1,24,.slice 50,[.nils 50],false⟩ .leaf)) 40 ⟨1,24,.slice 71,[.nils 71],false⟩ (.node (.node (.node .leaf 41 ⟨1,24,.slice 73,[.nils 73],false⟩ .leaf) 42 ⟨1,24,.slice 75,[.nils 75],false⟩ .leaf) 43 ⟨6,144,.struct [(0,37),(1,38),(2,39),(3,40),(4,41),(5,42)],[.nils 64,.nils 68,.nils 50,.nils 71,.nils 73,.nils 75],false⟩ (.node .leaf 44 ⟨6,144,.struct [(0,37),(1,38),(2,39),(3,40),(4,41),(5,42)],[.nils 64,.nils 68,.nils 50,.nils 71,.nils 73,.nils 75],false⟩ .leaf))))) 45 ⟨1,8,.func,[.d .nilf],false⟩ (.node (.node (.node (.node (.node (.node .leaf 46 ⟨1,8,.func,[.d .nilf],false⟩ .leaf) 47 ⟨1,8,.func,[.d .nilf],false⟩ .leaf) 48 ⟨1,24,.slice 60,[.nils 60],false⟩ (.node (.node .leaf 49 ⟨4,72,.struct [(0,9),(1,22),(2,48),(3,3)],[.d (.str []),.nils 24,.nils 60,.d (.int .i64 (0))],false⟩ .leaf) 50 ⟨4,72,.struct [(0,9),(1,22),(2,48),(3,3)],[.d (.str []),.nils 24,.nils 60,.d (.int .i64 (0))],false⟩ .leaf)) 51 ⟨1,8,.func,[.d .nilf],false⟩ (.node (.node (.node .leaf 52 ⟨1,8,.func,[.d .nilf],false⟩ .leaf) 53 ⟨1,8,.func,[.d .nilf],false⟩ .leaf) 54 ⟨1,8,.func,[.d .nilf],false⟩ (.node (.node .leaf 55 ⟨1,8,.func,[.d .nilf],false⟩ .leaf) 56 ⟨1,8,.func,[.d .nilf],false⟩ .leaf))) 57 ⟨1,0,.other,[],false⟩ (.node (.node (.node (.node .leaf 58 ⟨1,8,.func,[.d .nilf],false⟩ .leaf) 59 ⟨5,80,.struct [(0,5),(1,9),(2,22),(3,48),(4,3)],[.d (.int .u8 (0)),.d (.str []),.nils 24,.nils 60,.d (.int .i64 (0))],false⟩ .leaf) 60 ⟨5,80,.struct [(0,5),(1,9),(2,22),(3,48),(4,3)],[.d (.int .u8 (0)),.d (.str []),.nils 24,.nils 60,.d (.int .i64 (0))],false⟩ (.node (.node .leaf 61 ⟨1,24,.slice 66,[.nils 66],false⟩ .leaf) 62 ⟨1,24,.slice 148,[.nils 148],false⟩ .leaf)) 63 ⟨6,96,.struct [(0,5),(1,9),(2,9),(3,61),(4,62),(5,3)],[.d (.int .u8 (0)),.d (.str []),.d (.str []),.nils 66,.nils 148,.d (.int .i64 (0))],false⟩ (.node (.node (.node .leaf 64 ⟨6,96,.struct [(0,5),(1,9),(2,9),(3,61),(4,62),(5,3)],[.d (.int .u8 (0)),.d (.str []),.d (.str []),.nils 66,.nils 148,.d (.int .i64 (0))],false⟩ .leaf) 65 ⟨2,32,.struct [(0,9),(1,9)],[.d (.str []),.d (.str [])],false⟩ .leaf) 66 ⟨2,32,.struct [(0,9),(1,9)],[.d (.str []),.d (.str [])],true⟩ (.node .leaf 67 ⟨6,56,.struct [(0,9),(1,61),(2,4),(3,4),(4,4),(5,3)],[.d (.str []),.nils 66,.d (.bool false),.d (.bool false),.d (.bool false),.d (.int .i64 (0))],false⟩ .leaf)))) 68 ⟨6,56,.struct [(0,9),(1,61),(2,4),(3,4),(4,4),(5,3)],[.d (.str []),.nils 66,.d (.bool false),.d (.bool false),.d (.bool false),.d (.int .i64 (0))],false⟩ (.node (.node (.node (.node (.node .leaf 69 ⟨1,24,.slice 9,[.nils 9],false⟩ .leaf) 70 ⟨11,232,.struct [(0,9),(1,69),(2,9),(3,69),(4,44),(10,3)],[.d (.str []),.nils 9,.d (.str []),.nils 9,.nils 64,.nils 68,.nils 50,.nils 71,.nils 73,.nils 75,.d (.int .i64 (0))],false⟩ .leaf) 71 ⟨11,232,.struct [(0,9),(1,69),(2,9),(3,69),(4,44),(10,3)],[.d (.str []),.nils 9,.d (.str []),.nils 9,.nils 64,.nils 68,.nils 50,.nils 71,.nils 73,.nils 75,.d (.int .i64 (0))],false⟩ (.node (.node .leaf 72 ⟨4,64,.struct [(0,9),(1,9),(2,69),(3,3)],[.d (.str []),.d (.str []),.nils 9,.d (.int .i64 (0))],false⟩ .leaf) 73 ⟨4,64,.struct [(0,9),(1,9),(2,69),(3,3)],[.d (.str []),.d (.str []),.nils 9,.d (.int .i64 (0))],false⟩ .leaf)) 74 ⟨2,24,.struct [(0,9),(1,3)],[.d (.str []),.d (.int .i64 (0))],false⟩ (.node (.node (.node .leaf 75 ⟨2,24,.struct [(0,9),(1,3)],[.d (.str []),.d (.int .i64 (0))],true⟩ .leaf) 76 ⟨1,24,.slice 44,[.nils 44],false⟩ .leaf) 77 ⟨1,8,.func,[.d .nilf],false⟩ (.node (.node .leaf 78 ⟨1,8,.ptr 84,[.d .nilp],false⟩ .leaf) 79 ⟨1,8,.ptr 82,[.d .nilp],false⟩ .leaf))) 80 ⟨1,24,.slice 5,[.nils 5],false⟩ (.node (.node (.node (.node .leaf 81 ⟨2,32,.struct [(0,79),(1,80)],[.d .nilp,.nils 5],false⟩ .leaf) 82 ⟨2,32,.struct [(0,79),(1,80)],[.d .nilp,.nils 5],false⟩ .leaf) 83 ⟨2,32,.struct [(0,82)],[.d .nilp,.nils 5],false⟩ (.node (.node .leaf 84 ⟨2,32,.struct [(0,82)],[.d .nilp,.nils 5],false⟩ .leaf) 85 ⟨1,8,.func,[.d .nilf],false⟩ .leaf)) 86 ⟨1,8,.func,[.d .nilf],false⟩ (.node (.node (.node .leaf 87 ⟨1,8,.func,[.d .nilf],false⟩ .leaf) 88 ⟨1,0,.other,[],false⟩ .leaf) 89 ⟨1,8,.func,[.d .nilf],false⟩ (.node .leaf 90 ⟨1,8,.ptr 143,[.d .nilp],false⟩ .leaf)))))) 91 ⟨1,8,.func,[.d .nilf],false⟩ (.node (.node (.node (.node (.node (.node (.node .leaf 92 ⟨1,8,.func,[.d .nilf],false⟩ .leaf) 93 ⟨1,8,.func,[.d .nilf],false⟩ .leaf) 94 ⟨1,8,.func,[.d .nilf],false⟩ (.node (.node .leaf 95 ⟨3,72,.struct [(0,37),(1,38),(2,39)],[.nils 64,.nils 68,.nils 50],false⟩ .leaf) 96 ⟨3,72,.struct [(0,37),(1,38),(2,39)],[.nils 64,.nils 68,.nils 50],false⟩ .leaf)) 97 ⟨1,8,.func,[.d .nilf],false⟩ (.node (.node (.node .leaf 98 ⟨1,8,.func,[.d .nilf],false⟩ .leaf) 99 ⟨1,8,.func,[.d .nilf],false⟩ .leaf) 100 ⟨1,8,.func,[.d .nilf],false⟩ (.node (.node .leaf 101 ⟨1,8,.func,[.d .nilf],false⟩ .leaf) 102 ⟨1,8,.func,[.d .nilf],false⟩ .leaf))) 103 ⟨1,8,.func,[.d .nilf],false⟩ (.node (.node (.node (.node .leaf 104 ⟨1,8,.func,[.d .nilf],false⟩ .leaf) 105 ⟨1,8,.func,[.d .nilf],false⟩ .leaf) 106 ⟨1,8,.func,[.d .nilf],false⟩ (.node (.node .leaf 107 ⟨1,8,.func,[.d .nilf],false⟩ .leaf) 108 ⟨1,8,.func,[.d .nilf],false⟩ .leaf)) 109 ⟨1,8,.func,[.d .nilf],false⟩ (.node (.node (.node .leaf 110 ⟨1,8,.func,[.d .nilf],false⟩ .leaf) 111 ⟨1,8,.func,[.d .nilf],false⟩ .leaf) 112 ⟨1,8,.func,[.d .nilf],false⟩ (.node .leaf 113 ⟨1,8,.func,[.d .nilf],false⟩ .leaf)))) 114 ⟨1,8,.func,[.d .nilf],false⟩ (.node (.node (.node (.node (.node .leaf 115 ⟨1,8,.func,[.d .nilf],false⟩ .leaf) 116 ⟨1,8,.func,[.d .nilf],false⟩ .leaf) 117 ⟨1,8,.func,[.d .nilf],false⟩ (.node (.node .leaf 118 ⟨1,8,.func,[.d .nilf],false⟩ .leaf) 119 ⟨1,8,.func,[.d .nilf],false⟩ .leaf)) 120 ⟨1,8,.func,[.d .nilf],false⟩ (.node (.node (.node .leaf 121 ⟨1,8,.func,[.d .nilf],false⟩ .leaf) 122 ⟨3,32,.struct [(0,3),(1,9),(2,3)],[.d (.int .i64 (0)),.d (.str []),.d (.int .i64 (0))],false⟩ .leaf) 123 ⟨3,32,.struct [(0,3),(1,9),(2,3)],[.d (.int .i64 (0)),.d (.str []),.d (.int .i64 (0))],true⟩ (.node (.node .leaf 124 ⟨1,8,.func,[.d .nilf],false⟩ .leaf) 125 ⟨1,0,.other,[],false⟩ .leaf))) 126 ⟨1,8,.func,[.d .nilf],false⟩ (.node (.node (.node (.node .leaf 127 ⟨1,8,.func,[.d .nilf],false⟩ .leaf) 128 ⟨1,8,.func,[.d .nilf],false⟩ .leaf) 129 ⟨1,8,.func,[.d .nilf],false⟩ (.node (.node .leaf 130 ⟨1,8,.func,[.d .nilf],false⟩ .leaf) 131 ⟨1,8,.int .u64,[.d (.int .u64 (0))],true⟩ .leaf)) 132 ⟨1,8,.func,[.d .nilf],false⟩ (.node (.node (.node .leaf 133 ⟨1,8,.ptr 5,[.d .nilp],false⟩ .leaf) 134 ⟨1,24,.slice 218,[.nils 218],false⟩ .leaf) 135 ⟨1,0,.other,[],false⟩ (.node .leaf 136 ⟨1,8,.func,[.d .nilf],false⟩ .leaf))))) 137 ⟨2,16,.struct [(0,3),(1,27)],[.d (.int .i64 (0)),.d (.int .i64 (0))],false⟩ (.node (.node (.node (.node (.node (.node .leaf 138 ⟨2,16,.struct [(0,3),(1,27)],[.d (.int .i64 (0)),.d (.int .i64 (0))],true⟩ .leaf) 139 ⟨1,0,.other,[],false⟩ .leaf) 140 ⟨3,40,.struct [(0,134),(1,3),(2,3)],[.nils 218,.d (.int .i64 (0)),.d (.int .i64 (0))],false⟩ (.node (.node .leaf 141 ⟨3,40,.struct [(0,134),(1,3),(2,3)],[.nils 218,.d (.int .i64 (0)),.d (.int .i64 (0))],false⟩ .leaf) 142 ⟨4,48,.struct [(0,141),(3,3)],[.nils 218,.d (.int .i64 (0)),.d (.int .i64 (0)),.d (.int .i64 (0))],false⟩ .leaf)) 143 ⟨4,48,.struct [(0,141),(3,3)],[.nils 218,.d (.int .i64 (0)),.d (.int .i64 (0)),.d (.int .i64 (0))],false⟩ (.node (.node (.node .leaf 144 ⟨1,8,.func,[.d .nilf],false⟩ .leaf) 145 ⟨1,8,.func,[.d .nilf],false⟩ .leaf) 146 ⟨1,8,.func,[.d .nilf],false⟩ (.node (.node .leaf 147 ⟨2,40,.struct [(0,9),(1,61)],[.d (.str []),.nils 66],false⟩ .leaf) 148 ⟨2,40,.struct [(0,9),(1,61)],[.d (.str []),.nils 66],false⟩ .leaf))) 149 ⟨1,8,.func,[.d .nilf],false⟩ (.node (.node (.node (.node .leaf 150 ⟨1,8,.func,[.d .nilf],false⟩ .leaf) 151 ⟨1,8,.func,[.d .nilf],false⟩ .leaf) 152 ⟨1,8,.func,[.d .nilf],false⟩ (.node (.node .leaf 153 ⟨1,8,.func,[.d .nilf],false⟩ .leaf) 154 ⟨1,8,.func,[.d .nilf],false⟩ .leaf)) 155 ⟨1,8,.func,[.d .nilf],false⟩ (.node (.node (.node .leaf 156 ⟨1,8,.func,[.d .nilf],false⟩ .leaf) 157 ⟨1,8,.func,[.d .nilf],false⟩ .leaf) 158 ⟨1,8,.func,[.d .nilf],false⟩ (.node .leaf 159 ⟨1,8,.func,[.d .nilf],false⟩ .leaf)))) 160 ⟨1,8,.func,[.d .nilf],false⟩ (.node (.node (.node (.node (.node .leaf 161 ⟨1,8,.func,[.d .nilf],false⟩ .leaf) 162 ⟨1,8,.ptr 226,[.d .nilp],false⟩ .leaf) 163 ⟨1,0,.other,[],false⟩ (.node (.node .leaf 164 ⟨1,8,.func,[.d .nilf],false⟩ .leaf) 165 ⟨1,8,.func,[.d .nilf],false⟩ .leaf)) 166 ⟨1,8,.func,[.d .nilf],false⟩ (.node (.node (.node .leaf 167 ⟨1,8,.func,[.d .nilf],false⟩ .leaf) 168 ⟨1,8,.func,[.d .nilf],false⟩ .leaf) 169 ⟨1,8,.func,[.d .nilf],false⟩ (.node (.node .leaf 170 ⟨1,8,.func,[.d .nilf],false⟩ .leaf) 171 ⟨1,8,.func,[.d .nilf],false⟩ .leaf))) 172 ⟨1,8,.func,[.d .nilf],false⟩ (.node (.node (.node (.node .leaf 173 ⟨1,8,.func,[.d .nilf],false⟩ .leaf) 174 ⟨1,8,.func,[.d .nilf],false⟩ .leaf) 175 ⟨1,8,.func,[.d .nilf],false⟩ (.node (.node .leaf 176 ⟨1,8,.func,[.d .nilf],false⟩ .leaf) 177 ⟨1,8,.func,[.d .nilf],false⟩ .leaf)) 178 ⟨1,8,.func,[.d .nilf],false⟩ (.node (.node (.node .leaf 179 ⟨1,8,.func,[.d .nilf],false⟩ .leaf) 180 ⟨1,8,.func,[.d .nilf],false⟩ .leaf) 181 ⟨1,8,.func,[.d .nilf],false⟩ (.node .leaf 182 ⟨1,8,.func,[.d .nilf],false⟩ .leaf))))))) 183 ⟨1,8,.func,[.d .nilf],false⟩ (.node (.node (.node (.node (.node (.node (.node (.node .leaf 184 ⟨1,8,.func,[.d .nilf],false⟩ .leaf) 185 ⟨1,8,.func,[.d .nilf],false⟩ .leaf) 186 ⟨1,8,.func,[.d .nilf],false⟩ (.node (.node .leaf 187 ⟨1,8,.func,[.d .nilf],false⟩ .leaf) 188 ⟨1,8,.func,[.d .nilf],false⟩ .leaf)) 189 ⟨1,8,.func,[.d .nilf],false⟩ (.node (.node (.node .leaf 190 ⟨1,8,.func,[.d .nilf],false⟩ .leaf) 191 ⟨1,8,.func,[.d .nilf],false⟩ .leaf) 192 ⟨1,8,.func,[.d .nilf],false⟩ (.node (.node .leaf 193 ⟨1,8,.func,[.d .nilf],false⟩ .leaf) 194 ⟨3,3,.array 3 4,[.d (.bool false),.d (.bool false),.d (.bool false)],false⟩ .leaf))) 195 ⟨3,48,.array 3 9,[.d (.str []),.d (.str []),.d (.str [])],false⟩ (.node (.node (.node (.node .leaf 196 ⟨1,8,.func,[.d .nilf],false⟩ .leaf) 197 ⟨1,8,.func,[.d .nilf],false⟩ .leaf) 198 ⟨1,8,.func,[.d .nilf],false⟩ (.node (.node .leaf 199 ⟨1,8,.func,[.d .nilf],false⟩ .leaf) 200 ⟨1,8,.func,[.d .nilf],false⟩ .leaf)) 201 ⟨1,8,.func,[.d .nilf],false⟩ (.node (.node (.node .leaf 202 ⟨1,8,.func,[.d .nilf],false⟩ .leaf) 203 ⟨1,8,.func,[.d .nilf],false⟩ .leaf) 204 ⟨1,8,.func,[.d .nilf],false⟩ (.node .leaf 205 ⟨1,16,.iface,[.d .nili],false⟩ .leaf)))) 206 ⟨1,16,.iface,[.d .nili],false⟩ (.node (.node (.node (.node (.node .leaf 207 ⟨1,8,.func,[.d .nilf],false⟩ .leaf) 208 ⟨1,8,.func,[.d .nilf],false⟩ .leaf) 209 ⟨1,0,.other,[],false⟩ (.node (.node .leaf 210 ⟨1,8,.func,[.d .nilf],false⟩ .leaf) 211 ⟨1,8,.func,[.d .nilf],false⟩ .leaf)) 212 ⟨1,8,.func,[.d .nilf],false⟩ (.node (.node (.node .leaf 213 ⟨1,8,.func,[.d .nilf],false⟩ .leaf) 214 ⟨1,8,.func,[.d .nilf],false⟩ .leaf) 215 ⟨1,8,.func,[.d .nilf],false⟩ (.node (.node .leaf 216 ⟨1,8,.func,[.d .nilf],false⟩ .leaf) 217 ⟨5,48,.struct [(0,5),(1,9),(2,2),(3,3),(4,3)],[.d (.int .u8 (0)),.d (.str []),.d (.int .i64 (0)),.d (.int .i64 (0)),.d (.int .i64 (0))],false⟩ .leaf))) 218 ⟨5,48,.struct [(0,5),(1,9),(2,2),(3,3),(4,3)],[.d (.int .u8 (0)),.d (.str []),.d (.int .i64 (0)),.d (.int .i64 (0)),.d (.int .i64 (0))],true⟩ (.node (.node (.node (.node .leaf 219 ⟨2,16,.struct [(0,3),(1,27)],[.d (.int .i64 (0)),.d (.int .i64 (0))],false⟩ .leaf) 220 ⟨2,16,.struct [(0,3),(1,27)],[.d (.int .i64 (0)),.d (.int .i64 (0))],true⟩ .leaf) 221 ⟨1,0,.other,[],false⟩ (.node (.node .leaf 222 ⟨1,8,.func,[.d .nilf],false⟩ .leaf) 223 ⟨1,0,.other,[],false⟩ .leaf)) 224 ⟨1,8,.func,[.d .nilf],false⟩ (.node (.node (.node .leaf 225 ⟨6,64,.struct [(0,134),(1,3),(2,3),(3,3),(4,27),(5,3)],[.nils 218,.d (.int .i64 (0)),.d (.int .i64 (0)),.d (.int .i64 (0)),.d (.int .i64 (0)),.d (.int .i64 (0))],false⟩ .leaf) 226 ⟨6,64,.struct [(0,134),(1,3),(2,3),(3,3),(4,27),(5,3)],[.nils 218,.d (.int .i64 (0)),.d (.int .i64 (0)),.d (.int .i64 (0)),.d (.int .i64 (0)),.d (.int .i64 (0))],false⟩ .leaf) 227 ⟨1,0,.other,[],false⟩ (.node .leaf 228 ⟨1,8,.func,[.d .nilf],false⟩ .leaf))))) 229 ⟨1,8,.func,[.d .nilf],false⟩ (.node (.node (.node (.node (.node (.node .leaf 230 ⟨1,8,.func,[.d .nilf],false⟩ .leaf) 231 ⟨1,8,.func,[.d .nilf],false⟩ .leaf) 232 ⟨6,96,.array 6 9,[.d (.str []),.d (.str []),.d (.str []),.d (.str []),.d (.str []),.d (.str [])],false⟩ (.node (.node .leaf 233 ⟨4,64,.array 4 9,[.d (.str []),.d (.str []),.d (.str []),.d (.str [])],false⟩ .leaf) 234 ⟨1,8,.func,[.d .nilf],false⟩ .leaf)) 235 ⟨1,8,.func,[.d .nilf],false⟩ (.node (.node (.node .leaf 236 ⟨1,8,.func,[.d .nilf],false⟩ .leaf) 237 ⟨1,8,.func,[.d .nilf],false⟩ .leaf) 238 ⟨1,8,.func,[.d .nilf],false⟩ (.node (.node .leaf 239 ⟨1,8,.ptr 141,[.d .nilp],false⟩ .leaf) 240 ⟨1,8,.func,[.d .nilf],false⟩ .leaf))) 241 ⟨1,8,.func,[.d .nilf],false⟩ (.node (.node (.node (.node .leaf 242 ⟨1,8,.func,[.d .nilf],false⟩ .leaf) 243 ⟨1,8,.func,[.d .nilf],false⟩ .leaf) 244 ⟨1,8,.func,[.d .nilf],false⟩ (.node (.node .leaf 245 ⟨1,8,.func,[.d .nilf],false⟩ .leaf) 246 ⟨1,8,.func,[.d .nilf],false⟩ .leaf)) 247 ⟨1,8,.func,[.d .nilf],false⟩ (.node (.node (.node .leaf 248 ⟨1,8,.func,[.d .nilf],false⟩ .leaf) 249 ⟨1,8,.ptr 251,[.d .nilp],false⟩ .leaf) 250 ⟨2,24,.struct [(0,9),(1,3)],[.d (.str []),.d (.int .i64 (0))],false⟩ (.node .leaf 251 ⟨2,24,.struct [(0,9),(1,3)],[.d (.str []),.d (.int .i64 (0))],true⟩ .leaf)))) 252 ⟨1,8,.func,[.d .nilf],false⟩ (.node (.node (.node (.node (.node .leaf 253 ⟨1,8,.func,[.d .nilf],false⟩ .leaf) 254 ⟨1,8,.func,[.d .nilf],false⟩ .leaf) 255 ⟨1,8,.func,[.d .nilf],false⟩ (.node (.node .leaf 256 ⟨1,8,.func,[.d .nilf],false⟩ .leaf) 257 ⟨256,256,.other,[],false⟩ .leaf)) 258 ⟨2,2,.struct [(0,5),(1,5)],[.d (.int .u8 (0)),.d (.int .u8 (0))],false⟩ (.node (.node (.node .leaf 259 ⟨2,2,.struct [(0,5),(1,5)],[.d (.int .u8 (0)),.d (.int .u8 (0))],false⟩ .leaf) 260 ⟨32,32,.array 16 259,[.d (.int .u8 (0)),.d (.int .u8 (0)),.d (.int .u8 (0)),.d (.int .u8 (0)),.d (.int .u8 (0)),.d (.int .u8 (0)),.d (.int .u8 (0)),.d (.int .u8 (0)),.d (.int .u8 (0)),.d (.int .u8 (0)),.d (.int .u8 (0)),.d (.int .u8 (0)),.d (.int .u8 (0)),.d (.int .u8 (0)),.d (.int .u8 (0)),.d (.int .u8 (0)),.d (.int .u8 (0)),.d (.int .u8 (0)),.d (.int .u8 (0)),.d (.int .u8 (0)),.d (.int .u8 (0)),.d (.int .u8 (0)),.d (.int .u8 (0)),.d (.int .u8 (0)),.d (.int .u8 (0)),.d (.int .u8 (0)),.d (.int .u8 (0)),.d (.int .u8 (0)),.d (.int .u8 (0)),.d (.int .u8 (0)),.d (.int .u8 (0)),.d (.int .u8 (0))],false⟩ .leaf) 261 ⟨1,8,.int .u64,[.d (.int .u64 (0))],true⟩ (.node (.node .leaf 262 ⟨1,8,.func,[.d .nilf],false⟩ .leaf) 263 ⟨1,8,.func,[.d .nilf],false⟩ .leaf))) 264 ⟨1,8,.func,[.d .nilf],false⟩ (.node (.node (.node (.node .leaf 265 ⟨1,8,.func,[.d .nilf],false⟩ .leaf) 266 ⟨1,8,.func,[.d .nilf],false⟩ .leaf) 267 ⟨1,8,.func,[.d .nilf],false⟩ (.node (.node .leaf 268 ⟨24,24,.array 24 5,[.d (.int .u8 (0)),.d (.int .u8 (0)),.d (.int .u8 (0)),.d (.int .u8 (0)),.d (.int .u8 (0)),.d (.int .u8 (0)),.d (.int .u8 (0)),.d (.int .u8 (0)),.d (.int .u8 (0)),.d (.int .u8 (0)),.d (.int .u8 (0)),.d (.int .u8 (0)),.d (.int .u8 (0)),.d (.int .u8 (0)),.d (.int .u8 (0)),.d (.int .u8 (0)),.d (.int .u8 (0)),.d (.int .u8 (0)),.d (.int .u8 (0)),.d (.int .u8 (0)),.d (.int .u8 (0)),.d (.int .u8 (0)),.d (.int .u8 (0)),.d (.int .u8 (0))],false⟩ .leaf) 269 ⟨1,8,.func,[.d .nilf],false⟩ .leaf)) 270 ⟨1,8,.func,[.d .nilf],false⟩ (.node (.node (.node .leaf 271 ⟨1,0,.other,[],false⟩ .leaf) 272 ⟨1,8,.func,[.d .nilf],false⟩ .leaf) 273 ⟨1,8,.func,[.d .nilf],false⟩ (.node .leaf 274 ⟨1,0,.other,[],false⟩ .leaf)))))) 275 ⟨1,8,.func,[.d .nilf],false⟩ (.node (.node (.node (.node (.node (.node (.node .leaf 276 ⟨2,24,.struct [(0,9),(1,5)],[.d (.str []),.d (.int .u8 (0))],false⟩ .leaf) 277 ⟨4,48,.array 2 276,[.d (.str []),.d (.int .u8 (0)),.d (.str []),.d (.int .u8 (0))],false⟩ .leaf) 278 ⟨1,8,.func,[.d .nilf],false⟩ (.node (.node .leaf 279 ⟨1,8,.func,[.d .nilf],false⟩ .leaf) 280 ⟨1,8,.func,[.d .nilf],false⟩ .leaf)) 281 ⟨1,8,.func,[.d .nilf],false⟩ (.node (.node (.node .leaf 282 ⟨1,8,.func,[.d .nilf],false⟩ .leaf) 283 ⟨1,8,.func,[.d .nilf],false⟩ .leaf) 284 ⟨1,8,.func,[.d .nilf],false⟩ (.node (.node .leaf 285 ⟨1,8,.func,[.d .nilf],false⟩ .leaf) 286 ⟨1,8,.func,[.d .nilf],false⟩ .leaf))) 287 ⟨1,8,.func,[.d .nilf],false⟩ (.node (.node (.node (.node .leaf 288 ⟨1,8,.func,[.d .nilf],false⟩ .leaf) 289 ⟨1,8,.func,[.d .nilf],false⟩ .leaf) 290 ⟨1,8,.func,[.d .nilf],false⟩ (.node (.node .leaf 291 ⟨1,8,.func,[.d .nilf],false⟩ .leaf) 292 ⟨1,8,.func,[.d .nilf],false⟩ .leaf)) 293 ⟨1,8,.func,[.d .nilf],false⟩ (.node (.node (.node .leaf 294 ⟨1,8,.func,[.d .nilf],false⟩ .leaf) 295 ⟨1,8,.func,[.d .nilf],false⟩ .leaf) 296 ⟨1,8,.func,[.d .nilf],false⟩ (.node .leaf 297 ⟨1,8,.func,[.d .nilf],false⟩ .leaf)))) 298 ⟨1,8,.func,[.d .nilf],false⟩ (.node (.node (.node (.node (.node .leaf 299 ⟨1,8,.func,[.d .nilf],false⟩ .leaf) 300 ⟨1,8,.other,[.d .nilp],false⟩ .leaf) 301 ⟨1,8,.func,[.d .nilf],false⟩ (.node (.node .leaf 302 ⟨1,4,.int .u32,[.d (.int .u32 (0))],true⟩ .leaf) 303 ⟨1,8,.func,[.d .nilf],false⟩ .leaf)) 304 ⟨20,160,.array 20 131,[.d (.int .u64 (0)),.d (.int .u64 (0)),.d (.int .u64 (0)),.d (.int .u64 (0)),.d (.int .u64 (0)),.d (.int .u64 (0)),.d (.int .u64 (0)),.d (.int .u64 (0)),.d (.int .u64 (0)),.d (.int .u64 (0)),.d (.int .u64 (0)),.d (.int .u64 (0)),.d (.int .u64 (0)),.d (.int .u64 (0)),.d (.int .u64 (0)),.d (.int .u64 (0)),.d (.int .u64 (0)),.d (.int .u64 (0)),.d (.int .u64 (0)),.d (.int .u64 (0))],false⟩ (.node (.node (.node .leaf 305 ⟨65,65,.other,[],false⟩ .leaf) 306 ⟨1,8,.func,[.d .nilf],false⟩ .leaf) 307 ⟨1,8,.func,[.d .nilf],false⟩ (.node (.node .leaf 308 ⟨1,8,.func,[.d .nilf],false⟩ .leaf) 309 ⟨1,8,.func,[.d .nilf],false⟩ .leaf))) 310 ⟨1,0,.other,[],false⟩ (.node (.node (.node (.node .leaf 311 ⟨1,8,.func,[.d .nilf],false⟩ .leaf) 312 ⟨1,0,.other,[],false⟩ .leaf) 313 ⟨1,8,.func,[.d .nilf],false⟩ (.node (.node .leaf 314 ⟨1,8,.func,[.d .nilf],false⟩ .leaf) 315 ⟨1,8,.func,[.d .nilf],false⟩ .leaf)) 316 ⟨1,8,.func,[.d .nilf],false⟩ (.node (.node (.node .leaf 317 ⟨1,8,.func,[.d .nilf],false⟩ .leaf) 318 ⟨256,256,.other,[],false⟩ .leaf) 319 ⟨256,256,.other,[],false⟩ (.node .leaf 320 ⟨1,0,.other,[],false⟩ .leaf))))) 321 ⟨1,8,.func,[.d .nilf],false⟩ (.node (.node (.node (.node (.node (.node .leaf 322 ⟨1,8,.func,[.d .nilf],false⟩ .leaf) 323 ⟨1,8,.ptr 319,[.d .nilp],false⟩ .leaf) 324 ⟨5,80,.array 5 9,[.d (.str []),.d (.str []),.d (.str []),.d (.str []),.d (.str [])],false⟩ (.node (.node .leaf 325 ⟨1,0,.other,[],false⟩ .leaf) 326 ⟨1,8,.func,[.d .nilf],false⟩ .leaf)) 327 ⟨1,8,.func,[.d .nilf],false⟩ (.node (.node (.node .leaf 328 ⟨1,0,.other,[],false⟩ .leaf) 329 ⟨1,8,.func,[.d .nilf],false⟩ .leaf) 330 ⟨1,0,.other,[],false⟩ (.node (.node .leaf 331 ⟨1,8,.func,[.d .nilf],false⟩ .leaf) 332 ⟨1,8,.func,[.d .nilf],false⟩ .leaf))) 333 ⟨32,32,.array 32 5,[.d (.int .u8 (0)),.d (.int .u8 (0)),.d (.int .u8 (0)),.d (.int .u8 (0)),.d (.int .u8 (0)),.d (.int .u8 (0)),.d (.int .u8 (0)),.d (.int .u8 (0)),.d (.int .u8 (0)),.d (.int .u8 (0)),.d (.int .u8 (0)),.d (.int .u8 (0)),.d (.int .u8 (0)),.d (.int .u8 (0)),.d (.int .u8 (0)),.d (.int .u8 (0)),.d (.int .u8 (0)),.d (.int .u8 (0)),.d (.int .u8 (0)),.d (.int .u8 (0)),.d (.int .u8 (0)),.d (.int .u8 (0)),.d (.int .u8 (0)),.d (.int .u8 (0)),.d (.int .u8 (0)),.d (.int .u8 (0)),.d (.int .u8 (0)),.d (.int .u8 (0)),.d (.int .u8 (0)),.d (.int .u8 (0)),.d (.int .u8 (0)),.d (.int .u8 (0))],false⟩ (.node (.node (.node (.node .leaf 334 ⟨64,64,.array 64 5,[.d (.int .u8 (0)),.d (.int .u8 (0)),.d (.int .u8 (0)),.d (.int .u8 (0)),.d (.int .u8 (0)),.d (.int .u8 (0)),.d (.int .u8 (0)),.d (.int .u8 (0)),.d (.int .u8 (0)),.d (.int .u8 (0)),.d (.int .u8 (0)),.d (.int .u8 (0)),.d (.int .u8 (0)),.d (.int .u8 (0)),.d (.int .u8 (0)),.d (.int .u8 (0)),.d (.int .u8 (0)),.d (.int .u8 (0)),.d (.int .u8 (0)),.d (.int .u8 (0)),.d (.int .u8 (0)),.d (.int .u8 (0)),.d (.int .u8 (0)),.d (.int .u8 (0)),.d (.int .u8 (0)),.d (.int .u8 (0)),.d (.int .u8 (0)),.d (.int .u8 (0)),.d (.int .u8 (0)),.d (.int .u8 (0)),.d (.int .u8 (0)),.d (.int .u8 (0)),.d (.int .u8 (0)),.d (.int .u8 (0)),.d (.int .u8 (0)),.d (.int .u8 (0)),.d (.int .u8 (0)),.d (.int .u8 (0)),.d (.int .u8 (0)),.d (.int .u8 (0)),.d (.int .u8 (0)),.d (.int .u8 (0)),.d (.int .u8 (0)),.d (.int .u8 (0)),.d (.int .u8 (0)),.d (.int .u8 (0)),.d (.int .u8 (0)),.d (.int .u8 (0)),.d (.int .u8 (0)),.d (.int .u8 (0)),.d (.int .u8 (0)),.d (.int .u8 (0)),.d (.int .u8 (0)),.d (.int .u8 (0)),.d (.int .u8 (0)),.d (.int .u8 (0)),.d (.int .u8 (0)),.d (.int .u8 (0)),.d (.int .u8 (0)),.d (.int .u8 (0)),.d (.int .u8 (0)),.d (.int .u8 (0)),.d (.int .u8 (0)),.d (.int .u8 (0))],false⟩ .leaf) 335 ⟨1,8,.func,[.d .nilf],false⟩ .leaf) 336 ⟨1,8,.func,[.d .nilf],false⟩ (.node (.node .leaf 337 ⟨1,8,.func,[.d .nilf],false⟩ .leaf) 338 ⟨1,8,.func,[.d .nilf],false⟩ .leaf)) 339 ⟨1,8,.func,[.d .nilf],false⟩ (.node (.node (.node .leaf 340 ⟨1,8,.func,[.d .nilf],false⟩ .leaf) 341 ⟨1,0,.other,[],false⟩ .leaf) 342 ⟨1,8,.func,[.d .nilf],false⟩ (.node .leaf 343 ⟨1,8,.int .i64,[.d (.int .i64 (0))],true⟩ .leaf)))) 344 ⟨1,8,.func,[.d .nilf],false⟩ (.node (.node (.node (.node (.node .leaf 345 ⟨1,8,.ptr 350,[.d .nilp],false⟩ .leaf) 346 ⟨1,8,.func,[.d .nilf],false⟩ .leaf) 347 ⟨1,8,.func,[.d .nilf],false⟩ (.node (.node .leaf 348 ⟨1,8,.func,[.d .nilf],false⟩ .leaf) 349 ⟨3,48,.struct [(0,9),(1,9),(2,206)],[.d (.str []),.d (.str []),.d .nili],false⟩ .leaf)) 350 ⟨3,48,.struct [(0,9),(1,9),(2,206)],[.d (.str []),.d (.str []),.d .nili],false⟩ (.node (.node (.node .leaf 351 ⟨1,8,.func,[.d .nilf],false⟩ .leaf) 352 ⟨1,8,.ptr 354,[.d .nilp],false⟩ .leaf) 353 ⟨1,16,.struct [(0,9)],[.d (.str [])],false⟩ (.node (.node .leaf 354 ⟨1,16,.struct [(0,9)],[.d (.str [])],false⟩ .leaf) 355 ⟨4,40,.struct [(0,17),(1,17),(2,17),(3,9)],[.d .nilp,.d .nilp,.d .nilp,.d (.str [])],false⟩ .leaf))) 356 ⟨4,40,.struct [(0,17),(1,17),(2,17),(3,9)],[.d .nilp,.d .nilp,.d .nilp,.d (.str [])],false⟩ (.node (.node (.node (.node .leaf 357 ⟨0,0,.other,[],false⟩ .leaf) 358 ⟨0,0,.other,[],false⟩ .leaf) 359 ⟨0,0,.other,[],false⟩ (.node (.node .leaf 360 ⟨1,1,.int .u8,[.d (.int .u8 (0))],true⟩ .leaf) 361 ⟨1,1,.int .u8,[.d (.int .u8 (0))],true⟩ .leaf)) 362 ⟨1,8,.func,[.d .nilf],false⟩ (.node (.node (.node .leaf 363 ⟨1,4,.int .i32,[.d (.int .i32 (0))],true⟩ .leaf) 364 ⟨1,4,.int .i32,[.d (.int .i32 (0))],true⟩ .leaf) 365 ⟨11,48,.struct [(0,12),(1,12),(2,302),(3,360),(4,5),(5,5),(6,361),(7,362),(8,133),(9,363),(10,364)],[.d (.int .u64 (0)),.d (.int .u64 (0)),.d (.int .u32 (0)),.d (.int .u8 (0)),.d (.int .u8 (0)),.d (.int .u8 (0)),.d (.int .u8 (0)),.d .nilf,.d .nilp,.d (.int .i32 (0)),.d (.int .i32 (0))],false⟩ (.node .leaf 366 ⟨11,48,.struct [(0,12),(1,12),(2,302),(3,360),(4,5),(5,5),(6,361),(7,362),(8,133),(9,363),(10,364)],[.d (.int .u64 (0)),.d (.int .u64 (0)),.d (.int .u32 (0)),.d (.int .u8 (0)),.d (.int .u8 (0)),.d (.int .u8 (0)),.d (.int .u8 (0)),.d .nilf,.d .nilp,.d (.int .i32 (0)),.d (.int .i32 (0))],false⟩ .leaf))))))))
theorem Z8:TabOK Zko Tryz.prog:=by unfold TabOK;kernel_rfl
theorem mixed:Tryz.prog.follows .mixedOrders=true:=by kernel_rfl
end Go.PM.Lex
end

section
noncomputable section
namespace Go.PM.Lex
open Go.Proofs
abbrev GG (w0:World) (nG:Nat):GE:=⟨Tryz.prog,w0,nG⟩
theorem pc {w0:World} {nG:Nat} {tbl:Tbl} {sp:Zr} {g:FuncId} {fn:Func} {c:Code} (ht:TblOK (GG w0 nG) tbl) (hf:Tryz.prog.funcs[g]?=some fn) (h:∀args σ K,sp args σ K→∃loops keep own,σ.bx.length≤keep∧args.length≤fn.ntmps∧WF (ctx Zko tbl loops) fn keep own args σ K) (hb:fn.body=some c:=by rfl) (hn:(fn.name == "runtime.NumGoroutine") = false:=by kernel_rfl) (hk:ZL fn.ntmps c=true:=by kernel_rfl):PCalls (GG w0 nG) g sp:=ZbE Z8 mixed ht hf hb hn hk h
theorem ZeA (s:Bs) (pos:Nat):decodeL s pos=Lib.decodeL (s.drop pos):=by
 have:=Lib.decodeL_drop ⟨s.toArray⟩ pos;simpa [decodeL] using this.symm
def Xg:Zr:=fun args σ K=>match args with
 | [.d (.str s),.d (.str p)]=>K (.ret (.d (.bool (Lib.hasPrefix s p)))) σ
 | _=>False
def XL:Zr:=fun args σ K=>match args with
 | [.d (.str s),.d (.int .u8 c)]=>K (.ret (.d (.int .i64 (Lib.indexByte s c.toNat.toUInt8)))) σ
 | _=>False
def ZeB:Zr:=fun args σ K=>match args with
 | [.d (.str s),.d (.str p)]=>s.length<4294967281∧K (.ret (.d (.int .i64 (Lib.index s p)))) σ
 | _=>False
def JJ:Zr:=fun args σ K=>match args with
 | [.d (.int .i32 c)]=>K (.ret (.d (.int .i64 (Lib.runeLen c)))) σ
 | _=>False
def Uv:Zr:=fun args σ K=>match args with
 | [.d (.str s),.d (.str p)]=>(p.length<4294967281∧∀(j:Nat) b,p[j]?=some b→b.toNat<128)∧K (.ret (.d (.str (Lib.trimLeftS s p)))) σ
 | _=>False
theorem XG:Za Xg:=fun args σ K K' hK h=>by
 unfold Xg at h ⊢;split at h <;> first | exact hK _ _ h | exact h.elim
theorem W5:Za XL:=fun args σ K K' hK h=>by
 unfold XL at h ⊢;split at h <;> first | exact hK _ _ h | exact h.elim
theorem Ziq:Za ZeB:=fun args σ K K' hK h=>by
 unfold ZeB at h ⊢;split at h <;> first | exact ⟨h.1,hK _ _ h.2⟩ | exact h.elim
theorem ZfI:Za JJ:=fun args σ K K' hK h=>by
 unfold JJ at h ⊢;split at h <;> first | exact hK _ _ h | exact h.elim
theorem ZeC:Za Uv:=fun args σ K K' hK h=>by
 unfold Uv at h ⊢;split at h <;> first | exact ⟨h.1,hK _ _ h.2⟩ | exact h.elim
abbrev VH (k:Int) (x:Bs) (n a f:Int):PV:=.agg [.d (.int .u8 k),.d (.str x),.d (.int .i64 n),.d (.int .i64 a),.d (.int .i64 f)]
abbrev Zir (a e:Int):PV:=.agg [.d (.int .i64 a),.d (.int .i64 e)]
def NR.t:NR→Tok | .bad _ _=>⟨0,[],0,0,0⟩ | .tok t=>t
def NR.p:NR→Nat | .bad p _=>p | .tok _=>0
def NR.e:NR→Nat | .bad _ e=>e | .tok _=>0
abbrev Zyg (x:NR):PV:=.tuple [VH x.t.kind x.t.text x.t.n x.t.at' x.t.fin,Zir x.p x.e]
def VQ:Zr:=fun args σ K=>match args,σ with
 | [.d (.int .i32 c)],⟨[],[],0⟩=>(-1≤c∧c<2147483648)∧K (.ret (.d (.bool (Zf c)))) ⟨[],[],0⟩
 | _,_=>False
def Wi:Zr:=fun args σ K=>match args,σ with
 | [.d (.int .i32 c)],⟨[],[],0⟩=>K (.ret (.d (.bool (Zj c)))) ⟨[],[],0⟩
 | _,_=>False
def ZaI:Zr:=fun args σ K=>match args,σ with
 | [.ptr 0 0,.d (.int .i64 at')],⟨[.cells t [.d (.str s),.d (.int .i64 a)]],[],0⟩=>(0≤at'∧s.length<4611686018427387904) ∧
   K (.ret (.tuple [.d (.int .i32 (pk (s.drop at'.toNat)).1),.d (.int .i64 (pk (s.drop at'.toNat)).2)])) ⟨[.cells t [.d (.str s),.d (.int .i64 a)]],[],0⟩
 | _,_=>False
def ZeD:Zr:=fun args σ K=>match args,σ with
 | [.ptr 0 0],⟨[.cells t [.d (.str s),.d (.int .i64 a)]],[],0⟩=>(0≤a∧a≤s.length∧s.length<4294967281) ∧
   K (.ret (VH 1 ((s.drop a.toNat).take (XA (s.drop a.toNat))) 0 a (a+XA (s.drop a.toNat)))) ⟨[.cells t [.d (.str s),.d (.int .i64 a)]],[],0⟩
 | _,_=>False
def ZcD:Zr:=fun args σ K=>match args,σ with
 | [.ptr 0 0],⟨[.cells t [.d (.str s),.d (.int .i64 a)]],[],0⟩=>(0≤a∧a≤s.length∧s.length<4294967281) ∧
   K (.ret (.d (.bool (Zt (s.drop a.toNat)).1))) ⟨[.cells t [.d (.str s),.d (.int .i64 (a+(Zt (s.drop a.toNat)).2))]],[],0⟩
 | _,_=>False
def Zgm:Zr:=fun args σ K=>match args,σ with
 | [.ptr 0 0],⟨[.cells t [.d (.str s),.d (.int .i64 a)]],[],0⟩=>(0≤a∧a<s.length∧s.length<4294967281) ∧
   K (.ret (.d (.int .i64 (Yh (s.drop a.toNat))))) ⟨[.cells t [.d (.str s),.d (.int .i64 a)]],[],0⟩
 | _,_=>False
theorem Vf:Za VQ:=fun args σ K K' hK h=>by
 unfold VQ at h ⊢;split at h <;> first | exact ⟨h.1,hK _ _ h.2⟩ | exact h.elim
theorem Xh:Za Wi:=fun args σ K K' hK h=>by
 unfold Wi at h ⊢;split at h <;> first | exact hK _ _ h | exact h.elim
theorem Vs:Za ZaI:=fun args σ K K' hK h=>by
 unfold ZaI at h ⊢;split at h <;> first | exact ⟨h.1,hK _ _ h.2⟩ | exact h.elim
theorem ZeE:Za ZeD:=fun args σ K K' hK h=>by
 unfold ZeD at h ⊢;split at h <;> first | exact ⟨h.1,hK _ _ h.2⟩ | exact h.elim
theorem Zis:Za ZcD:=fun args σ K K' hK h=>by
 unfold ZcD at h ⊢;split at h <;> first | exact ⟨h.1,hK _ _ h.2⟩ | exact h.elim
theorem Zkp:Za Zgm:=fun args σ K K' hK h=>by
 unfold Zgm at h ⊢;split at h <;> first | exact ⟨h.1,hK _ _ h.2⟩ | exact h.elim
end Go.PM.Lex
end
end

section
noncomputable section
namespace Go.PM.Lex
open Go.Proofs
def Zi (l:Bs):List (List D):=l.map fun b=>[.int .u8 b.toNat]
def Vt:Zr:=fun args σ K=>match args,σ with
 | [.d (.str l),.d (.int .i64 base),.d (.int .i64 bits)],⟨[],[],0⟩=>∃hex:Bool,((l.all (Xx hex)=true∧l.length<4294967281)∧base=(if hex then 16 else 10)∧bits=(if hex then 64 else 63)) ∧
   ((l=[]∨(if hex then 18446744073709551616 else 9223372036854775808)≤XB (if hex then 16 else 10) l)→∀n,K (.ret (.tuple [.d (.int .u64 n),.iface 345 .undef])) ⟨[],[],0⟩) ∧
   (¬(l=[]∨(if hex then 18446744073709551616 else 9223372036854775808)≤XB (if hex then 16 else 10) l)→K (.ret (.tuple [.d (.int .u64 (XB (if hex then 16 else 10) l)),.d .nili])) ⟨[],[],0⟩)
 | _,_=>False
theorem ZdL:Za Vt:=fun args σ K K' hK h=>by
 unfold Vt at h ⊢
 split at h
 ·obtain ⟨x,h1,h2,h3⟩:=h;exact ⟨x,h1,fun g n=>hK _ _ (h2 g n),fun g=>hK _ _ (h3 g)⟩
 ·exact h.elim
def Wj:Zr:=fun args σ K=>match args,σ with
 | [.ptr 0 0,.d (.int .u8 c)],⟨[.cells t [p,.sl 0 e rows]],[0],1⟩=>((p=.d .nilp∨p=.ptr 0 0)∧t=82∧e=5∧(∀r∈rows,r.length=1)∧rows.length<70368744177664) ∧
   K (.ret (.d .nili)) ⟨[.cells t [.ptr 0 0,.sl 0 e (rows++[[.int .u8 c]])]],[0],1⟩
 | _,_=>False
theorem Jn:Za Wj:=fun args σ K K' hK h=>by
 unfold Wj at h ⊢;split at h <;> first | exact ⟨h.1,hK _ _ h.2⟩ | exact h.elim
def Wk:Zr:=fun args σ K=>match args,σ with
 | [.ptr 0 0,.d (.int .i32 c)],⟨[.cells t [p,.sl 0 e rows]],[0],1⟩=>((p=.d .nilp∨p=.ptr 0 0)∧t=82∧e=5∧(∀r∈rows,r.length=1)∧rows.length<70368744177664∧0≤c∧c≤1114111) ∧
   K (.ret (.tuple [.d (.int .i64 (((rows++Zi (Lib.encodeRune c)).length:Int) - (rows.length:Int))),.d .nili])) ⟨[.cells t [.ptr 0 0,.sl 0 e (rows++Zi (Lib.encodeRune c))]],[0],1⟩
 | _,_=>False
theorem Jo:Za Wk:=fun args σ K K' hK h=>by
 unfold Wk at h ⊢;split at h <;> first | exact ⟨h.1,hK _ _ h.2⟩ | exact h.elim
def Zad:Zr:=fun args σ K=>match args,σ with
 | [.ptr 0 0],⟨[.cells t [p,.sl 0 e rows]],[0],1⟩=>∃l:Bs,(rows=Zi l∧t=82∧e=5∧(p=.d .nilp∨p=.ptr 0 0)∧l.length<70368744177664)∧K (.ret (.d (.str l))) ⟨[.cells t [p,.d (.sl rows)]],[],0⟩
 | _,_=>False
theorem ZbF:Za Zad:=fun args σ K K' hK h=>by
 unfold Zad at h ⊢
 split at h
 ·obtain ⟨x,h1,h2⟩:=h;exact ⟨x,h1,hK _ _ h2⟩
 ·exact h.elim
def ZeF (s:Bs) (c:Int):Int:=if c<128 then Lib.indexByte s c.toNat.toUInt8 else -1
def XM:Zr:=fun args σ K=>match args,σ with
 | [.d (.str s),.d (.int .i32 c)],⟨[],[],0⟩=>((s=[110,116,34,92]∨s=[10,9,34,92])∧0≤c∧c≤1114111)∧K (.ret (.d (.int .i64 (ZeF s c)))) ⟨[],[],0⟩
 | _,_=>False
theorem Jp:Za XM:=fun args σ K K' hK h=>by
 unfold XM at h ⊢;split at h <;> first | exact ⟨h.1,hK _ _ h.2⟩ | exact h.elim
def Zae:Zr:=fun args σ K=>match args,σ with
 | [.ptr 0 0],⟨[.cells t [.d (.str s),.d (.int .i64 a)]],[],0⟩=>(0≤a∧a<s.length∧s.length<4294967281) ∧
   K (.ret (Zyg (XI a.toNat (s.drop a.toNat)))) ⟨[.cells t [.d (.str s),.d (.int .i64 a)]],[],0⟩
 | _,_=>False
def Zgn:Zr:=fun args σ K=>match args,σ with
 | [.ptr 0 0],⟨[.cells t [.d (.str s),.d (.int .i64 a)]],[],0⟩=>(0≤a∧a<s.length∧s.length<4294967281) ∧
   K (.ret (Zyg (ZaQ a.toNat (s.drop a.toNat)))) ⟨[.cells t [.d (.str s),.d (.int .i64 a)]],[],0⟩
 | _,_=>False
def Zgo:Zr:=fun args σ K=>match args,σ with
 | [.ptr 0 0,.d (.bool room)],⟨[.cells t [.d (.str s),.d (.int .i64 a)]],[],0⟩=>(0≤a∧a<s.length∧s.length<4294967281) ∧
   K (.ret (Zyg (Xn a.toNat (s.drop a.toNat) room))) ⟨[.cells t [.d (.str s),.d (.int .i64 a)]],[],0⟩
 | _,_=>False
theorem Zhe:Za Zae:=fun args σ K K' hK h=>by
 unfold Zae at h ⊢;split at h <;> first | exact ⟨h.1,hK _ _ h.2⟩ | exact h.elim
theorem Zkq:Za Zgn:=fun args σ K K' hK h=>by
 unfold Zgn at h ⊢;split at h <;> first | exact ⟨h.1,hK _ _ h.2⟩ | exact h.elim
theorem Zkr:Za Zgo:=fun args σ K K' hK h=>by
 unfold Zgo at h ⊢;split at h <;> first | exact ⟨h.1,hK _ _ h.2⟩ | exact h.elim
end Go.PM.Lex
end
end

section
namespace Go.PM.Lex
open Go.Proofs
variable {w0:World} {nG:Nat}
theorem orB (n:Fin 128):Zk .or .i32 (n.val:Int) 32=((n.val ||| 32:Nat):Int):=by rw [Ys];revert n;decide +kernel
theorem orM:Zk .or .i32 (-1) 32=-1:=by rw [Ys];decide +kernel
theorem orL:∀n:Fin 128,(97≤(n.val ||| 32)∧(n.val ||| 32)≤122)↔((97≤n.val∧n.val≤122)∨(65≤n.val∧n.val≤90)):=by decide +kernel
theorem ZoP {c:Int} (h0:-1≤c) (h1:c<128):(97≤Zk .or .i32 c 32∧Zk .or .i32 c 32≤122)↔((97≤c∧c≤122)∨(65≤c∧c≤90)):=by
 by_cases hc:c=-1
 ·subst hc;rw [orM];omega
 ·obtain ⟨n,rfl⟩:∃n:Nat,c=n:=⟨c.toNat,by omega⟩
  have hn:n<128:=by omega
  have h2:=orB ⟨n,hn⟩;have h3:=orL ⟨n,hn⟩;simp only at h2 h3;rw [h2];omega
theorem ZbG {K:PEnd→St→Prop} {b b':Bool} {σ:St} (h:K (.ret (.d (.bool b))) σ) (h1:b=b'):K (.ret (.d (.bool b'))) σ:=by subst h1;exact h
theorem Zhf:PCalls (GG w0 nG) 268 Wi:=by
 refine pc (tbl:=[]) trivial Tryz.func268 ?_
 ·exact m72
theorem ZbH:PCalls (GG w0 nG) 210 VQ:=by
 refine pc (tbl:=[]) trivial Tryz.func210 ?_
 ·intro args σ K h
  unfold VQ at h
  split at h
  ·rename_i c
   obtain ⟨⟨h0,_⟩,h⟩:=h;refine ⟨Zb [],0,false,by decide,Ta rfl,?_⟩
   repeat' ((conv=>whnf);refine ZAf (fun h1=>?_) (fun h1=>?_))
   all_goals (conv=>whnf)
   all_goals (try (have hl:=ZoP (c:=c) h0 (by omega)))
   all_goals (refine ZbG h ?_;simp only [Zf,TG,decide_eq_false_iff_not,decide_eq_decide];omega)
  ·exact h.elim
end Go.PM.Lex
end

section
namespace Go.PM.Lex
theorem ZzD (r:Bs):Lib.hasPrefix r [239,191,189]=true↔2<r.length∧(r.getD 0 0).toNat=239∧(r.getD 1 0).toNat=191∧(r.getD 2 0).toNat=189:=by
 unfold Lib.hasPrefix
 match r with
 | []=>simp
 | [a]=>simp [List.isPrefixOf]
 | [a,b]=>simp [List.isPrefixOf]
 | a::b::c::l =>
  have ha:=UInt8.toNat_inj (a:=239) (b:=a);have hb:=UInt8.toNat_inj (a:=191) (b:=b);have hc:=UInt8.toNat_inj (a:=189) (b:=c);simp only [List.isPrefixOf,Bool.and_true,Tl,beq_iff_eq,Td,Se,Sr];rw [← ha,← hb,← hc];have e1:(239:UInt8).toNat=239:=rfl;have e2:(191:UInt8).toNat=191:=rfl;have e3:(189:UInt8).toNat=189:=rfl;rw [e1,e2,e3];omega
theorem Zyh (r:Bs) (hv:(Lib.decodeL r).1=65533):(Lib.hasPrefix r [239,191,189]=true∧(Lib.decodeL r).2=3)∨(¬Lib.hasPrefix r [239,191,189]=true∧(Lib.decodeL r).2=1):=by
 rw [ZzD];rw [Lib.decodeL_N] at hv ⊢;have k0:=(r.getD 0 0).toNat_lt;have k1:=(r.getD 1 0).toNat_lt;have k2:=(r.getD 2 0).toNat_lt;have k3:=(r.getD 3 0).toNat_lt
 by_cases hp:2<r.length∧(r.getD 0 0).toNat=239∧(r.getD 1 0).toNat=191∧(r.getD 2 0).toNat=189
 ·left
  refine ⟨hp,?_⟩;obtain ⟨p0,p1,p2,p3⟩:=hp;rw [p1,p2,p3];unfold Lib.decodeN
  have hl:1<r.length:=by omega
  simp [p0,hl]
 ·right
  refine ⟨hp,?_⟩;rcases Lib.decodeN_shape r.length (r.getD 0 0).toNat (r.getD 1 0).toNat (r.getD 2 0).toNat (r.getD 3 0).toNat with ⟨c,e⟩ | ⟨c1,c2,c3,cv,e⟩ | ⟨c1,c2,c3,c4,cv,cs,e⟩ | ⟨c1,c2,c3,c4,c5,cv,cw,e⟩ | e
  all_goals (rw [e] at hv)
  all_goals (dsimp only at hv)
  ·omega
  ·omega
  ·exact absurd ⟨c2,by omega,by omega,by omega⟩ hp
  ·omega
  ·rw [e]
theorem Zgp:pk []=(-1,1):=by simp [pk]
theorem ZlG (r:Bs) (h0:0<r.length) (hv:¬(Lib.decodeL r).1=65533):pk r=(((Lib.decodeL r).1:Int),(Lib.decodeL r).2):=by
 have hne:r≠[]:=fun h=>by subst h;simp at h0
 have:Lib.decodeL r≠(65533,1):=fun h=>hv (by rw [h])
 simp [pk,hne,this]
theorem ZoQ (r:Bs) (h0:0<r.length) (hp:Lib.hasPrefix r [239,191,189]=true) (hv:(Lib.decodeL r).1=65533):pk r=(65533,3):=by
 have hne:r≠[]:=fun h=>by subst h;simp at h0
 rcases Zyh r hv with ⟨_,h2⟩ | ⟨h1,_⟩
 ·have:Lib.decodeL r≠(65533,1):=fun h=>by rw [h] at h2;simp at h2
  simp [pk,hne,this,hv,h2]
 ·exact absurd hp h1
theorem Zto (r:Bs) (hp:¬Lib.hasPrefix r [239,191,189]=true) (hv:(Lib.decodeL r).1=65533):pk r=(-1,1):=by
 rcases Zyh r hv with ⟨h1,h2⟩ | ⟨_,h2⟩
 ·exact absurd h1 hp
 ·have:Lib.decodeL r=(65533,1):=Prod.ext hv h2;simp [pk,this]
theorem Zit (r:Bs):1≤(pk r).2∧(pk r).2≤4:=by
 unfold pk
 split
 ·simp
 ·rename_i h
  simp only [not_or] at h;simp only;rw [Lib.decodeL_N];rcases Lib.decodeN_shape r.length (r.getD 0 0).toNat (r.getD 1 0).toNat (r.getD 2 0).toNat (r.getD 3 0).toNat with ⟨c,e⟩ | ⟨c1,c2,c3,cv,e⟩ | ⟨c1,c2,c3,c4,cv,cs,e⟩ | ⟨c1,c2,c3,c4,c5,cv,cw,e⟩ | e
  all_goals (rw [e];simp)
theorem WK (r:Bs):-1≤(pk r).1∧(pk r).1≤1114111:=by
 unfold pk
 split
 ·simp
 ·simp only;exact m79
theorem ZoR (r:Bs) (h:(pk r).1≠-1):1≤(pk r).2∧(pk r).2≤r.length∧r≠[]:=by
 have hl:=Zit r;unfold pk at h hl ⊢
 split at h
 ·exact absurd rfl h
 ·rename_i h1
  simp only [not_or] at h1;rw [Tc (by simp only [not_or];exact h1)] at hl ⊢;exact ⟨hl.1,Lib.decodeL_le r h1.1,h1.1⟩
end Go.PM.Lex
end

section
namespace Go.PM.Lex
open Go.Proofs
variable {w0:World} {nG:Nat}
theorem JK {s:Bs} {n:Nat}:cut s n s.length=s.drop n:=by simp [cut]
noncomputable def Zt9:Tbl:=[(266,JJ),(267,Xg)]
theorem Zua (ht:TblOK (GG w0 nG) Zt9):PCalls (GG w0 nG) 209 ZaI:=by
 refine pc ht Tryz.func209 ?_;intro args σ K h
 unfold ZaI at h
 split at h
 ·rename_i at' t s a
  obtain ⟨⟨h0,hs⟩,h⟩:=h;refine ⟨Zb [(2,⟨[],[0,1,21],fun vs σ=>vs=[]∧σ=⟨[.cells t [.d (.str s),.d (.int .i64 a)],.iter (s.drop at'.toNat) 0],[],0⟩,fun _ _=>0⟩)],1,false,by simp,Ta rfl,?_⟩;have hcut:cut s (min at' (s.length:Int)).toNat s.length=s.drop at'.toNat:=by
   rw [JK]
   by_cases hl:at'≤s.length
   ·rw [Int.min_eq_left hl]
   ·rw [Int.min_eq_right (by omega),Tz (by omega),Tz (by omega)]
  conv=>whnf
  refine ⟨by omega,?_⟩;(conv=>whnf);refine ⟨by omega,?_⟩;(conv=>whnf);refine ⟨⟨rfl,?_⟩,?_⟩
  ·rw [hcut];rfl
  intro vs σ1 hI
  obtain ⟨rfl,rfl⟩:=hI;refine ZAf (fun h1=>?_) (fun h1=>?_)
  ·conv=>whnf
   refine ZAh (fun h2=>?_) (fun h2=>?_)
   ·conv=>whnf
    rw [ZeA] at h2;have hl:0<(s.drop at'.toNat).length:=by simpa using h1
    rw [Sh] at h2;have hne:¬(Lib.decodeL (s.drop at'.toNat)).1=65533:=by omega
    rw [ZlG _ hl hne] at h;rw [ZeA,Sh];have hr:=Lib.runeLen_decode _ hne;rw [hr];exact h
   ·conv=>whnf
    rw [ZeA] at h2;have hl:0<(s.drop at'.toNat).length:=by simpa using h1
    have hd:(Lib.decodeL (s.drop at'.toNat)).1=65533:=by rw [Sh] at h2;omega
    refine ⟨h0,by simp at hl;omega,?_⟩;(conv=>whnf);refine ZAi (fun h3=>?_) (fun h3=>?_)
    ·conv=>whnf
     rw [JK] at h3;rw [ZoQ _ hl h3 hd] at h;rw [ZeA,Sh,hd];exact h
    ·conv=>whnf
     rw [JK] at h3;rw [Zto _ (by rw [h3];simp) hd] at h;exact h
  ·conv=>whnf
   have:s.drop at'.toNat=[]:=by simp at h1;exact Tz (by omega)
   rw [this,Zgp] at h;exact h
 ·exact h.elim
end Go.PM.Lex
end

section
namespace Go.PM.Lex
open Go.Proofs
variable {w0:World} {nG:Nat}
def muI (B:Int):List PV→St→Nat:=fun vs _=>match vs with | .d (.int _ n)::_=>(B - n).toNat | _=>0
noncomputable def Zub:Tbl:=[(267,Xg),(215,XL)]
theorem Zuc (ht:TblOK (GG w0 nG) Zub):PCalls (GG w0 nG) 279 Zgm:=by
 refine pc ht Tryz.func279 ?_;intro args σ K h
 unfold Zgm at h
 split at h
 ·rename_i t s a
  obtain ⟨⟨h0,h1,hs⟩,h⟩:=h;refine ⟨Zb [(3,⟨[16],[0,3,15],fun vs σ=>σ=⟨[.cells t [.d (.str s),.d (.int .i64 a)]],[],0⟩∧∃i:Nat,i≤5∧vs=[.d (.int .i64 i)]∧(twos.take i).any (Lib.hasPrefix (s.drop a.toNat))=false,muI 5⟩)],1,false,by simp,Ta rfl,?_⟩;(conv=>whnf);refine ⟨h0,by omega,?_⟩;(conv=>whnf);rw [JK];refine ⟨⟨rfl,0,by omega,rfl,rfl⟩,?_⟩;intro vs σ1 hI
  obtain ⟨rfl,i,hi,rfl,hn⟩:=hI
  match i,hi,hn with
  | 0,hi,hn =>
   conv=>whnf
   refine ⟨by omega,by omega,?_⟩;(conv=>whnf);refine ZAi (fun h2=>?_) (fun h2=>?_)
   ·exact m40
   ·conv=>whnf
    refine oiO ?_;(conv=>whnf);refine ⟨⟨rfl,1,by omega,rfl,?_⟩,?_⟩
    ·have h2':Lib.hasPrefix (s.drop a.toNat) (twos.getD 0 [])=false:=h2;exact m71
    ·exact (show (5 - (((0:Nat):Int)+1)).toNat<(5 - ((0:Nat):Int)).toNat by omega)
  | 1,hi,hn =>
   conv=>whnf
   refine ⟨by omega,by omega,?_⟩;(conv=>whnf);refine ZAi (fun h2=>?_) (fun h2=>?_)
   ·exact m40
   ·conv=>whnf
    refine oiO ?_;(conv=>whnf);refine ⟨⟨rfl,2,by omega,rfl,?_⟩,?_⟩
    ·have h2':Lib.hasPrefix (s.drop a.toNat) (twos.getD 1 [])=false:=h2;exact m71
    ·exact (show (5 - (((1:Nat):Int)+1)).toNat<(5 - ((1:Nat):Int)).toNat by omega)
  | 2,hi,hn =>
   conv=>whnf
   refine ⟨by omega,by omega,?_⟩;(conv=>whnf);refine ZAi (fun h2=>?_) (fun h2=>?_)
   ·exact m40
   ·conv=>whnf
    refine oiO ?_;(conv=>whnf);refine ⟨⟨rfl,3,by omega,rfl,?_⟩,?_⟩
    ·have h2':Lib.hasPrefix (s.drop a.toNat) (twos.getD 2 [])=false:=h2;exact m71
    ·exact (show (5 - (((2:Nat):Int)+1)).toNat<(5 - ((2:Nat):Int)).toNat by omega)
  | 3,hi,hn =>
   conv=>whnf
   refine ⟨by omega,by omega,?_⟩;(conv=>whnf);refine ZAi (fun h2=>?_) (fun h2=>?_)
   ·exact m40
   ·conv=>whnf
    refine oiO ?_;(conv=>whnf);refine ⟨⟨rfl,4,by omega,rfl,?_⟩,?_⟩
    ·have h2':Lib.hasPrefix (s.drop a.toNat) (twos.getD 3 [])=false:=h2;exact m71
    ·exact (show (5 - (((3:Nat):Int)+1)).toNat<(5 - ((3:Nat):Int)).toNat by omega)
  | 4,hi,hn =>
   conv=>whnf
   refine ⟨by omega,by omega,?_⟩;(conv=>whnf);refine ZAi (fun h2=>?_) (fun h2=>?_)
   ·exact m40
   ·conv=>whnf
    refine oiO ?_;(conv=>whnf);refine ⟨⟨rfl,5,by omega,rfl,?_⟩,?_⟩
    ·have h2':Lib.hasPrefix (s.drop a.toNat) (twos.getD 4 [])=false:=h2;exact m71
    ·exact (show (5 - (((4:Nat):Int)+1)).toNat<(5 - ((4:Nat):Int)).toNat by omega)
  | 5,hi,hn =>
   conv=>whnf
   refine ⟨by omega,by simp;omega,?_⟩;(conv=>whnf);refine ZAf (fun h2=>?_) (fun h2=>?_)
   ·conv=>whnf
    have e:Yh (s.drop a.toNat)=1:=by
     have hc:ones.contains ((s.drop a.toNat).getD 0 0)=true:=by
      rw [Lib.contains_iff_indexByte];simpa [ones] using h2
     rw [Yh,Tc (by simpa [twos] using hn),Tf hc]
    rw [e] at h;exact h
   ·conv=>whnf
    have e:Yh (s.drop a.toNat)=0:=by
     have hc:ones.contains ((s.drop a.toNat).getD 0 0)=false:=by
      rw [Lib.contains_iff_indexByte];simpa [ones] using h2
     rw [Yh,Tc (by simpa [twos] using hn),Tc (by rw [hc];simp)]
    rw [e] at h;exact h
 ·exact h.elim
end Go.PM.Lex
end

section
namespace Go.PM.Lex
open Go.Proofs
variable {w0:World} {nG:Nat}
theorem VR:Zf (-1)=false:=by decide
theorem Za4:Zj (-1)=false:=by decide
theorem Zgq {f:Nat} {r:Bs} (h1:(pk r).1=46) (h2:Zf (pk (r.drop 1)).1=true):Yy (f+1) r=(pk r).2+Yy f (r.drop (pk r).2):=by rw [Yy,Tf h1,Tf h2]
theorem ZbI {f:Nat} {r:Bs} (h1:(pk r).1=46) (h2:Zf (pk (r.drop 1)).1=false):Yy (f+1) r=0:=by rw [Yy,Tf h1,Tc (by rw [h2];simp)]
theorem ZeG {f:Nat} {r:Bs} (h1:¬(pk r).1=46) (h2:Zf (pk r).1=true∨Zj (pk r).1=true):Yy (f+1) r=(pk r).2+Yy f (r.drop (pk r).2):=by rw [Yy,Tc h1,Tf h2]
theorem ZcE {f:Nat} {r:Bs} (h1:¬(pk r).1=46) (h2:Zf (pk r).1=false) (h3:Zj (pk r).1=false):Yy (f+1) r=0:=by rw [Yy,Tc h1,Tc (by simp [h2,h3])]
theorem X8 {s:Bs} {a b:Nat}:cut s a b=(s.drop a).take (b - a):=by simp [cut,List.drop_take]
noncomputable def Zud:Tbl:=[(209,ZaI),(210,VQ),(268,Wi)]
theorem Zue (ht:TblOK (GG w0 nG) Zud):PCalls (GG w0 nG) 211 ZeD:=by
 refine pc ht Tryz.func211 ?_;intro args σ K h
 unfold ZeD at h
 split at h
 ·rename_i t s a
  obtain ⟨⟨h0,h1,hs⟩,h⟩:=h;obtain ⟨a,rfl⟩:∃n:Nat,a=n:=⟨a.toNat,by omega⟩
  simp only [Tj] at h;refine ⟨Zb [(2,⟨[3],[0,2],fun vs σ=>σ=⟨[.cells t [.d (.str s),.d (.int .i64 a)],.cells 218 [.d (.int .u8 0),.d (.str []),.d (.int .i64 0),.d (.int .i64 0),.d (.int .i64 0)]],[],0⟩ ∧
   ∃e f:Nat,a≤e∧e≤s.length∧vs=[.d (.int .i64 e)]∧s.length<e+f∧e+Yy f (s.drop e)=a+XA (s.drop a),muI s.length⟩)],1,false,by simp,Ta rfl,?_⟩
  conv=>whnf
  refine ⟨⟨rfl,a,s.length - a+1,by omega,by omega,rfl,by omega,by simp [XA]⟩,?_⟩;intro vs σ1 hI
  obtain ⟨rfl,e,f,he1,he2,rfl,hf,hn⟩:=hI;obtain ⟨f,rfl⟩:∃g,f=g+1:=⟨f - 1,by omega⟩
  have hpr:=WK (s.drop e);have hpl:=Zit (s.drop e);have hple:=ZoR (s.drop e);have hp2:=WK (s.drop ((e:Int)+1).toNat);have hend:Yy (f+1) (s.drop e)=0→K (.ret (VH 1 (cut s a e) 0 a e)) ⟨[.cells t [.d (.str s),.d (.int .i64 a)]],[],0⟩:=fun h3=>by
   have e2:XA (s.drop a)=e - a:=by rw [h3] at hn;omega
   rw [e2,show (a:Int)+((e - a:Nat):Int)=(e:Int) by omega,← X8] at h;exact h
  have hgo:∀n:Nat,1≤n→e+n≤s.length→Yy (f+1) (s.drop e)=n+Yy f ((s.drop e).drop n)→a≤e+n∧e+n≤s.length∧s.length<(e+n)+f∧(e+n)+Yy f (s.drop (e+n))=a+XA (s.drop a):=fun n h1 h2 h3=>by
   rw [Tu] at h3;exact ⟨by omega,h2,by omega,by rw [← hn,h3];omega⟩
  conv=>whnf
  refine ⟨⟨by omega,by omega⟩,?_⟩;(conv=>whnf);refine ZAf (fun h2=>?_) (fun h2=>?_)
  ·conv=>whnf
   refine oiO ?_;(conv=>whnf);refine ⟨⟨by omega,by omega⟩,?_⟩;(conv=>whnf);refine ⟨⟨by omega,by omega⟩,?_⟩;(conv=>whnf);have hw:((e:Int)+1).toNat=e+1:=by omega
   refine ZAi (fun h3=>?_) (fun h3=>?_)
   ·rw [hw] at h3;(conv=>whnf);refine ⟨by omega,by omega,by omega,?_⟩;(conv=>whnf);exact hend (ZbI h2 (by rw [Tu];simpa using h3))
   ·rw [hw] at h3;(conv=>whnf);have hne:(pk (s.drop e)).1≠-1:=by have:(pk (s.drop e)).1=46:=h2;omega
    obtain ⟨g1,g2,g3⟩:=hple hne;have g2':e+(pk (s.drop e)).2≤s.length:=by rw [Tk] at g2;omega
    refine Or.inl ⟨InR.i64 (by simp only [Tj];omega) (by simp only [Tj];omega),?_⟩;(conv=>whnf);obtain ⟨k1,k2,k3,k4⟩:=hgo _ g1 g2' (Zgq h2 (by rw [Tu];simpa using h3));exact m222
  ·have h2':¬(pk (s.drop e)).1=46:=h2;have fin:∀(h4:Zf (pk (s.drop e)).1=true∨Zj (pk (s.drop e)).1=true),a≤e+(pk (s.drop e)).2∧e+(pk (s.drop e)).2≤s.length∧s.length<(e+(pk (s.drop e)).2)+f∧(e+(pk (s.drop e)).2)+Yy f (s.drop (e+(pk (s.drop e)).2))=a+XA (s.drop a):=fun h4=>by
    have hne:(pk (s.drop e)).1≠-1:=fun h5=>by rw [h5,VR,Za4] at h4;simp at h4
    obtain ⟨g1,g2,g3⟩:=hple hne;have g2':e+(pk (s.drop e)).2≤s.length:=by rw [Tk] at g2;omega
    exact hgo _ g1 g2' (ZeG h2' h4)
   conv=>whnf
   refine ⟨⟨hpr.1,by simp only [Tj];omega⟩,?_⟩;(conv=>whnf);refine ZAi (fun h3=>?_) (fun h3=>?_)
   ·have h3':Zf (pk (s.drop e)).1=false:=by simpa using h3
    conv=>whnf
    refine ZAi (fun h4=>?_) (fun h4=>?_)
    ·have h4':Zj (pk (s.drop e)).1=false:=by simpa using h4
     conv=>whnf
     refine ⟨by omega,by omega,by omega,?_⟩;(conv=>whnf);exact hend (ZcE h2' h3' h4')
    ·have h4':Zj (pk (s.drop e)).1=true:=by simpa using h4
     conv=>whnf
     obtain ⟨k1,k2,k3,k4⟩:=fin (.inr h4');exact m34
   ·have h3':Zf (pk (s.drop e)).1=true:=by simpa using h3
    conv=>whnf
    obtain ⟨k1,k2,k3,k4⟩:=fin (.inl h3');exact m34
 ·exact h.elim
end Go.PM.Lex
end

section
namespace Go.PM.Lex
open Go.Proofs
variable {w0:World} {nG:Nat}
def ZzS (B:Int):List PV→St→Nat:=fun _ σ=>match σ.bx with | .cells _ (_::.d (.int _ n)::_)::_=>(B - n).toNat | _=>0
theorem VS (p:UInt8→Bool):∀r:Bs,r.dropWhile p=r.drop (r.length - (r.dropWhile p).length)∧(r.dropWhile p).length≤r.length
 | []=>by simp
 | x::r=>by
  have ih:=VS p r
  by_cases hx:p x=true
  ·simp only [List.dropWhile_cons,hx,if_true,Td];refine ⟨?_,by omega⟩;rw [show r.length+1 - (r.dropWhile p).length=(r.length - (r.dropWhile p).length)+1 by omega,List.drop_succ_cons];exact ih.1
  ·simp [List.dropWhile_cons,hx]
theorem VT (c:UInt8):∀l:Bs,Lib.indexByte l c<l.length∨Lib.indexByte l c=-1
 | []=>.inr rfl
 | b::l=>by
  have ih:=VT c l;unfold Lib.indexByte
  split
  ·left;simp
  ·split
   ·exact .inr rfl
   ·rename_i h1 h2
    rcases ih with h | h
    ·left;simp;omega
    ·rw [h] at h2;simp at h2
theorem Zhg (p:Bs):∀l:Bs,0≤Lib.index l p→Lib.index l p+p.length≤l.length
 | [],h=>by
  unfold Lib.index at h ⊢
  split at h
  ·rename_i hp
   simp at hp;subst hp;simp
  ·omega
 | b::l,h=>by
  have ih:=Zhg p l;unfold Lib.index at h ⊢
  split at h
  ·rename_i hp
   have:=List.IsPrefix.length_le (List.isPrefixOf_iff_prefix.1 hp);simp only [hp,if_true];simp only [Td] at this ⊢;omega
  ·split at h
   ·omega
   ·rename_i h1 h2
    have:=Lib.index_ge l p;have h3:Lib.index l p≠-1:=by simpa using h2
    simp only [h1,h2,Tr,if_false];have:=ih (by omega);simp only [Td];omega
theorem Zz {r:Bs} {a b:UInt8} (h:Lib.hasPrefix r [a,b]=true):2≤r.length∧r=a::b::r.drop 2:=by
 obtain ⟨t,rfl⟩:=List.isPrefixOf_iff_prefix.1 h;simp
theorem ZbJ {r:Bs} {a b c:UInt8} (h:Lib.hasPrefix r [a,b]=true) (ha:a≠c) (hb:b≠c) (h0:0≤Lib.indexByte r c):2≤Lib.indexByte r c:=by
 rw [(Zz h).2] at h0 ⊢;have h1:(a == c)=false:=by simpa using ha
 have h2:(b == c)=false:=by simpa using hb
 have hg:=Lib.indexByte_ge (r.drop 2) c;simp only [Lib.indexByte,h1,h2,Tr,if_false] at h0 ⊢
 by_cases hm:Lib.indexByte (r.drop 2) c=-1
 ·rw [hm] at h0;simp at h0
 ·have hm':(Lib.indexByte (r.drop 2) c == -1)=false:=by simpa using hm
  simp only [hm',Tr,if_false] at h0 ⊢;have:(Lib.indexByte (r.drop 2) c+1 == -1)=false:=by simp;omega
  simp only [this,Tr,if_false];omega
theorem Zws:∀(j:Nat) (b:UInt8),([32,9,13,10]:Bs)[j]?=some b→b.toNat<128
 | 0,b,h=>by simp at h;subst h;decide
 | 1,b,h=>by simp at h;subst h;decide
 | 2,b,h=>by simp at h;subst h;decide
 | 3,b,h=>by simp at h;subst h;decide
 | j+4,b,h=>by simp at h
noncomputable def Zrl:Tbl:=[(277,Uv),(267,Xg),(215,XL),(278,ZeB)]
theorem Zrm (ht:TblOK (GG w0 nG) Zrl):PCalls (GG w0 nG) 226 ZcD:=by
 refine pc ht Tryz.func226 ?_;intro args σ K h
 unfold ZcD at h
 split at h
 ·rename_i t s a
  obtain ⟨⟨h0,h1,hs⟩,h⟩:=h;obtain ⟨a,rfl⟩:∃n:Nat,a=n:=⟨a.toNat,by omega⟩
  simp only [Tj] at h;refine ⟨Zb [(1,⟨[],[0],fun vs σ=>vs=[] ∧
   ∃e f:Nat,σ=⟨[.cells t [.d (.str s),.d (.int .i64 e)]],[],0⟩∧a≤e∧e≤s.length∧s.length<e+f∧(Zu f (s.drop e)).1=(Zt (s.drop a)).1∧e+(Zu f (s.drop e)).2=a+(Zt (s.drop a)).2,ZzS s.length⟩)],1,false,by simp,Ta rfl,?_⟩
  conv=>whnf
  refine ⟨⟨rfl,a,s.length - a+1,rfl,by omega,by omega,by omega,by simp [Zt],by simp [Zt]⟩,?_⟩;intro vs σ1 hI
  obtain ⟨rfl,e,f,rfl,he1,he2,hf,hn1,hn2⟩:=hI;obtain ⟨f,rfl⟩:∃g,f=g+1:=⟨f - 1,by omega⟩
  conv=>whnf
  refine ⟨by omega,by omega,?_⟩;(conv=>whnf);refine ⟨⟨by decide,Zws⟩,?_⟩;(conv=>whnf);generalize hrest0:Lib.trimLeftS (cut s _ _) _=rest;have hrest:Lib.trimLeftS (s.drop e) [32,9,13,10]=rest:=by rw [JK] at hrest0;exact hrest0
  have hdw:=VS (([32,9,13,10]:Bs).contains ·) (s.drop e)
  have hr1:rest=(s.drop e).drop ((s.drop e).length - rest.length):=by rw [← hrest];exact hdw.1
  have hr2:rest.length≤(s.drop e).length:=by rw [← hrest];exact hdw.2
  rw [Tk] at hr2;have hr3:rest=s.drop (s.length - rest.length):=by
   rw [Tu,Tk,show e+(s.length - e - rest.length)=s.length - rest.length by omega] at hr1;exact hr1
  have hk:(s.drop e).length - rest.length=s.length - rest.length - e:=by rw [Tk];omega
  have hgo:∀n:Nat,1≤n→n≤rest.length→Zu (f+1) (s.drop e)=((Zu f (rest.drop n)).1,(s.drop e).length - rest.length+n+(Zu f (rest.drop n)).2) →
    a≤s.length - rest.length+n∧s.length - rest.length+n≤s.length∧s.length<(s.length - rest.length+n)+f∧(Zu f (s.drop (s.length - rest.length+n))).1=(Zt (s.drop a)).1∧(s.length - rest.length+n)+(Zu f (s.drop (s.length - rest.length+n))).2=a+(Zt (s.drop a)).2:=fun n g1 g2 g3=>by
   have g4:rest.drop n=s.drop (s.length - rest.length+n):=by rw [← Tu,← hr3]
   rw [g3,g4] at hn1 hn2;simp only at hn1 hn2;exact ⟨by omega,by omega,by omega,hn1,by omega⟩
  have hend:∀b:Bool,Zu (f+1) (s.drop e)=(b,(s.drop e).length - rest.length)→K (.ret (.d (.bool b))) ⟨[.cells t [.d (.str s),.d (.int .i64 ((s.length:Int) - rest.length))]],[],0⟩:=fun b g=>by
   rw [g] at hn1 hn2;simp only at hn1 hn2;rw [← hn1,show (a:Int)+((Zt (s.drop a)).2:Int)=(s.length:Int) - rest.length by omega] at h;exact h
  have bg1:Lib.hasPrefix rest [47,47]=true→Zu (f+1) (s.drop e)=((Zu f (rest.drop (if Lib.indexByte rest 10<0 then rest.length else (Lib.indexByte rest 10).toNat))).1,(s.drop e).length - rest.length+(if Lib.indexByte rest 10<0 then rest.length else (Lib.indexByte rest 10).toNat)+(Zu f (rest.drop (if Lib.indexByte rest 10<0 then rest.length else (Lib.indexByte rest 10).toNat))).2):=fun g=>by
   simp only [Zu,hrest,g,if_true]
  have bg2:Lib.hasPrefix rest [47,47]=false→Lib.hasPrefix rest [47,42]=true→Lib.index (rest.drop 2) [42,47]<0→Zu (f+1) (s.drop e)=(false,(s.drop e).length - rest.length):=fun g1 g2 g3=>by
   simp only [Zu,hrest,g1,g2,g3,if_true,Tr,if_false]
  have bg3:Lib.hasPrefix rest [47,47]=false→Lib.hasPrefix rest [47,42]=true→¬Lib.index (rest.drop 2) [42,47]<0→Zu (f+1) (s.drop e)=((Zu f (rest.drop ((Lib.index (rest.drop 2) [42,47]).toNat+4))).1,(s.drop e).length - rest.length+((Lib.index (rest.drop 2) [42,47]).toNat+4)+(Zu f (rest.drop ((Lib.index (rest.drop 2) [42,47]).toNat+4))).2):=fun g1 g2 g3=>by
   simp only [Zu,hrest,g1,g2,g3,if_true,Tr,if_false]
  have bg4:Lib.hasPrefix rest [47,47]=false→Lib.hasPrefix rest [47,42]=false→Zu (f+1) (s.drop e)=(true,(s.drop e).length - rest.length):=fun g1 g2=>by
   simp only [Zu,hrest,g1,g2,Tr,if_false]
  refine oiO ?_;(conv=>whnf);refine ZAi (fun h2=>?_) (fun h2=>?_)
  ·have h2':Lib.hasPrefix rest [47,47]=true:=h2;have hrl:=(Zz h2').1;have bg:=bg1 h2';(conv=>whnf);have hge:=Lib.indexByte_ge rest 10;have hlt:=VT 10 rest;have h22:=ZbJ (c:=10) h2' (by decide) (by decide);refine ZAf (fun h3=>?_) (fun h3=>?_)
   ·have h3':Lib.indexByte rest 10<0:=h3;simp only [h3',if_true] at bg;(conv=>whnf);refine oiO ?_;(conv=>whnf);obtain ⟨k1,k2,k3,k4,k5⟩:=hgo _ (by omega) (by omega) bg;refine ⟨⟨rfl,_,f,?_,k1,k2,k3,k4,k5⟩,?_⟩
    ·rw [show (s.length:Int) - (rest.length:Int)+(rest.length:Int)=((s.length - rest.length+rest.length:Nat):Int) by omega];rfl
    ·exact (show ((s.length:Int) - ((s.length:Int) - (rest.length:Int)+(rest.length:Int))).toNat<((s.length:Int) - (e:Int)).toNat by omega)
   ·have h3':¬Lib.indexByte rest 10<0:=h3;simp only [h3',if_false] at bg;obtain ⟨n,hn⟩:∃n:Nat,Lib.indexByte rest 10=n:=⟨(Lib.indexByte rest 10).toNat,by omega⟩
    have hn':Lib.indexByte rest ((10:Int).toNat.toUInt8)=n:=hn;(conv=>whnf);rw [hn'];rw [hn] at h22 hlt;rw [hn,Tj] at bg;refine oiO ?_;(conv=>whnf);obtain ⟨k1,k2,k3,k4,k5⟩:=hgo _ (by omega) (by omega) bg;refine ⟨⟨rfl,_,f,?_,k1,k2,k3,k4,k5⟩,?_⟩
    ·rw [show (s.length:Int) - (rest.length:Int)+(n:Int)=((s.length - rest.length+n:Nat):Int) by omega];rfl
    ·exact (show ((s.length:Int) - ((s.length:Int) - (rest.length:Int)+(n:Int))).toNat<((s.length:Int) - (e:Int)).toNat by omega)
  ·have h2':Lib.hasPrefix rest [47,47]=false:=h2;(conv=>whnf);refine ZAi (fun h3=>?_) (fun h3=>?_)
   ·have h3':Lib.hasPrefix rest [47,42]=true:=h3;have hrl:=(Zz h3').1;(conv=>whnf);refine ⟨by omega,by omega,?_⟩;(conv=>whnf);rw [JK];have hdl:(rest.drop 2).length=rest.length - 2:=by simp
    refine ⟨by have:(rest.drop ((2:Int).toNat)).length=rest.length - 2:=hdl;omega,?_⟩;(conv=>whnf);have hge:=Lib.index_ge (rest.drop 2) [42,47];have hle:=Zhg [42,47] (rest.drop 2);simp only [Td,Te,hdl] at hle;refine ZAf (fun h4=>?_) (fun h4=>?_)
    ·conv=>whnf
     exact hend _ (bg2 h2' h3' h4)
    ·have h4':¬Lib.index (rest.drop 2) [42,47]<0:=h4;have bg:=bg3 h2' h3' h4';obtain ⟨n,hn⟩:∃n:Nat,Lib.index (rest.drop 2) [42,47]=n:=⟨(Lib.index (rest.drop 2) [42,47]).toNat,by omega⟩
     conv=>whnf
     generalize hi:Lib.index _ _=i;have hi':i=n:=by rw [← hi];exact hn
     subst hi';rw [hn] at hle;rw [hn,Tj] at bg;refine oiO ?_;(conv=>whnf);refine oiO ?_;(conv=>whnf);obtain ⟨k1,k2,k3,k4,k5⟩:=hgo _ (by omega) (by omega) bg;refine ⟨⟨rfl,_,f,?_,k1,k2,k3,k4,k5⟩,?_⟩
     ·rw [show (s.length:Int) - (rest.length:Int)+((n:Int)+4)=((s.length - rest.length+(n+4):Nat):Int) by omega];rfl
     ·exact (show ((s.length:Int) - ((s.length:Int) - (rest.length:Int)+((n:Int)+4))).toNat<((s.length:Int) - (e:Int)).toNat by omega)
   ·conv=>whnf
    exact hend _ (bg4 h2' h3)
 ·exact h.elim
end Go.PM.Lex
end

section
namespace Go.PM.Lex
open Go.Proofs
variable {w0:World} {nG:Nat}
theorem orU (n:Fin 256):Zk .or .u8 (n.val:Int) 32=((n.val ||| 32:Nat):Int):=by rw [Ys];revert n;decide +kernel
theorem orH:∀n:Fin 256,(97≤(n.val ||| 32)∧(n.val ||| 32)≤102)↔((97≤n.val∧n.val≤102)∨(65≤n.val∧n.val≤70)):=by decide +kernel
theorem Zwt (b:UInt8):(97≤Zk .or .u8 (b.toNat:Int) 32∧Zk .or .u8 (b.toNat:Int) 32≤102)↔((97≤b.toNat∧b.toNat≤102)∨(65≤b.toNat∧b.toNat≤70)):=by
 have h2:=orU ⟨b.toNat,b.toNat_lt⟩;have h3:=orH ⟨b.toNat,b.toNat_lt⟩;simp only at h2 h3;rw [h2];omega
theorem V8 (p:UInt8→Bool):∀l:Bs,l.takeWhile p=l.take (l.takeWhile p).length
 | []=>rfl
 | x::l=>by
  by_cases h:p x=true
  ·simp only [Sm,h,if_true,Td,List.take_succ_cons];rw [← V8 p l]
  ·simp [Sm,h]
theorem Vg (p:UInt8→Bool):∀l:Bs,(l.takeWhile p).all p=true
 | []=>rfl
 | x::l=>by
  by_cases h:p x=true
  ·simp only [Sm,h,if_true,List.all_cons,Vg p l,Bool.and_self]
  ·simp [Sm,h]
theorem WM (p:UInt8→Bool) (l:Bs):(l.takeWhile p).length≤l.length:=List.Sublist.length_le (List.takeWhile_sublist p)
theorem ZoS {s:Bs} {e:Nat} (h:e<s.length):s.drop e=s.getD e 0::s.drop (e+1):=by
 rw [TM h];simp [List.getD,h]
noncomputable def ZoT:Tbl:=[(267,Xg),(268,Wi),(312,Vt),(209,ZaI),(210,VQ)]
theorem ZoU (ht:TblOK (GG w0 nG) ZoT):PCalls (GG w0 nG) 281 Zae:=by
 refine pc ht Tryz.func281 ?_;intro args σ K h
 unfold Zae at h
 split at h
 ·rename_i t s a
  obtain ⟨⟨h0,h1,hs⟩,h⟩:=h;obtain ⟨a,rfl⟩:∃n:Nat,a=n:=⟨a.toNat,by omega⟩
  simp only [Tj] at h;refine ⟨Zb [(5,⟨[5],[0,2,3,4,6],fun vs σ=>σ=⟨[.cells t [.d (.str s),.d (.int .i64 a)],.cells 218 [.d (.int .u8 0),.d (.str []),.d (.int .i64 0),.d (.int .i64 0),.d (.int .i64 0)],.cells 220 [.d (.int .i64 0),.d (.int .i64 0)]],[],0⟩ ∧
   ∃e:Nat,vs=[.d (.int .i64 e)]∧a+(if Xc (s.drop a) then 2 else 0)≤e∧e≤s.length∧e - (a+(if Xc (s.drop a) then 2 else 0))+((s.drop e).takeWhile (Xx (Xc (s.drop a)))).length=(Zd (s.drop a)).length,muI s.length⟩)],1,false,by simp,Ta rfl,?_⟩
  have hbad:ZJ (s.drop a)=none→K (.ret (.tuple [VH 0 [] 0 0 0,Zir a 142])) ⟨[.cells t [.d (.str s),.d (.int .i64 a)]],[],0⟩:=fun g=>by
   have e1:XI a (s.drop a)=.bad a 142:=by rw [XI,g]
   rw [e1] at h;exact h
  have hgood:∀n:Nat,ZJ (s.drop a)=some n→K (.ret (.tuple [VH 2 [] (IntKind.i64.wrap n) a ((a+Zw (s.drop a):Nat):Int),Zir 0 0])) ⟨[.cells t [.d (.str s),.d (.int .i64 a)]],[],0⟩:=fun n g=>by
   have e1:XI a (s.drop a)=.tok ⟨2,[],IntKind.i64.wrap n,a,a+Zw (s.drop a)⟩:=by rw [XI,g]
   rw [e1] at h;exact h
  conv=>whnf
  refine ⟨by omega,by omega,?_⟩;(conv=>whnf);rw [JK];refine ZAi (fun hx=>?_) (fun hx=>?_)
  ·have hx':Xc (s.drop a)=true:=hx;simp only [hx',if_true,Tr,if_false];have hnd:Zd (s.drop a)=(s.drop (a+2)).takeWhile (Xx true):=by simp [Zd,hx',Tu]
   have hnl:Zw (s.drop a)=2+(Zd (s.drop a)).length:=by simp [Zw,hx']
   have hl2:=(Zz hx).1;rw [Tk] at hl2;(conv=>whnf);refine oiO ?_;(conv=>whnf);refine ⟨⟨rfl,(a+2),rfl,by omega,by omega,by rw [hnd];simp⟩,?_⟩;intro vs σ1 hI
   obtain ⟨rfl,e,rfl,he1,he2,hn⟩:=hI;have htail:∀(g:((s.drop e).takeWhile (Xx true)).length=0),e=a+Zw (s.drop a)∧Zd (s.drop a)=cut s (a+2) e:=fun g=>by
    rw [g] at hn;refine ⟨by omega,?_⟩;rw [X8,show e - (a+2)=(Zd (s.drop a)).length by omega,hnd];exact V8 _ _
   have hall:(Zd (s.drop a)).all (Xx true)=true:=by rw [hnd];exact Vg _ _
   have hnlen:(Zd (s.drop a)).length≤s.length:=by
    rw [hnd];have:=WM (Xx true) (s.drop (a+2));rw [Tk] at this;omega
   conv=>whnf
   refine ZAf (fun h2=>?_) (fun h2=>?_)
   ·have h2':e<s.length:=by omega
    have hdr:=ZoS h2';have hb:=(s.getD e 0).toNat_lt;have hstep:Xx true (s.getD e 0)=true→e+1 - (a+2)+((s.drop (e+1)).takeWhile (Xx true)).length=(Zd (s.drop a)).length:=fun g=>by
     rw [← hn,hdr,Sm,Tf g,Td];omega
    have hstop:Xx true (s.getD e 0)=false→((s.drop e).takeWhile (Xx true)).length=0:=fun g=>by
     rw [hdr,Sm,Tc (by rw [g];simp)];rfl
    conv=>whnf
    refine ⟨by omega,by omega,?_⟩;(conv=>whnf);refine Or.inl ⟨InR.i32 (by omega) (by simp only [Tj];omega),?_⟩;(conv=>whnf);refine ZAi (fun h3=>?_) (fun h3=>?_)
    ·exact m84
    ·have h3':Zj ((s.getD e 0).toNat:Int)=false:=h3;(conv=>whnf);have hoh:=Zwt (s.getD e 0);refine ZAf (fun h4=>?_) (fun h4=>?_)
     ·conv=>whnf
      refine ZAf (fun h5=>?_) (fun h5=>?_)
      ·have hd:Xx true (s.getD e 0)=true:=by
        have:=hoh.1 ⟨h4,h5⟩;simp only [Xx,h3',SA,TE,TG];omega
       conv=>whnf
       refine oiO ?_;(conv=>whnf);refine ⟨⟨rfl,e+1,rfl,by omega,by omega,hstep hd⟩,?_⟩;exact m224
      ·have hd:Xx true (s.getD e 0)=false:=by
        have:¬((97≤(s.getD e 0).toNat∧(s.getD e 0).toNat≤102)∨(65≤(s.getD e 0).toNat∧(s.getD e 0).toNat≤70)):=fun g=>h5 (hoh.2 g).2
        simp only [Xx,h3',SA,TE,decide_eq_false_iff_not];exact this
       have hst:=htail (hstop hd);exact m2
     ·have hd:Xx true (s.getD e 0)=false:=by
       have:¬((97≤(s.getD e 0).toNat∧(s.getD e 0).toNat≤102)∨(65≤(s.getD e 0).toNat∧(s.getD e 0).toNat≤70)):=fun g=>h4 (hoh.2 g).1
       simp only [Xx,h3',SA,TE,decide_eq_false_iff_not];exact this
      have hst:=htail (hstop hd);exact m2
   ·have hd0:((s.drop e).takeWhile (Xx true)).length=0:=by rw [Tz (by omega)];rfl
    have hst:=htail (hd0);exact m2
  ·have hx':Xc (s.drop a)=false:=hx;simp only [hx',if_true,Tr,if_false];have hnd:Zd (s.drop a)=(s.drop (a+0)).takeWhile (Xx false):=by simp [Zd,hx',Tu]
   have hnl:Zw (s.drop a)=0+(Zd (s.drop a)).length:=by simp [Zw,hx']
   conv=>whnf
   refine ⟨⟨rfl,a,rfl,by omega,by omega,by rw [hnd];simp⟩,?_⟩;intro vs σ1 hI
   obtain ⟨rfl,e,rfl,he1,he2,hn⟩:=hI;have htail:∀(g:((s.drop e).takeWhile (Xx false)).length=0),e=a+Zw (s.drop a)∧Zd (s.drop a)=cut s (a+0) e:=fun g=>by
    rw [g] at hn;refine ⟨by omega,?_⟩;rw [X8,show e - (a+0)=(Zd (s.drop a)).length by omega,hnd];exact V8 _ _
   have hall:(Zd (s.drop a)).all (Xx false)=true:=by rw [hnd];exact Vg _ _
   have hnlen:(Zd (s.drop a)).length≤s.length:=by
    rw [hnd];have:=WM (Xx false) (s.drop (a+0));rw [Tk] at this;omega
   conv=>whnf
   refine ZAf (fun h2=>?_) (fun h2=>?_)
   ·have h2':e<s.length:=by omega
    have hdr:=ZoS h2';have hb:=(s.getD e 0).toNat_lt;have hstep:Xx false (s.getD e 0)=true→e+1 - (a+0)+((s.drop (e+1)).takeWhile (Xx false)).length=(Zd (s.drop a)).length:=fun g=>by
     rw [← hn,hdr,Sm,Tf g,Td];omega
    have hstop:Xx false (s.getD e 0)=false→((s.drop e).takeWhile (Xx false)).length=0:=fun g=>by
     rw [hdr,Sm,Tc (by rw [g];simp)];rfl
    conv=>whnf
    refine ⟨by omega,by omega,?_⟩;(conv=>whnf);refine Or.inl ⟨InR.i32 (by omega) (by simp only [Tj];omega),?_⟩;(conv=>whnf);refine ZAi (fun h3=>?_) (fun h3=>?_)
    ·exact m84
    ·have h3':Zj ((s.getD e 0).toNat:Int)=false:=h3;(conv=>whnf);have hd:Xx false (s.getD e 0)=false:=by simp only [Xx,h3',Sc,T4]
     have hst:=htail (hstop hd);exact m12
   ·have hd0:((s.drop e).takeWhile (Xx false)).length=0:=by rw [Tz (by omega)];rfl
    have hst:=htail (hd0);exact m12
 ·exact h.elim
end Go.PM.Lex
end

section
namespace Go.PM.Lex
open Go.Proofs
variable {w0:World} {nG:Nat}
theorem Za5 (r:Bs):(Lib.decodeL r).1≤1114111∧1≤(Lib.decodeL r).2∧(Lib.decodeL r).2≤4:=by
 exact m79
theorem Zks (c:Int):(Lib.encodeRune c).length≤4:=by
 unfold Lib.encodeRune Lib.encodeRuneZ
 rw [Ti]
 repeat' split
 all_goals simp
theorem JL {n k:Nat} (h:n<128) (hk:k<128) (hne:n≠k):(n:Int).toNat.toUInt8≠UInt8.ofNat k:=by
 intro h1
 have h2:=congrArg UInt8.toNat h1;simp [UInt8.toNat_ofNat'] at h2;omega
theorem ZlH {n:Nat} (h:ZjW n=none):ZeF [110,116,34,92] n=-1:=by
 unfold ZjW at h
 split at h;· cases h
 split at h;· cases h
 split at h;· cases h
 split at h;· cases h
 rename_i h1 h2 h3 h4
 unfold ZeF
 split
 ·rename_i h5
  have hc:([110,116,34,92]:Bs).contains ((n:Int).toNat.toUInt8)=false:=by
   have b1:=JL (n:=n) (k:=110) (by omega) (by omega) h1;have b2:=JL (n:=n) (k:=116) (by omega) (by omega) h2;exact m117
  rw [Lib.contains_iff_indexByte,decide_eq_false_iff_not] at hc;have:=Lib.indexByte_ge [110,116,34,92] ((n:Int).toNat.toUInt8);omega
 ·rfl
theorem ZlI {n:Nat} {b:UInt8} (h:ZjW n=some b):(ZeF [110,116,34,92] n=0∧b=10)∨(ZeF [110,116,34,92] n=1∧b=9)∨(ZeF [110,116,34,92] n=2∧b=34)∨(ZeF [110,116,34,92] n=3∧b=92):=by
 unfold ZjW at h
 exact m73
theorem UZ (l:Bs) (b:UInt8):Zi (l++[b])=Zi l++[[.int .u8 b.toNat]]:=by simp [Zi]
theorem Yp (l m:Bs):Zi (l++m)=Zi l++Zi m:=by simp [Zi]
theorem Zaf (l:Bs):∀r∈Zi l,r.length=1:=by
 intro r hr
 simp only [Zi,Sy] at hr;obtain ⟨b,_,rfl⟩:=hr;rfl
theorem Yq (l:Bs):(Zi l).length=l.length:=by simp [Zi]
def ZzT (B:Nat):List PV→St→Nat:=fun _ σ=>match σ.bx with | [_,_,_,_,.iter _ p]=>B - p | _=>0
noncomputable def Zuf:Tbl:=[(151,XM),(150,Wj),(209,ZaI),(152,Wk),(31,Zad)]
theorem Zug (ht:TblOK (GG w0 nG) Zuf):PCalls (GG w0 nG) 280 Zgn:=by
 refine pc ht Tryz.func280 ?_;intro args σ K h
 unfold Zgn at h
 split at h
 ·rename_i t s a
  obtain ⟨⟨h0,h1,hs⟩,h⟩:=h;obtain ⟨a,rfl⟩:∃n:Nat,a=n:=⟨a.toNat,by omega⟩
  simp only [Tj] at h;obtain ⟨u,hu⟩:∃u,u=s.drop (a+1):=⟨_,rfl⟩
  have hul:u.length=s.length - (a+1):=by rw [hu,Tk]
  refine ⟨Zb [(4,⟨[5],[0,2,3,4,22],fun vs σ=>∃(esc:Bool) (l:Bs) (i f:Nat) (p:PV),vs=[.d (.bool esc)] ∧
   σ=⟨[.cells t [.d (.str s),.d (.int .i64 a)],.cells 218 [.d (.int .u8 0),.d (.str []),.d (.int .i64 0),.d (.int .i64 0),.d (.int .i64 0)],.cells 220 [.d (.int .i64 0),.d (.int .i64 0)],.cells 82 [p,.sl 0 5 (Zi l)],.iter u i],[0],1⟩ ∧
   (p=.d .nilp∨p=.ptr 3 0)∧(i≤u.length∧u.length<i+f∧l.length≤4 * i)∧ZG f (u.drop i) esc l (1+i)=XH (s.drop a),ZzT u.length⟩)],1,false,by simp,Ta rfl,?_⟩
  have hbad:∀n:Nat,XH (s.drop a)=.err n→K (.ret (.tuple [VH 0 [] 0 0 0,Zir ((a+n:Nat):Int) 141])) ⟨[.cells t [.d (.str s),.d (.int .i64 a)]],[],0⟩:=fun n g=>by
   have e1:ZaQ a (s.drop a)=.bad (a+n) 141:=by rw [ZaQ,g]
   rw [e1] at h;exact h
  have hgood:∀(l:Bs) (n:Nat),XH (s.drop a)=.ok l n→K (.ret (.tuple [VH 3 l 0 a ((a+n:Nat):Int),Zir 0 0])) ⟨[.cells t [.d (.str s),.d (.int .i64 a)]],[],0⟩:=fun l n g=>by
   have e1:ZaQ a (s.drop a)=.tok ⟨3,l,0,a,a+n⟩:=by rw [ZaQ,g]
   rw [e1] at h;exact h
  have ha1:((a:Int)+1).toNat=a+1:=by omega
  conv=>whnf
  refine oiO ?_;(conv=>whnf);refine ⟨by omega,by omega,?_⟩;(conv=>whnf);rw [JK,ha1,← hu];refine ⟨⟨false,[],0,(s.drop a).length+1,.d .nilp,rfl,rfl,.inl rfl,⟨by omega,by rw [Tk];omega,by simp⟩,?_⟩,?_⟩
  ·rw [XH,Tu,← hu];rfl
  intro vs σ1 hI
  obtain ⟨esc,l,i,f,p,rfl,rfl,hp,⟨hi1,hi2,hl4⟩,hgo⟩:=hI;obtain ⟨f,rfl⟩:∃g,f=g+1:=⟨f - 1,by omega⟩
  have hb1:=Zaf l;have hbl:=Yq l;have hdec:=ZeA u i;have hdr:=Za5 (u.drop i);have hdl:=Lib.decodeL_le (u.drop i);rw [Tk] at hdl
  cases esc with
  | true =>
   rcases hp with rfl | rfl
   ·conv=>whnf
    refine ZAf (fun h2=>?_) (fun h2=>?_)
    ·have hne:u.drop i≠[]:=fun g=>by have:=congrArg List.length g;rw [Tk] at this;simp at this;omega
     conv=>whnf
     refine oiO ?_;(conv=>whnf);refine oiO ?_;(conv=>whnf);refine ⟨⟨.inl rfl,by omega,by rw [hdec];omega⟩,?_⟩;(conv=>whnf);generalize hk:ZeF _ _=k;have hk':ZeF [110,116,34,92] ((Lib.decodeL (u.drop i)).1:Int)=k:=by rw [← hdec];exact hk
     cases hE:ZjW (Lib.decodeL (u.drop i)).1 with
     | none =>
      exact m87
     | some b =>
      have g1:XH (s.drop a)=ZG f (u.drop (i+(decodeL u i).2)) false (l++[b]) (1+(i+(decodeL u i).2)):=by rw [← hgo,hdec];simp [ZG,hne,hE,Tu,Sb]
      have g3:i+(decodeL u i).2≤u.length:=by rw [hdec];have:=hdl hne;omega
      have hdr':1≤(decodeL u i).2:=by rw [hdec];omega
      rcases ZlI hE with ⟨e1,rfl⟩ | ⟨e1,rfl⟩ | ⟨e1,rfl⟩ | ⟨e1,rfl⟩
      all_goals (rw [e1] at hk';subst hk')
      all_goals (conv=>whnf)
      all_goals (refine ⟨by omega,by first | omega | (simp;done) | (simp;omega),?_⟩)
      all_goals (conv=>whnf)
      all_goals (refine ⟨⟨.inl rfl,rfl,rfl,hb1,by omega⟩,?_⟩)
      all_goals (conv=>whnf)
      all_goals (refine ⟨⟨false,_,_,f,_,rfl,?_,.inr rfl,⟨g3,by omega,?_⟩,g1.symm⟩,?_⟩)
      all_goals (first | (rw [UZ];rfl) | (rw [Tb];simp;omega) | exact (show u.length - (i+(decodeL u i).2)<u.length - i by omega))
    ·exact m41
   ·conv=>whnf
    refine ZAf (fun h2=>?_) (fun h2=>?_)
    ·have hne:u.drop i≠[]:=fun g=>by have:=congrArg List.length g;rw [Tk] at this;simp at this;omega
     conv=>whnf
     refine oiO ?_;(conv=>whnf);refine oiO ?_;(conv=>whnf);refine ⟨⟨.inl rfl,by omega,by rw [hdec];omega⟩,?_⟩;(conv=>whnf);generalize hk:ZeF _ _=k;have hk':ZeF [110,116,34,92] ((Lib.decodeL (u.drop i)).1:Int)=k:=by rw [← hdec];exact hk
     cases hE:ZjW (Lib.decodeL (u.drop i)).1 with
     | none =>
      exact m87
     | some b =>
      have g1:XH (s.drop a)=ZG f (u.drop (i+(decodeL u i).2)) false (l++[b]) (1+(i+(decodeL u i).2)):=by rw [← hgo,hdec];simp [ZG,hne,hE,Tu,Sb]
      have g3:i+(decodeL u i).2≤u.length:=by rw [hdec];have:=hdl hne;omega
      have hdr':1≤(decodeL u i).2:=by rw [hdec];omega
      rcases ZlI hE with ⟨e1,rfl⟩ | ⟨e1,rfl⟩ | ⟨e1,rfl⟩ | ⟨e1,rfl⟩
      all_goals (rw [e1] at hk';subst hk')
      all_goals (conv=>whnf)
      all_goals (refine ⟨by omega,by first | omega | (simp;done) | (simp;omega),?_⟩)
      all_goals (conv=>whnf)
      all_goals (refine ⟨⟨.inr rfl,rfl,rfl,hb1,by omega⟩,?_⟩)
      all_goals (conv=>whnf)
      all_goals (refine ⟨⟨false,_,_,f,_,rfl,?_,.inr rfl,⟨g3,by omega,?_⟩,g1.symm⟩,?_⟩)
      all_goals (first | (rw [UZ];rfl) | (rw [Tb];simp;omega) | exact (show u.length - (i+(decodeL u i).2)<u.length - i by omega))
    ·exact m41
  | false =>
   rcases hp with rfl | rfl
   ·conv=>whnf
    refine ZAf (fun h2=>?_) (fun h2=>?_)
    ·have hne:u.drop i≠[]:=fun g=>by have:=congrArg List.length g;rw [Tk] at this;simp at this;omega
     have g3:i+(decodeL u i).2≤u.length:=by rw [hdec];have:=hdl hne;omega
     have hdr':1≤(decodeL u i).2:=by rw [hdec];omega
     have hat:((a:Int)+1+(i:Int)).toNat=a+1+i:=by omega
     have hsd:s.drop (a+1+i)=u.drop i:=by rw [hu,Tu]
     conv=>whnf
     refine oiO ?_;(conv=>whnf);refine oiO ?_;(conv=>whnf);refine ⟨⟨by omega,by omega⟩,?_⟩;(conv=>whnf);refine ZAf (fun h3=>?_) (fun h3=>?_)
     ·have h3':(Lib.decodeL (u.drop i)).1=34:=by rw [hdec] at h3;omega
      have g1:XH (s.drop a)=.ok l (1+i+1):=by rw [← hgo];simp [ZG,hne,h3']
      conv=>whnf
      refine oiO ?_;(conv=>whnf);refine ⟨l,⟨rfl,rfl,rfl,.inl rfl,by omega⟩,?_⟩;exact m112
     ·have h3':¬(Lib.decodeL (u.drop i)).1=34:=by rw [hdec] at h3;omega
      conv=>whnf
      refine ZAf (fun h4=>?_) (fun h4=>?_)
      ·have h4':(Lib.decodeL (u.drop i)).1=92:=by rw [hdec] at h4;omega
       have g1:XH (s.drop a)=ZG f (u.drop (i+(decodeL u i).2)) true l (1+(i+(decodeL u i).2)):=by rw [← hgo,hdec];simp [ZG,hne,h3',h4',Tu,Sb]
       conv=>whnf
       refine ⟨⟨true,_,_,f,_,rfl,rfl,.inl rfl,⟨g3,by omega,by omega⟩,g1.symm⟩,?_⟩;exact m241
      ·have h4':¬(Lib.decodeL (u.drop i)).1=92:=by rw [hdec] at h4;omega
       conv=>whnf
       refine ZAf (fun h5=>?_) (fun h5=>?_)
       ·exact m88
       ·have h5':¬(pk (u.drop i)).1<32:=by rw [hat,hsd] at h5;exact h5
        have g1:XH (s.drop a)=ZG f (u.drop (i+(decodeL u i).2)) false (l++Lib.encodeRune ((decodeL u i).1:Int)) (1+(i+(decodeL u i).2)):=by rw [← hgo,hdec];simp [ZG,hne,h3',h4',h5',Tu,Sb]
        have hen:=Zks ((decodeL u i).1:Int);(conv=>whnf);refine ⟨⟨.inl rfl,rfl,rfl,hb1,by omega,by omega,by rw [hdec];omega⟩,?_⟩;exact m107
    ·exact m41
   ·conv=>whnf
    refine ZAf (fun h2=>?_) (fun h2=>?_)
    ·have hne:u.drop i≠[]:=fun g=>by have:=congrArg List.length g;rw [Tk] at this;simp at this;omega
     have g3:i+(decodeL u i).2≤u.length:=by rw [hdec];have:=hdl hne;omega
     have hdr':1≤(decodeL u i).2:=by rw [hdec];omega
     have hat:((a:Int)+1+(i:Int)).toNat=a+1+i:=by omega
     have hsd:s.drop (a+1+i)=u.drop i:=by rw [hu,Tu]
     conv=>whnf
     refine oiO ?_;(conv=>whnf);refine oiO ?_;(conv=>whnf);refine ⟨⟨by omega,by omega⟩,?_⟩;(conv=>whnf);refine ZAf (fun h3=>?_) (fun h3=>?_)
     ·have h3':(Lib.decodeL (u.drop i)).1=34:=by rw [hdec] at h3;omega
      have g1:XH (s.drop a)=.ok l (1+i+1):=by rw [← hgo];simp [ZG,hne,h3']
      conv=>whnf
      refine oiO ?_;(conv=>whnf);refine ⟨l,⟨rfl,rfl,rfl,.inr rfl,by omega⟩,?_⟩;exact m112
     ·have h3':¬(Lib.decodeL (u.drop i)).1=34:=by rw [hdec] at h3;omega
      conv=>whnf
      refine ZAf (fun h4=>?_) (fun h4=>?_)
      ·have h4':(Lib.decodeL (u.drop i)).1=92:=by rw [hdec] at h4;omega
       have g1:XH (s.drop a)=ZG f (u.drop (i+(decodeL u i).2)) true l (1+(i+(decodeL u i).2)):=by rw [← hgo,hdec];simp [ZG,hne,h3',h4',Tu,Sb]
       conv=>whnf
       refine ⟨⟨true,_,_,f,_,rfl,rfl,.inr rfl,⟨g3,by omega,by omega⟩,g1.symm⟩,?_⟩;exact m241
      ·have h4':¬(Lib.decodeL (u.drop i)).1=92:=by rw [hdec] at h4;omega
       conv=>whnf
       refine ZAf (fun h5=>?_) (fun h5=>?_)
       ·exact m88
       ·have h5':¬(pk (u.drop i)).1<32:=by rw [hat,hsd] at h5;exact h5
        have g1:XH (s.drop a)=ZG f (u.drop (i+(decodeL u i).2)) false (l++Lib.encodeRune ((decodeL u i).1:Int)) (1+(i+(decodeL u i).2)):=by rw [← hgo,hdec];simp [ZG,hne,h3',h4',h5',Tu,Sb]
        have hen:=Zks ((decodeL u i).1:Int);(conv=>whnf);refine ⟨⟨.inr rfl,rfl,rfl,hb1,by omega,by omega,by rw [hdec];omega⟩,?_⟩;exact m107
    ·exact m41
 ·exact h.elim
end Go.PM.Lex
end

section
namespace Go.PM.Lex
open Go.Proofs
variable {w0:World} {nG:Nat}
theorem ZoV (r:Bs) (h:0<r.length):Yh r≤r.length∧Yh r≤2:=by
 unfold Yh
 split
 ·rename_i h1
  simp only [twos,SC,List.any_nil,T4,T9] at h1;rcases h1 with h1 | h1 | h1 | h1 | h1
  all_goals (have:=(Zz h1).1;omega)
 ·split <;> omega
theorem YR (a:Nat) (r:Bs) (room:Bool):Xn a r room=if Yh r=0∧(pk r).1≠34∧Zf (pk r).1=false∧Zj (pk r).1=false then .bad a 140
 else if room=false then .bad a 3
 else if 0<Yh r then .tok ⟨4,r.take (Yh r),0,a,a+Yh r⟩
 else if (pk r).1=34 then ZaQ a r
 else if Zj (pk r).1=true then XI a r
 else .tok ⟨1,r.take (XA r),0,a,a+XA r⟩:=rfl
noncomputable def Zuh:Tbl:=[(209,ZaI),(279,Zgm),(210,VQ),(268,Wi),(280,Zgn),(281,Zae),(211,ZeD)]
theorem Zui (ht:TblOK (GG w0 nG) Zuh):PCalls (GG w0 nG) 227 Zgo:=by
 refine pc ht Tryz.func227 ?_;intro args σ K h
 unfold Zgo at h
 split at h
 ·rename_i room t s a
  obtain ⟨⟨h0,h1,hs⟩,h⟩:=h;obtain ⟨a,rfl⟩:∃n:Nat,a=n:=⟨a.toNat,by omega⟩
  simp only [Tj] at h;have hpr:-1≤(pk (s.drop ((a:Int)).toNat)).1∧(pk (s.drop ((a:Int)).toNat)).1≤1114111:=WK (s.drop a);have hsl:=ZoV (s.drop a) (by rw [Tk];omega);rw [Tk] at hsl;have hbad:∀e:Nat,Xn a (s.drop a) room=.bad a e→K (.ret (.tuple [VH 0 [] 0 0 0,Zir a e])) ⟨[.cells t [.d (.str s),.d (.int .i64 a)]],[],0⟩:=fun e g=>by
   rw [g] at h;exact h
  have hsign:∀n:Nat,Yh (s.drop a)=n→Xn a (s.drop a) room=.tok ⟨4,(s.drop a).take n,0,a,a+n⟩→K (.ret (.tuple [VH 4 (cut s ((a:Int)).toNat ((a:Int)+(n:Int)).toNat) 0 a ((a:Int)+(n:Int)),Zir 0 0])) ⟨[.cells t [.d (.str s),.d (.int .i64 a)]],[],0⟩:=fun n g1 g2=>by
   rw [g2] at h;rw [X8,show ((a:Int)+(n:Int)).toNat - ((a:Int)).toNat=n by omega];exact h
  have hn2:Xn a (s.drop a) room=.tok ⟨1,(s.drop a).take (XA (s.drop a)),0,a,a+XA (s.drop a)⟩→K (.ret (.tuple [VH 1 ((s.drop a).take (XA (s.drop a))) 0 a ((a:Int)+(XA (s.drop a):Int)),Zir 0 0])) ⟨[.cells t [.d (.str s),.d (.int .i64 a)]],[],0⟩:=fun g=>by
   rw [g] at h;exact h
  refine ⟨Zb [],1,false,by simp,Ta rfl,?_⟩;(conv=>whnf);refine ⟨⟨by omega,by omega⟩,?_⟩;(conv=>whnf);refine ⟨⟨by omega,by omega,by omega⟩,?_⟩;(conv=>whnf);generalize hc0:(pk (s.drop ((a:Int)).toNat)).1=c at hpr ⊢;have hc:(pk (s.drop a)).1=c:=hc0;generalize hn0:Yh (s.drop ((a:Int)).toNat)=n;have hn:Yh (s.drop a)=n:=hn0;rw [hn] at hsl;refine ZAf (fun h2=>?_) (fun h2=>?_)
  ·obtain rfl:n=0:=by omega
   conv=>whnf
   refine ZAh (fun h3=>?_) (fun h3=>?_)
   ·conv=>whnf
    refine ⟨⟨by omega,by omega⟩,?_⟩;(conv=>whnf);refine ZAi (fun h4=>?_) (fun h4=>?_)
    ·have h4':Zf c=false:=by simpa using h4
     conv=>whnf
     refine ZAi (fun h5=>?_) (fun h5=>?_)
     ·have h5':Zj c=false:=by simpa using h5
      conv=>whnf
      (try (refine ⟨rfl,?_⟩;conv=>whnf))
      (try (refine ⟨rfl,?_⟩;conv=>whnf))
      exact hbad 140 (by rw [YR,hn,hc,Tf ⟨rfl,h3,h4',h5'⟩])
     ·have h5':Zj c=true:=by simpa using h5
      have hno:¬(0=0∧c≠34∧Zf c=false∧Zj c=false):=fun g=>by rw [h5'] at g;simp at g
      cases room with
      | false =>
       exact m65
      | true =>
       conv=>whnf
       refine ZAf (fun h6=>?_) (fun h6=>?_)
       ·exact absurd h6 (by simpa using h3)
       ·conv=>whnf
        refine ZAi (fun h7=>?_) (fun h7=>?_)
        ·conv=>whnf
         refine ⟨⟨by omega,by omega,by omega⟩,?_⟩;(conv=>whnf);have g:Xn a (s.drop a) true=XI a (s.drop a):=by
          rw [YR,hn,hc,Tc hno,Tc (by simp),Tc (by omega),Tc h3,Tf h5']
         rw [g] at h;exact h
        ·rw [h5'] at h7;cases h7
    ·have h4':Zf c=true:=by simpa using h4
     have h5':Zj c=false:=by
      have h4'':(c=95∨128≤c∨(97≤c∧c≤122)∨(65≤c∧c≤90)):=by simpa [Zf] using h4'
      simp only [Zj,decide_eq_false_iff_not];omega
     have hno:¬(0=0∧c≠34∧Zf c=false∧Zj c=false):=fun g=>by rw [h4'] at g;simp at g
     cases room with
     | false =>
      exact m65
     | true =>
      conv=>whnf
      refine ZAf (fun h6=>?_) (fun h6=>?_)
      ·exact absurd h6 (by simpa using h3)
      ·conv=>whnf
       refine ZAi (fun h7=>?_) (fun h7=>?_)
       ·rw [h5'] at h7;cases h7
       ·conv=>whnf
        refine ⟨⟨by omega,by omega,by omega⟩,?_⟩;(conv=>whnf);exact hn2 (by rw [YR,hn,hc,Tc hno,Tc (by simp),Tc (by omega),Tc h3,Tc (by rw [h5'];simp)])
   ·obtain rfl:c=34:=h3;have hno:¬(0=0∧(34:Int)≠34∧Zf 34=false∧Zj 34=false):=fun g=>g.2.1 rfl
    cases room with
    | false =>
     exact m65
    | true =>
     conv=>whnf
     refine ⟨⟨by omega,by omega,by omega⟩,?_⟩;(conv=>whnf);have g:Xn a (s.drop a) true=ZaQ a (s.drop a):=by
      rw [YR,hn,hc,Tc hno,Tc (by simp),Tc (by omega),Tf rfl]
     rw [g] at h;exact h
  ·have hno:¬(n=0∧c≠34∧Zf c=false∧Zj c=false):=fun g=>by omega
   cases room with
   | false =>
    exact m65
   | true =>
    conv=>whnf
    refine ZAf (fun h6=>?_) (fun h6=>?_)
    ·conv=>whnf
     refine oiO ?_;(conv=>whnf);refine ⟨by omega,by omega,by omega,?_⟩;(conv=>whnf);refine oiO ?_;(conv=>whnf)
     (try (refine ⟨rfl,?_⟩;conv=>whnf))
     (try (refine ⟨rfl,?_⟩;conv=>whnf))
     exact hsign n hn (by rw [YR,hn,hc,Tc hno,Tc (by simp),Tf (by omega)])
    ·omega
 ·exact h.elim
end Go.PM.Lex
end

section
namespace Go.PM.Lex
theorem Ziu (r:Bs) (h0:0≤(pk r).1) (h:(pk r).1<128):0<r.length∧(pk r).1=((r.getD 0 0).toNat:Int)∧(pk r).2=1:=by
 unfold pk at h h0 ⊢
 split at h
 ·rename_i g;rw [Tf g] at h0;simp at h0
 ·rename_i g
  simp only [not_or] at g;rw [Tc (by simp only [not_or];exact g)] at h0 ⊢;have hl:0<r.length:=List.length_pos_iff.2 g.1;refine ⟨hl,?_⟩;rw [Lib.decodeL_N] at h ⊢;rcases Lib.decodeN_shape r.length (r.getD 0 0).toNat (r.getD 1 0).toNat (r.getD 2 0).toNat (r.getD 3 0).toNat with ⟨c,e⟩ | ⟨c1,c2,c3,cv,e⟩ | ⟨c1,c2,c3,c4,cv,cs,e⟩ | ⟨c1,c2,c3,c4,c5,cv,cw,e⟩ | e
  ·rw [e];exact ⟨rfl,rfl⟩
  all_goals (rw [e] at h;dsimp only at h;omega)
theorem Ziv {c:Int}:Zf c=true↔(c=95∨128≤c∨(97≤c∧c≤122)∨(65≤c∧c≤90)):=by simp [Zf]
theorem isDigit_iff {c:Int}:Zj c=true↔(48≤c∧c≤57):=by simp [Zj]
theorem Ziw:∀(f:Nat) (r:Bs),Yy f r≤r.length
 | 0,r=>T3 _
 | f+1,r=>by
  have ih:=Ziw f (r.drop (pk r).2);rw [Tk] at ih;have hl:(pk r).1≠-1→(pk r).2≤r.length:=fun h=>(ZoR r h).2.1
  unfold Yy
  split
  ·rename_i h;have:=hl (by omega);split <;> omega
  ·split
   ·rename_i h
    have:=hl (fun h1=>by rw [h1,VR,Za4] at h;simp at h);omega
   ·omega
theorem ZoW (r:Bs) (h:Zf (pk r).1=true):1≤XA r∧XA r≤r.length:=by
 refine ⟨?_,Ziw _ _⟩;have:=Zit r;have h46:¬(pk r).1=46:=fun g=>by rw [g] at h;revert h;decide
 rw [XA,ZeG h46 (.inl h)];omega
theorem Zag:∀(f:Nat) (r:Bs) (esc:Bool) (acc:Bs) (p:Nat) (t:Bs) (l:Nat),ZG f r esc acc p=.ok t l→p<l∧l≤p+r.length
 | 0,r,esc,acc,p,t,l,h=>by simp [ZG] at h
 | f+1,r,esc,acc,p,t,l,h=>by
  unfold ZG at h
  split at h
  ·cases h
  ·rename_i hne
   have hd:=Lib.decodeL_le r hne;have hr:=Za5 r;split at h
   ·split at h
    ·cases h
    ·have:=Zag f _ _ _ _ _ _ h;rw [Tk] at this;omega
   ·split at h
    ·cases h;have:=List.length_pos_iff.2 hne;omega
    ·split at h
     ·have:=Zag f _ _ _ _ _ _ h;rw [Tk] at this;omega
     ·split at h
      ·cases h
      ·have:=Zag f _ _ _ _ _ _ h;rw [Tk] at this;omega
theorem ZoX (r:Bs):Zw r≤r.length:=by
 unfold Zw Zd
 have:=WM (Xx (Xc r)) (r.drop (if Xc r then 2 else 0));rw [Tk] at this
 by_cases h:Xc r=true
 ·have:=(Zz h).1;simp only [h,if_true] at *;omega
 ·simp only [h,Tr,if_false] at *;omega
theorem ZeH {a:Nat} {r:Bs} {room:Bool} {t:Tok} (h0:0<r.length) (h:Xn a r room=.tok t):t.at'=a∧a<t.fin∧t.fin≤a+r.length:=by
 rw [YR] at h;split at h
 ·cases h
 ·rename_i g0
  split at h
  ·cases h
  ·split at h
   ·cases h;rename_i g1;have:=ZoV r h0;exact ⟨rfl,by simp only;omega,by simp only;omega⟩
   ·rename_i g1
    split at h
    ·unfold ZaQ at h
     split at h
     ·cases h
     ·rename_i t' l hx
      cases h
      have:=Zag _ _ _ _ _ _ _ hx;rw [Tk] at this;exact ⟨rfl,by simp only;omega,by simp only;omega⟩
    ·rename_i g2
     split at h
     ·rename_i g3
      unfold XI at h
      split at h
      ·cases h
      ·rename_i n hx
       cases h
       have hle:=ZoX r;refine ⟨rfl,?_,by simp only;omega⟩;simp only;have hne:Zd r≠[]:=fun g=>by rw [ZJ,Tf g] at hx;cases hx
       have:=List.length_pos_iff.2 hne;unfold Zw;omega
     ·rename_i g3
      cases h
      have h4:Zf (pk r).1=true:=by
       cases hb:Zf (pk r).1 with
       | true=>rfl
       | false=>exact absurd ⟨by omega,g2,hb,by simpa using g3⟩ g0
      have:=ZoW r h4;exact ⟨rfl,by simp only;omega,by simp only;omega⟩
theorem Zix {a:Nat} {r:Bs} {room:Bool} {p e:Nat} (h:Xn a r room=.bad p e):e≠0∧e≤142:=by
 rw [YR] at h
 repeat' split at h
 all_goals first | (cases h;done) | (cases h;omega) | (cases h;decide) | skip
 ·unfold ZaQ at h;split at h <;> cases h;decide
 ·unfold XI at h;split at h <;> cases h;decide
theorem ZbK:∀(f:Nat) (r:Bs),(Zu f r).2≤r.length
 | 0,r=>T3 _
 | f+1,r=>by
  have hdw:=VS (([32,9,13,10]:Bs).contains ·) r
  obtain ⟨rest,hrest⟩:∃x,x=Lib.trimLeftS r [32,9,13,10]:=⟨_,rfl⟩
  have hr2:rest.length≤r.length:=by rw [hrest];exact hdw.2
  simp only [Zu,← hrest];split
  ·rename_i h1
   have ih:=fun n=>ZbK f (rest.drop n)
   have hlt:=VT 10 rest;have hge:=Lib.indexByte_ge rest 10;have ih2:=ih (if Lib.indexByte rest 10<0 then rest.length else (Lib.indexByte rest 10).toNat);rw [Tk] at ih2;simp only;have:(if Lib.indexByte rest 10<0 then rest.length else (Lib.indexByte rest 10).toNat)≤rest.length:=by split <;> omega
   omega
  ·split
   ·rename_i h1 h2
    have hl:=(Zz h2).1;split
    ·simp only;omega
    ·rename_i h3
     have hle:=Zhg [42,47] (rest.drop 2) (by omega);simp only [Tk,Td,Te] at hle;have ih2:=ZbK f (rest.drop ((Lib.index (rest.drop 2) [42,47]).toNat+4));rw [Tk] at ih2;simp only;omega
   ·simp only;omega
end Go.PM.Lex
end

section
namespace Go.PM.Lex
theorem Zuj {n len b0 b1 b2 b3 b1' b2' b3':Nat} (h1:1<n→b1'=b1) (h2:2<n→b2'=b2) (h3:3<n→b3'=b3) (hn:1≤n) (hd:(Lib.decodeN len b0 b1 b2 b3).2≤n) :
  Lib.decodeN (min n len) b0 b1' b2' b3'=Lib.decodeN len b0 b1 b2 b3:=by
 rcases Lib.decodeN_shape len b0 b1 b2 b3 with ⟨c,e⟩ | ⟨c1,c2,c3,cv,e⟩ | ⟨c1,c2,c3,c4,cv,cs,e⟩ | ⟨c1,c2,c3,c4,c5,cv,cw,e⟩ | e
 ·rw [e];unfold Lib.decodeN;rw [Tf c]
 ·rw [e] at hd ⊢;simp only at hd;rw [h1 (by omega)];unfold Lib.decodeN
  rw [Tc (by omega),Tf ⟨c1,by omega,c3⟩,Tf (by omega)]
 ·rw [e] at hd ⊢;simp only at hd;rw [h1 (by omega),h2 (by omega)];unfold Lib.decodeN
  rw [Tc (by omega),Tc (by omega),Tf ⟨c1,⟨by omega,c3⟩,by omega,c4⟩,Tf ⟨by omega,by omega⟩]
 ·rw [e] at hd ⊢;simp only at hd;rw [h1 (by omega),h2 (by omega),h3 (by omega)];unfold Lib.decodeN
  rw [Tc (by omega),Tc (by omega),Tc (by omega),Tf ⟨c1,⟨by omega,c3⟩,⟨by omega,c4⟩,by omega,c5⟩,Tf ⟨by omega,by omega⟩]
 ·rw [e];rcases Lib.decodeN_shape (min n len) b0 b1' b2' b3' with ⟨c,e'⟩ | ⟨c1,c2,c3,cv,e'⟩ | ⟨c1,c2,c3,c4,cv,cs,e'⟩ | ⟨c1,c2,c3,c4,c5,cv,cw,e'⟩ | e'
  ·unfold Lib.decodeN at e;rw [Tf c] at e;rw [e',← e]
  ·rw [h1 (by omega)] at c3 cv;unfold Lib.decodeN at e
   rw [Tc (by omega),Tf ⟨c1,by omega,c3⟩,Tf (by omega)] at e;simp at e
  ·rw [h1 (by omega),h2 (by omega)] at *;unfold Lib.decodeN at e
   rw [Tc (by omega),Tc (by omega),Tf ⟨c1,⟨by omega,c3⟩,by omega,c4⟩,Tf ⟨by omega,by omega⟩] at e;simp at e
  ·rw [h1 (by omega),h2 (by omega),h3 (by omega)] at *;unfold Lib.decodeN at e
   rw [Tc (by omega),Tc (by omega),Tc (by omega),Tf ⟨c1,⟨by omega,c3⟩,⟨by omega,c4⟩,by omega,c5⟩,Tf ⟨by omega,by omega⟩] at e;simp at e
  ·exact e'
theorem ZbL (r:Bs) (n k:Nat):(r.take n).getD k 0=if k<n then r.getD k 0 else 0:=by
 simp only [TS,List.getElem?_take];split <;> simp
theorem Zrn {r:Bs} {n:Nat} (hn:1≤n) (hd:(Lib.decodeL r).2≤n):Lib.decodeL (r.take n)=Lib.decodeL r:=by
 rw [Lib.decodeL_N] at hd ⊢;rw [Lib.decodeL_N,Sl,ZbL,ZbL,ZbL,ZbL,Tf (by omega)];exact Zuj (fun h=>by rw [Tf h]) (fun h=>by rw [Tf h]) (fun h=>by rw [Tf h]) hn hd
theorem Znc (f:Nat):Yy f []=0:=by
 cases f with
 | zero=>rfl
 | succ f=>exact ZcE (by simp [Zgp]) (by simp [Zgp];decide) (by simp [Zgp];decide)
theorem ZoY {c:Int} (h:Zf c=true∨Zj c=true):c≠-1:=fun h1=>by rw [h1,VR,Za4] at h;simp at h
end Go.PM.Lex
end

section
namespace Go.PM
def ZoZ (T:Tab) (tbl:Tbl) (it:Zm9) (gid:FuncId) (fn:Func):Zm9:=fun g args raw σ K=>∃loops,ZoM T tbl it gid fn loops g args raw σ K
theorem Zkt {G : GE} {T : Tab} {tbl : Tbl} (hT : TabOK T G.P) (hmix : G.P.follows .mixedOrders = true) (ht : TblOK G tbl) {it : Zm9} (hit : US G it) {gid : FuncId} {fn : Func} {c : Code} (hf : G.P.funcs[gid]? = some fn) (hb : fn.body = some c) (hname : (fn.name == "runtime.NumGoroutine") = false)
  (hok:ZL fn.ntmps c=true):US G (ZoZ T tbl it gid fn):=fun g args raw σ K h=>by
 obtain ⟨loops,h⟩:=h;exact Znb hT hmix ht hit hf hb hname hok loops g args raw σ K h
end Go.PM
namespace Go.PM.Lex
open Go.Proofs
variable {w0:World} {nG:Nat}
noncomputable def Zo0:Zr:=fun args σ K=>match args,σ with
 | [.d (.str s),.d (.int .i64 m)],⟨[],[],0⟩=>K (.ret (.func 225 [] [.ptr 0 0,.ptr 1 0])) ⟨[.cells 9 [.d (.str s)],.cells 3 [.d (.int .i64 m)]],[],0⟩
 | _,_=>False
theorem Znd:Za Zo0:=fun args σ K K' hK h=>by
 unfold Zo0 at h ⊢;split at h <;> first | exact hK _ _ h | exact h.elim
theorem Zwu:PCalls (GG w0 nG) 160 Zo0:=by
 refine pc (tbl:=[]) trivial Tryz.func160 ?_;intro args σ K h
 unfold Zo0 at h
 split at h
 ·rename_i s m
  refine ⟨Zb [],2,false,by simp,Ta rfl,?_⟩;exact m54
 ·exact h.elim
def Zro (t:Tok):List D:=[.int .u8 t.kind,.str t.text,.int .i64 t.n,.int .i64 t.at',.int .i64 t.fin]
def Zv (l:List Tok):List (List D):=l.map Zro
theorem ZC (l:List Tok):(Zv l).length=l.length:=by simp [Zv]
theorem Zgr (l:List Tok) (t:Tok):Zv (l++[t])=Zv l++[Zro t]:=by simp [Zv]
noncomputable def ZbM:Zr:=fun args σ K=>match args,σ with
 | [.d (.str s),.d (.int .i64 m)],⟨[],[],0⟩=>s.length<4294967281 ∧
   K (.ret (.tuple [.d (.sl (if (VG s m).2.2=0 then Zv (VG s m).1 else [])),.d (.int .i64 (VG s m).2.1),.d (.int .i64 (VG s m).2.2)])) ⟨[],[],0⟩
 | _,_=>False
noncomputable def Zhh:Tbl:=[(226,ZcD),(227,Zgo)]
noncomputable def Zo1:Tbl:=[(160,Zo0)]
noncomputable def Zyi:Zm9:=ZoZ Zko Zhh WJ 225 Tryz.f225
theorem Zo2 (ht:TblOK (GG w0 nG) Zhh):US (GG w0 nG) Zyi:=Zkt Z8 mixed ht Y0 Tryz.func225 rfl (by kernel_rfl) (by kernel_rfl)
def muX (B:Int) (k:Nat):List PV→St→Nat:=fun _ σ=>match σ.bx[k]? with | some (.cells _ (_::.d (.int _ n)::_))=>(B - n).toNat | _=>0
theorem Zo3 (ht1:TblOK (GG w0 nG) Zhh) (ht:TblOK (GG w0 nG) Zo1):PCalls (GG w0 nG) 79 ZbM:=by
 refine ZoN Z8 mixed ht (Zo2 ht1) Tryz.func79 rfl (by kernel_rfl) (by kernel_rfl) ?_;intro args σ K h
 unfold ZbM at h
 split at h
 ·rename_i s m
  obtain ⟨hs,h⟩:=h;refine ⟨Zb [],0,false,by simp,Ta rfl,?_⟩;(conv=>whnf);intro y r
  refine ⟨Zb [(3,⟨[5],[0,1,2,4],fun vs σ=>∃(l:List Tok) (e f:Nat),vs=[.d (.int .i64 (l.length:Int))] ∧
   σ=⟨[.cells 134 [.sl 0 218 []],.cells 3 [.d (.int .i64 0)],.cells 27 [.d (.int .i64 0)],.cells 134 [.sl 1 218 (Zv l)],.cells 9 [.d (.str s)],.cells 3 [.d (.int .i64 m)],.loop .ready none r,.cells 251 [.d (.str s),.d (.int .i64 e)]],[1,0],2⟩ ∧
   (e≤s.length∧s.length<e+f∧l.length≤e)∧VG s m=(l++(Xd f (m - l.length) e (s.drop e)).1,(Xd f (m - l.length) e (s.drop e)).2),muX s.length 7⟩)],rfl,?_⟩
  conv=>whnf
  refine ⟨⟨[],0,s.length+1,rfl,rfl,⟨by omega,by omega,by simp⟩,by simp [VG]⟩,?_⟩;intro vs σ1 hI
  obtain ⟨l,e,f,rfl,rfl,⟨he1,he2,hle⟩,hall⟩:=hI;obtain ⟨f,rfl⟩:∃g,f=g+1:=⟨f - 1,by omega⟩
  have hbl:(Zt (s.drop e)).2≤s.length - e:=by have:(Zt (s.drop e)).2≤(s.drop e).length:=ZbK _ _;rw [Tk] at this;exact this
  have hbad:∀p c:Nat,(Xd (f+1) (m - l.length) e (s.drop e)).2=(p,c)→c≠0→K (.ret (.tuple [.d (.sl []),.d (.int .i64 p),.d (.int .i64 c)])) ⟨[],[],0⟩:=fun p c g1 g2=>by
   have e1:(VG s m).2=(p,c):=by rw [hall];exact g1
   rw [e1] at h;simp only at h;rw [Tc g2] at h;exact h
  have hend:Xd (f+1) (m - l.length) e (s.drop e)=([],(0,0))→K (.ret (.tuple [.d (.sl (Zv l)),.d (.int .i64 0),.d (.int .i64 0)])) ⟨[],[],0⟩:=fun g=>by
   rw [hall,g] at h;simp only [T2,if_true] at h;exact h
  conv=>whnf
  refine ⟨⟨by omega,by omega,by omega⟩,?_⟩;(conv=>whnf);generalize hk0:(Zt (s.drop ((e:Int)).toNat)).2=k;have hk:(Zt (s.drop e)).2=k:=hk0;rw [hk] at hbl;refine ZAi (fun h2=>?_) (fun h2=>?_)
  ·have h2':(Zt (s.drop e)).1=false:=by simpa using h2
   have g1:Xd (f+1) (m - l.length) e (s.drop e)=([],(e+k,140)):=by rw [Xd,Tf h2',hk]
   have g2:=hbad _ _ (by rw [g1]) (by decide);rw [show ((e+k:Nat):Int)=(e:Int)+(k:Int) by omega] at g2;(conv=>whnf);refine ⟨rfl,rfl,rfl,?_⟩;(conv=>whnf);refine ⟨rfl,?_⟩;(conv=>whnf)
   iterate 6 (try (refine ⟨rfl,?_⟩;conv=>whnf))
   exact g2
  ·have h2':(Zt (s.drop e)).1=true:=by simpa using h2
   have hb1:¬(Zt (s.drop e)).1=false:=by rw [h2'];simp
   conv=>whnf
   refine ZAf (fun h3=>?_) (fun h3=>?_)
   ·have hnil:(s.drop e).drop k=[]:=by rw [Tu];exact Tz (by omega)
    have g1:Xd (f+1) (m - l.length) e (s.drop e)=([],(0,0)):=by rw [Xd,Tc hb1,hk,Tf hnil]
    conv=>whnf
    exact hend g1
   ·have hlt:e+k<s.length:=by omega
    have hne:¬(s.drop e).drop k=[]:=fun g=>by have:=congrArg List.length g;rw [Tu,Tk] at this;simp at this;omega
    have g1:Xd (f+1) (m - l.length) e (s.drop e)=(match Xn (e+k) (s.drop (e+k)) (decide ((l.length:Int)<m)) with
      | .bad p e=>([],(p,e))
      | .tok t=>(t::(Xd f (m - l.length - 1) t.fin ((s.drop (e+k)).drop (t.fin - (e+k)))).1,(Xd f (m - l.length - 1) t.fin ((s.drop (e+k)).drop (t.fin - (e+k)))).2)):=by
     rw [Xd,Tc hb1,hk,Tc hne,Tu,show (decide (0<m - (l.length:Int)))=decide ((l.length:Int)<m) from by rw [decide_eq_decide];omega]<;>rfl
    conv=>whnf
    refine ⟨⟨by omega,by omega,by omega⟩,?_⟩;(conv=>whnf);generalize hx0:Xn ((e:Int)+(k:Int)).toNat (s.drop ((e:Int)+(k:Int)).toNat) _=x;have hx:Xn (e+k) (s.drop (e+k)) (decide ((l.length:Int)<m))=x:=by
     rw [show ((e:Int)+(k:Int)).toNat=e+k by omega] at hx0;exact hx0
    rw [hx] at g1
    cases x with
    | bad p c =>
     have hc:=Zix hx;have g2:=hbad p c (by rw [g1]) hc.1;(conv=>whnf);refine ⟨rfl,rfl,rfl,?_⟩;(conv=>whnf);refine ⟨rfl,?_⟩;(conv=>whnf);refine ZAh (fun h4=>?_) (fun h4=>?_)
     ·conv=>whnf
      iterate 6 (try (refine ⟨rfl,?_⟩;conv=>whnf))
      exact g2
     ·exact absurd h4 (by have:((c:Nat):Int)≠0:=(by omega);exact this)
    | tok t =>
     obtain ⟨ht1,ht2,ht3⟩:=ZeH (by rw [Tk];omega) hx;rw [Tk] at ht3;(conv=>whnf);refine ⟨rfl,rfl,rfl,?_⟩;(conv=>whnf);refine ⟨rfl,?_⟩;(conv=>whnf);refine ⟨fun r hr=>by (simp at hr;subst hr;rfl),(show ((Zv l).length+1) * 48≤2 ^ 47 by rw [ZC];omega),(show (Zv l).length+1≤2 ^ 47 by rw [ZC];omega),?_⟩;(conv=>whnf)
     iterate 3 (try (refine ⟨rfl,?_⟩;conv=>whnf))
     refine oiO ?_;(conv=>whnf);refine ⟨⟨l++[t],t.fin,f,?_,?_,⟨by omega,by omega,by rw [Tb];simp;omega⟩,?_⟩,?_⟩
     ·rw [Tb];rfl
     ·rw [Zgr];rfl
     ·exact m115
     ·exact (show ((s.length:Int) - (t.fin:Int)).toNat<((s.length:Int) - (e:Int)).toNat by omega)
 ·exact h.elim
end Go.PM.Lex
end

section
namespace Go.PM.Lex
abbrev ws:Bs:=[32,9,13,10]
theorem Zuk {a b:UInt8}:Lib.hasPrefix [] [a,b]=false:=rfl
theorem Zku (f:Nat):Zu (f+1) []=(true,0):=by simp [Zu,Lib.trimLeftS,Zuk]
theorem Vu {f:Nat} {r:Bs} (h1:Lib.hasPrefix (Lib.trimLeftS r ws) [47,47]=false) (h2:Lib.hasPrefix (Lib.trimLeftS r ws) [47,42]=false):Zu (f+1) r=(true,r.length - (Lib.trimLeftS r ws).length):=by
 simp only [Zu,h1,h2,Tr,if_false]
theorem WN {f:Nat} {r:Bs} (h1:Lib.hasPrefix (Lib.trimLeftS r ws) [47,47]=true) (n:Nat) (hn:n=if Lib.indexByte (Lib.trimLeftS r ws) 10<0 then (Lib.trimLeftS r ws).length else (Lib.indexByte (Lib.trimLeftS r ws) 10).toNat) :
  Zu (f+1) r=((Zu f ((Lib.trimLeftS r ws).drop n)).1,r.length - (Lib.trimLeftS r ws).length+n+(Zu f ((Lib.trimLeftS r ws).drop n)).2):=by
 subst hn;simp only [Zu,h1,if_true]
theorem WO {f:Nat} {r:Bs} (h1:Lib.hasPrefix (Lib.trimLeftS r ws) [47,47]=false) (h2:Lib.hasPrefix (Lib.trimLeftS r ws) [47,42]=true) (h3:Lib.index ((Lib.trimLeftS r ws).drop 2) [42,47]<0):Zu (f+1) r=(false,r.length - (Lib.trimLeftS r ws).length):=by
 simp only [Zu,h1,h2,h3,if_true,Tr,if_false]
theorem Vv {f:Nat} {r:Bs} (h1:Lib.hasPrefix (Lib.trimLeftS r ws) [47,47]=false) (h2:Lib.hasPrefix (Lib.trimLeftS r ws) [47,42]=true) (i:Nat) (h3:Lib.index ((Lib.trimLeftS r ws).drop 2) [42,47]=i) :
  Zu (f+1) r=((Zu f ((Lib.trimLeftS r ws).drop (i+4))).1,r.length - (Lib.trimLeftS r ws).length+(i+4)+(Zu f ((Lib.trimLeftS r ws).drop (i+4))).2):=by
 simp only [Zu,h1,h2,h3,if_true,Tr,if_false];rw [Tc (by omega)];simp
theorem Zo4 (r:Bs):(Lib.trimLeftS r ws).length≤r.length:=(VS (ws.contains ·) r).2
theorem Zne:Zt []=(true,0):=Zku 0
end Go.PM.Lex
end

section
namespace Go.PM.Lex
end Go.PM.Lex
end

section
namespace Go.PM.Lex
def ZcF (c:Nat):Option UInt8:=if c=10 then some 110 else if c=9 then some 116 else if c=34 then some 34 else if c=92 then some 92 else none
def W6:Nat→Bs→Bs→Option Bs
 | 0,_,_=>none
 | f+1,r,out=>if r=[] then some out else match ZcF (Lib.decodeL r).1 with
  | some b=>W6 f (r.drop (Lib.decodeL r).2) (out++[92,b])
  | none=>if (Lib.decodeL r).1<32 then none else W6 f (r.drop (Lib.decodeL r).2) (out++Lib.encodeRune (Lib.decodeL r).1)
def WP (s:Bs):Option Bs:=if Lib.validD s=true then (W6 (s.length+1) s [34]).map (·++[34]) else none
end Go.PM.Lex
end

section
namespace Go.PM.Lex
open Go.Proofs
variable {w0:World} {nG:Nat}
noncomputable def Zgs:Zr:=fun args σ K=>match args,σ with
 | [.d (.int .i32 c)],⟨[],[],0⟩=>K (.ret (.d (.bool (Zf c)))) ⟨[],[],0⟩
 | _,_=>False
theorem ZeI:Za Zgs:=fun args σ K K' hK h=>by
 unfold Zgs at h ⊢;split at h <;> first | exact hK _ _ h | exact h.elim
theorem ZbN:PCalls (GG w0 nG) 285 Wi:=by
 refine pc (tbl:=[]) trivial Tryz.func285 ?_;exact m72
theorem Zgt:PCalls (GG w0 nG) 284 Zgs:=by
 refine pc (tbl:=[]) trivial Tryz.func284 ?_;intro args σ K h
 unfold Zgs at h
 split at h
 ·rename_i c
  refine ⟨Zb [],0,false,by decide,Ta rfl,?_⟩
  repeat' ((conv=>whnf);refine ZAf (fun h1=>?_) (fun h1=>?_))
  all_goals (conv=>whnf)
  all_goals (refine ZbG h ?_;simp only [Zf,TG,decide_eq_false_iff_not,decide_eq_decide];omega)
 ·exact h.elim
noncomputable def ZeJ:Zr:=fun args σ K=>match args,σ with
 | [.d (.str s),.d (.int .i64 a),.d (.int .i64 e)],⟨[],[],0⟩=>(0≤a∧a≤e∧e≤s.length∧s.length<4294967281) ∧
   (3≤e - a∧cut s a.toNat (a.toNat+3)=[239,191,189]→K (.ret (.tuple [.d (.int .i32 65533),.d (.int .i64 3)])) ⟨[],[],0⟩) ∧
   (¬(3≤e - a∧cut s a.toNat (a.toNat+3)=[239,191,189])→K (.ret (.tuple [.d (.int .i32 (-1)),.d (.int .i64 1)])) ⟨[],[],0⟩)
 | _,_=>False
theorem Ziy:Za ZeJ:=fun args σ K K' hK h=>by
 unfold ZeJ at h ⊢
 split at h
 ·exact ⟨h.1,fun g=>hK _ _ (h.2.1 g),fun g=>hK _ _ (h.2.2 g)⟩
 ·exact h.elim
theorem Zrp:PCalls (GG w0 nG) 232 ZeJ:=by
 refine pc (tbl:=[]) trivial Tryz.func232 ?_;intro args σ K h
 unfold ZeJ at h
 split at h
 ·rename_i s a e
  obtain ⟨⟨h0,h1,h2,h3⟩,hA,hB⟩:=h;refine ⟨Zb [],0,false,by decide,Ta rfl,?_⟩;(conv=>whnf);refine oiO ?_;(conv=>whnf);refine ZAf (fun h4=>?_) (fun h4=>?_)
  ·conv=>whnf
   refine oiO ?_;(conv=>whnf);refine ⟨h0,by omega,by omega,?_⟩;(conv=>whnf);have ec:cut s a.toNat (a+3).toNat=cut s a.toNat (a.toNat+3):=by rw [show (a+3).toNat=a.toNat+3 by omega]
   refine ZAf (fun h5=>?_) (fun h5=>?_)
   ·conv=>whnf
    exact hA ⟨h4,by rw [← ec];exact h5⟩
   ·conv=>whnf
    exact hB (fun g=>h5 (by rw [ec];exact g.2))
  ·conv=>whnf
   exact hB (fun g=>h4 g.1)
 ·exact h.elim
noncomputable def Zdj:Zr:=fun args σ K=>match args,σ with
 | [.d (.str s),.d (.int .i64 a)],⟨[],[],0⟩=>(0≤a∧a≤s.length∧s.length<4294967281) ∧
   K (.ret (.tuple [.d (.int .i32 (pk (s.drop a.toNat)).1),.d (.int .i64 (pk (s.drop a.toNat)).2)])) ⟨[],[],0⟩
 | _,_=>False
theorem U0:Za Zdj:=fun args σ K K' hK h=>by
 unfold Zdj at h ⊢;split at h <;> first | exact ⟨h.1,hK _ _ h.2⟩ | exact h.elim
theorem Zrq (r:Bs) (h:(Lib.decodeL r).1≠65533):(Lib.decodeL r).2=if (Lib.decodeL r).1<128 then 1 else if (Lib.decodeL r).1<2048 then 2 else if (Lib.decodeL r).1<65536 then 3 else 4:=by
 rw [Lib.decodeL_N] at h ⊢;have k0:=(r.getD 0 0).toNat_lt;rcases Lib.decodeN_shape r.length (r.getD 0 0).toNat (r.getD 1 0).toNat (r.getD 2 0).toNat (r.getD 3 0).toNat with ⟨c,e⟩ | ⟨c1,c2,c3,cv,e⟩ | ⟨c1,c2,c3,c4,cv,cs,e⟩ | ⟨c1,c2,c3,c4,c5,cv,cw,e⟩ | e
 all_goals (rw [e] at h ⊢;dsimp only at h ⊢)
 ·rw [Tf c]
 ·rw [Tc (by omega),Tf (by omega)]
 ·rw [Tc (by omega),Tc (by omega),Tf (by omega)]
 ·rw [Tc (by omega),Tc (by omega),Tc (by omega)]
 ·exact absurd rfl h
theorem ZzU (s:Bs) (a:Nat) (h:3≤s.length - a):cut s a (a+3)=[239,191,189]↔Lib.hasPrefix (s.drop a) [239,191,189]=true:=by
 rw [X8,Nat.add_sub_cancel_left];unfold Lib.hasPrefix
 rw [List.isPrefixOf_iff_prefix,List.prefix_iff_eq_take];exact ⟨fun g=>by rw [← g];simp,fun g=>g.symm⟩
def ZzV (B:Nat):List PV→St→Nat:=fun _ σ=>match σ.bx with | [.iter _ p]=>B - p | _=>0
noncomputable def Zul:Tbl:=[(232,ZeJ)]
theorem Zhi:PCalls (GG w0 nG) 165 Zdj:=by
 refine pc (tbl:=Zul) ⟨⟨Zrp,Ziy⟩,trivial⟩ Tryz.func165 ?_;intro args σ K h
 unfold Zdj at h
 split at h
 ·rename_i s a
  obtain ⟨⟨h0,h1,hs⟩,h⟩:=h;obtain ⟨a,rfl⟩:∃n:Nat,a=n:=⟨a.toNat,by omega⟩
  simp only [Tj] at h;obtain ⟨u,hu⟩:∃u,u=(s.drop a).take 4:=⟨_,rfl⟩
  have hul:u.length=min 4 (s.length - a):=by rw [hu,Sl,Tk]
  have hd0:s.length≠a→decodeL u 0=Lib.decodeL (s.drop a):=fun hne=>by
   rw [ZeA,Sh,hu];exact Zrn (by omega) (Za5 _).2.2
  have hdr:=Za5 (s.drop a);have hdl:=Lib.decodeL_le (s.drop a);rw [Tk] at hdl;have hfff:=Zyh (s.drop a);have hcut3:=ZzU s a;refine ⟨Zb [(2,⟨[],[0,1,16],fun vs σ=>vs=[]∧∃p:Nat,σ=⟨[.iter u p],[],0⟩∧(p=0∨(s.length≠a∧p=(Lib.decodeL (s.drop a)).2∧(Lib.decodeL (s.drop a)).1=65533)),ZzV u.length⟩)],0,false,by decide,Ta rfl,?_⟩;have hcu:cut s ((a:Int)).toNat (min ((a:Int)+4) (s.length:Int)).toNat=u:=by
   rw [X8,hu]
   by_cases h4:(a:Int)+4≤s.length
   ·rw [Int.min_eq_left h4];congr 1;omega
   ·exact m76
  have fin:∀e:Int,((Lib.decodeL (s.drop a)).1=65533∧s.length≠a∧(e=a+(Lib.decodeL (s.drop a)).2∨((Lib.decodeL (s.drop a)).2≥u.length∧e=a+u.length)))∨(s.length=a∧e=a) →
    (3≤e - a∧cut s ((a:Int)).toNat (((a:Int)).toNat+3)=[239,191,189]→K (.ret (.tuple [.d (.int .i32 65533),.d (.int .i64 3)])) ⟨[],[],0⟩) ∧
    (¬(3≤e - a∧cut s ((a:Int)).toNat (((a:Int)).toNat+3)=[239,191,189])→K (.ret (.tuple [.d (.int .i32 (-1)),.d (.int .i64 1)])) ⟨[],[],0⟩):=fun e he=>by
   simp only [Tj];rcases he with ⟨hv,hne,he⟩ | ⟨hne,he⟩
   ·have hl:0<(s.drop a).length:=by rw [Tk];omega
    have hdl':=hdl (fun g=>by rw [g] at hl;simp at hl);refine ⟨fun g=>?_,fun g=>?_⟩
    ·rw [ZoQ _ hl ((hcut3 (by omega)).1 g.2) hv] at h;exact h
    ·have:¬Lib.hasPrefix (s.drop a) [239,191,189]=true:=fun gp=>by
      have hl3:=(ZzD _).1 gp;rw [Tk] at hl3;rcases hfff hv with ⟨_,g2⟩ | ⟨g1,_⟩
      ·exact g ⟨by omega,(hcut3 (by omega)).2 gp⟩
      ·exact g1 gp
     rw [Zto _ this hv] at h;exact h
   ·refine ⟨fun g=>by omega,fun g=>?_⟩;rw [Tz (by omega),Zgp] at h;exact h
  conv=>whnf
  refine oiO ?_;(conv=>whnf);refine ⟨by omega,by omega,by omega,?_⟩;(conv=>whnf);rw [hcu];refine ⟨⟨rfl,0,rfl,.inl rfl⟩,?_⟩;intro vs σ1 hI
  obtain ⟨rfl,p,rfl,hp⟩:=hI;(conv=>whnf);refine ZAf (fun h2=>?_) (fun h2=>?_)
  ·rcases hp with rfl | ⟨hp0,rfl,hp2⟩
   ·have hd:=hd0 (by omega);(conv=>whnf);refine ZAh (fun h3=>?_) (fun h3=>?_)
    ·have hv:(Lib.decodeL (s.drop a)).1≠65533:=by rw [hd] at h3;omega
     have hpk:=ZlG (s.drop a) (by rw [Tk];omega) hv;have hsz:=Zrq _ hv;rw [hpk] at h;rw [← hd] at h hsz;simp only at h;generalize hc:((decodeL u 0).1:Int)=c at h ⊢;(conv=>whnf);refine ZAf (fun h4=>?_) (fun h4=>?_)
     ·conv=>whnf
      rw [hsz,Tf (by omega)] at h;exact h
     ·conv=>whnf
      refine ZAf (fun h5=>?_) (fun h5=>?_)
      ·conv=>whnf
       rw [hsz,Tc (by omega),Tf (by omega)] at h;exact h
      ·conv=>whnf
       refine ZAf (fun h6=>?_) (fun h6=>?_)
       ·conv=>whnf
        rw [hsz,Tc (by omega),Tc (by omega),Tf (by omega)] at h;exact h
       ·conv=>whnf
        rw [hsz,Tc (by omega),Tc (by omega),Tc (by omega)] at h;exact h
    ·have hv:(Lib.decodeL (s.drop a)).1=65533:=by rw [hd] at h3;omega
     conv=>whnf
     refine ⟨⟨rfl,0+(decodeL u 0).2,rfl,.inr ⟨by omega,by rw [hd,T7],hv⟩⟩,?_⟩;exact (show u.length - (0+(decodeL u 0).2)<u.length - 0 by rw [hd];omega)
   ·have hl:=hdl (fun g=>by have:=congrArg List.length g;rw [Tk] at this;simp at this;omega);(conv=>whnf);refine ZAf (fun h3=>?_) (fun h3=>?_)
    ·conv=>whnf
     refine oiO ?_;(conv=>whnf);refine ⟨⟨by omega,by omega,by omega,hs⟩,?_⟩;obtain ⟨f1,f2⟩:=fin ((a:Int)+((Lib.decodeL (s.drop a)).2:Int)) (.inl ⟨hp2,hp0,.inl rfl⟩);refine ⟨fun g=>?_,fun g=>?_⟩
     ·conv=>whnf
      exact f1 g
     ·conv=>whnf
      exact f2 g
    ·omega
  ·conv=>whnf
   refine oiO ?_;(conv=>whnf);refine ⟨⟨by omega,by omega,by omega,hs⟩,?_⟩;obtain ⟨f1,f2⟩:=fin (min ((a:Int)+4) (s.length:Int)) (by
    rcases hp with rfl | ⟨hp0,rfl,hp2⟩
    ·exact .inr ⟨by omega,by omega⟩
    ·exact .inl ⟨hp2,hp0,.inr ⟨by omega,by omega⟩⟩)
   refine ⟨fun g=>?_,fun g=>?_⟩
   ·conv=>whnf
    exact f1 g
   ·conv=>whnf
    exact f2 g
 ·exact h.elim
noncomputable def U1:Zr:=fun args σ K=>match args,σ with
 | [.d (.str s),.d (.int .i64 a)],⟨[],[],0⟩=>(0≤a∧s.length<4294967281)∧K (.ret (.d (.bool (Zf (pk (s.drop a.toNat)).1)))) ⟨[],[],0⟩
 | _,_=>False
theorem WQ:Za U1:=fun args σ K K' hK h=>by
 unfold U1 at h ⊢;split at h <;> first | exact ⟨h.1,hK _ _ h.2⟩ | exact h.elim
noncomputable def Zrr:Tbl:=[(165,Zdj),(284,Zgs)]
theorem ZbO:PCalls (GG w0 nG) 230 U1:=by
 refine pc (tbl:=Zrr) ⟨⟨Zhi,U0⟩,⟨Zgt,ZeI⟩,trivial⟩ Tryz.func230 ?_;intro args σ K h
 unfold U1 at h
 split at h
 ·rename_i s a
  obtain ⟨⟨h0,hs⟩,h⟩:=h;refine ⟨Zb [],0,false,by decide,Ta rfl,?_⟩;(conv=>whnf);refine ZAf (fun h1=>?_) (fun h1=>?_)
  ·conv=>whnf
   rw [Tz (by omega),Zgp,VR] at h;exact h
  ·conv=>whnf
   refine ⟨⟨h0,by omega,hs⟩,?_⟩;exact m54
 ·exact h.elim
end Go.PM.Lex
end
