/- A part of the proof: plain logic, contracts and laws over the given program. -/
import Derived.Lib.MapLaws
import Derived.Lib.Strings
import Derived.Lib.Bytealg
import Derived.Lib.Index
import Derived.Lib.SlTrimSet
import Derived.Test.YtkoicjdlpkaopaaGreatDoorProg
import Derived.Lib.Small
import Derived.Lib.IndexAny
import Derived.Lib.ValidU
import Derived.Test.YtkoicjdlpkaopaaGreatDoorShelf
import Derived.Shelf.Strings.SlTrimAscii
import Derived.Test.YtkoicjdlpkaopaaGreatDoorValid
import Derived.Shelf.Unicode.ValidAny
import Derived.Test.YtkoicjdlpkaopaaGreatDoorU04
set_option linter.unusedVariables false
set_option linter.unusedSimpArgs false
set_option linter.all false
set_option maxRecDepth 100000
set_option maxHeartbeats 16000000
section
namespace Go.PM.Lex
abbrev Bs:=List UInt8
def Zl (c:Int):Bool:=decide (48<=c/\c<=57)
def Zi (c:Int):Bool:=decide (c=95\/128<=c\/(97<=c/\c<=122)\/(65<=c/\c<=90))
def pk (r:Bs):Int×Nat:=if r=[]\/Lib.decodeL r=(65533,1) then (-1,1) else ((Lib.decodeL r).1,(Lib.decodeL r).2)
def YF:Nat->Bs->Nat
 | 0,_=>0
 | f+1,r=>if (pk r).1=46 then (if Zi (pk (r.drop 1)).1=true then (pk r).2+YF f (r.drop (pk r).2) else 0)
   else if Zi (pk r).1=true\/Zl (pk r).1=true then (pk r).2+YF f (r.drop (pk r).2) else 0
def XD (r:Bs):Nat:=YF (r.length+1) r
def Zx:Nat->Bs->Bool×Nat
 | 0,_=>(false,0)
 | f+1,r =>
  let rest:=Lib.trimLeftS r [32,9,13,10]
  let k:=r.length - rest.length
  if Lib.hasPrefix rest [47,47]=true then
   let n:=if Lib.indexByte rest 10<0 then rest.length else (Lib.indexByte rest 10).toNat
   let t:=Zx f (rest.drop n)
   (t.1,k+n+t.2)
  else if Lib.hasPrefix rest [47,42]=true then
   if Lib.index (rest.drop 2) [42,47]<0 then (false,k) else
   let n:=(Lib.index (rest.drop 2) [42,47]).toNat+4
   let t:=Zx f (rest.drop n)
   (t.1,k+n+t.2)
  else (true,k)
def Zw (r:Bs):Bool×Nat:=Zx (r.length+1) r
def Xz (gj:Bool) (b:UInt8):Bool:=Zl b.toNat || (gj && decide ((97<=b.toNat/\b.toNat<=102)\/(65<=b.toNat/\b.toNat<=70)))
def Zax (b:UInt8):Nat:=if b.toNat<=57 then b.toNat - 48 else if b.toNat<=70 then b.toNat - 55 else b.toNat - 87
def XE (base:Nat) (l:Bs):Nat:=l.foldl (fun n b=>n * base+Zax b) 0
def Xj (r:Bs):Bool:=Lib.hasPrefix r [48,120]
def Zf (r:Bs):Bs:=(r.drop (if Xj r then 2 else 0)).takeWhile (Xz (Xj r))
def Zz (r:Bs):Nat:=(if Xj r then 2 else 0)+(Zf r).length
def ZP (r:Bs):Option Nat :=
 if Zf r=[] then none
 else if (if Xj r then 18446744073709551616 else 9223372036854775808)<=XE (if Xj r then 16 else 10) (Zf r) then none
 else if Zi (pk (r.drop (Zz r))).1=true\/Zl (pk (r.drop (Zz r))).1=true\/(Xj r=true/\16<(Zf r).length) then none
 else some (XE (if Xj r then 16 else 10) (Zf r))
def Zh1 (c:Nat):Option UInt8:=if c=110 then some 10 else if c=116 then some 9 else if c=34 then some 34 else if c=92 then some 92 else none
inductive TR where
 | err (at':Nat) | ok (txt:Bs) (len:Nat)
 deriving DecidableEq
def ZO:Nat->Bs->Bool->Bs->Nat->TR
 | 0,_,_,_,_=>.err 0
 | f+1,r,esc,acc,p =>
  if r=[] then .err 0
  else if esc=true then (match Zh1 (Lib.decodeL r).1 with
   | none=>.err (p - 1)
   | some b=>ZO f (r.drop (Lib.decodeL r).2) false (acc++[b]) (p+(Lib.decodeL r).2))
  else if (Lib.decodeL r).1=34 then .ok acc (p+1)
  else if (Lib.decodeL r).1=92 then ZO f (r.drop (Lib.decodeL r).2) true acc (p+(Lib.decodeL r).2)
  else if (pk r).1<32 then .err p
  else ZO f (r.drop (Lib.decodeL r).2) false (acc++Lib.encodeRune (Lib.decodeL r).1) (p+(Lib.decodeL r).2)
def XL (r:Bs):TR:=ZO (r.length+1) (r.drop 1) false [] 1
def twos:List Bs:=[[58,45],[33,61],[60,61],[62,61],[60,58]]
def ones:Bs:=[40,41,91,93,123,125,44,46,58,33,61,60,62,43,45,42,47,37,124,36,126]
def Yo (r:Bs):Nat:=if twos.any (Lib.hasPrefix r) then 2 else if ones.contains (r.getD 0 0) then 1 else 0
structure Tok where
 kind:Nat
 text:Bs
 n:Int
 at':Nat
 fin:Nat
 deriving DecidableEq
inductive NR where
 | bad (at':Nat) (e:Nat) | tok (t:Tok)
 deriving DecidableEq
def XM (a:Nat) (r:Bs):NR:=match ZP r with | none=>.bad a 142 | some n=>.tok ⟨2,[],IntKind.i64.wrap n,a,a+Zz r⟩
def J3 (a:Nat) (r:Bs):NR:=match XL r with | .err p=>.bad (a+p) 141 | .ok t l=>.tok ⟨3,t,0,a,a+l⟩
def Xq (a:Nat) (r:Bs) (room:Bool):NR :=
 let c:=(pk r).1
 let n:=Yo r
 if n=0/\c≠34/\Zi c=false/\Zl c=false then .bad a 140
 else if room=false then .bad a 3
 else if 0<n then .tok ⟨4,r.take n,0,a,a+n⟩
 else if c=34 then J3 a r
 else if Zl c=true then XM a r
 else .tok ⟨1,r.take (XD r),0,a,a+XD r⟩
def Xk:Nat->Int->Nat->Bs->List Tok×(Nat×Nat)
 | 0,_,_,_=>([],(0,0))
 | f+1,most,a,r =>
  if (Zw r).1=false then ([],(a+(Zw r).2,140))
  else
   let a:=a+(Zw r).2
   let r:=r.drop (Zw r).2
   if r=[] then ([],(0,0))
   else match Xq a r (decide (0<most)) with
    | .bad p e=>([],(p,e))
    | .tok t=>let u:=Xk f (most - 1) t.fin (r.drop (t.fin - a));(t::u.1,u.2)
def Uh (s:Bs) (most:Int):List Tok×(Nat×Nat):=Xk (s.length+1) most 0 s
structure T0 where
 kind:Nat
 text:Bs
 n:Int
 deriving DecidableEq
def Tok.t0 (t:Tok):T0:=⟨t.kind,t.text,t.n⟩
abbrev Ts:=List T0
inductive R (α:Type) where
 | ok (a:α) (ts:Ts) | err (r e:Nat)
def R.bind {α β:Type} (x:R α) (f:α->Ts->R β):R β:=match x with
 | .ok a ts=>f a ts
 | .err r e=>.err r e
@[simp] theorem R.bind_ok {α β:Type} (a:α) (ts:Ts) (f:α->Ts->R β):(R.ok a ts).bind f=f a ts:=rfl
@[simp] theorem R.bind_err {α β:Type} (r e:Nat) (f:α->Ts->R β):(R.err r e:R α).bind f=.err r e:=rfl
inductive Ex where
 | mk (op:Nat) (text:Bs) (n:Int) (args:List Ex) (at':Nat)
inductive Li where
 | mk (op:Nat) (rel:Bs) (args:List Ex) (body:List Li) (at':Nat)
structure Ru where
 head:Bs
 args:List Ex
 body:List Li
 at':Nat
structure Fi where
 name:Bs
 typ:Bs
structure Ca where
 name:Bs
 fields:List Fi
structure Ty where
 kind:Nat
 name:Bs
 base:Bs
 fields:List Fi
 cases:List Ca
 at':Nat
structure Re where
 name:Bs
 fields:List Fi
 inn:Bool
 out:Bool
 inl:Bool
 at':Nat
structure Ini where
 name:Bs
 comp:Bs
 types:List Bs
 at':Nat
structure Ov where
 rel:Bs
 at':Nat
mutual
inductive Un where
 | mk (types:List Ty) (rels:List Re) (rules:List Ru) (comps:List Co) (inits:List Ini) (overs:List Ov)
inductive Co where
 | mk (name:Bs) (params:List Bs) (base:Bs) (types:List Bs) (unit:Un) (at':Nat)
end
def hd (ts:Ts):T0:=match ts with
 | []=>⟨0,[],0⟩
 | t::_=>t
def ZU (s:Bs):Nat :=
 if s=[99,97,116] then 20 else if s=[115,116,114,108,101,110] then 21 else if s=[115,117,98,115,116,114] then 22 else if s=[99,111,100,101] then 23 else if s=[115,116,114] then 24 else if s=[110,117,109] then 25 else 0
def keptWords:List Bs:=[[116,121,112,101],[100,101,99,108],[105,110,112,117,116],[111,117,116,112,117,116],[105,110,108,105,110,101],[99,111,109,112],[105,110,105,116],[111,118,101,114,114,105,100,101],[110,105,108],[99,111,117,110,116],[115,117,109],[109,105,110],[109,97,120],[98,111,114],[98,120,111,114],[98,97,110,100],[115,104,108],[115,104,114]]
def Zbn (s:Bs):Bool:=keptWords.contains s || decide (ZU s≠0)
def isW (ts:Ts) (ws:List Bs):Bool:=(decide ((hd ts).kind=1) || decide ((hd ts).kind=4)) && ws.contains (hd ts).text
def Zq (ts:Ts):Bool:=decide ((hd ts).kind=1) && (!decide ((hd ts).text=[95]) && !Zbn (hd ts).text)
def ZA (ts:Ts):Bool :=
 if (hd ts).kind=2\/(hd ts).kind=3 then true
 else if (hd ts).kind=4 then isW ts [[45],[126],[40],[91],[36]]
 else if (hd ts).kind=1 then !Zbn (hd ts).text || (decide ((hd ts).text=[110,105,108]) || decide (ZU (hd ts).text≠0))
 else false
def Wn (ts:Ts):Nat×Nat :=
 if (hd ts).kind≠1/\(hd ts).kind≠4 then (0,0)
 else if (hd ts).text=[98,111,114] then (1,16) else if (hd ts).text=[98,120,111,114] then (1,17) else if (hd ts).text=[98,97,110,100] then (2,15) else if (hd ts).text=[115,104,108] then (3,18) else if (hd ts).text=[115,104,114] then (3,19)
 else if (hd ts).text=[43] then (4,10) else if (hd ts).text=[45] then (4,11) else if (hd ts).text=[42] then (5,12) else if (hd ts).text=[47] then (5,13) else if (hd ts).text=[37] then (5,14) else (0,0)
def ZT (w:Bs) (ts:Ts):R Unit:=if isW ts [w]=true then .ok () ts.tail else .err ts.length 150
def Z2 (ts:Ts):R Bs:=if Zq ts=true then .ok (hd ts).text ts.tail else .err ts.length 150
def Zu {α:Type} (d:Nat) (fr tw:Bs) (read:Ts->R α) (ts:Ts):R α :=
 if isW ts [fr]=true then
  (if d=0 then .err ts.length 151 else (read ts.tail).bind fun x ts=>if tw=[] then .ok x ts else (ZT tw ts).bind fun _ ts=>.ok x ts)
 else .err ts.length 150
def Xl {α:Type} (sign:Bs) (most:Nat) (starts:Ts->Bool) (one:Ts->R α):Nat->List α->Ts->R (List α)
 | 0,_,_=>.err 0 150
 | f+1,l,ts=>if starts ts=true/\l.length=most then .err ts.length 3
   else (one ts).bind fun x ts=>if isW ts [sign]=true then Xl sign most starts one f (l++[x]) ts.tail else .ok (l++[x]) ts
def YM {α:Type} (sign:Bs) (most:Nat) (starts:Ts->Bool) (one:Ts->R α) (ts:Ts):R (List α):=Xl sign most starts one (ts.length+1) [] ts
def YP (ts:Ts):R Fi:=(Z2 ts).bind fun a ts=>(ZT [58] ts).bind fun _ ts=>(Z2 ts).bind fun b ts=>.ok ⟨a,b⟩ ts
def Yu (fin:Bs) (ts:Ts):R (List Fi):=if isW ts [fin]=true then .ok [] ts else YM [44] 12 Zq YP ts
def Y6 (ts:Ts):R (List Bs):=if isW ts [[60]]=true then (YM [44] 12 Zq Z2 ts.tail).bind fun l ts=>(ZT [62] ts).bind fun _ ts=>.ok l ts else .ok [] ts
def Wo (ts:Ts):R Ca:=(Z2 ts).bind fun a ts=>(ZT [123] ts).bind fun _ ts=>(Yu [125] ts).bind fun l ts=>(ZT [125] ts).bind fun _ ts=>.ok ⟨a,l⟩ ts
def UQ (t0:Ts):R Ty:=(Z2 t0).bind fun nm ts =>
 if isW ts [[60,58]]=true then (Z2 ts.tail).bind fun b ts=>.ok ⟨1,nm,b,[],[],t0.length⟩ ts
 else (ZT [61] ts).bind fun _ ts =>
  if isW ts [[91]]=true then (Yu [93] ts.tail).bind fun l ts=>(ZT [93] ts).bind fun _ ts=>.ok ⟨2,nm,[],l,[],t0.length⟩ ts
  else (YM [124] 64 Zq Wo ts).bind fun l ts=>.ok ⟨3,nm,[],[],l,t0.length⟩ ts
def YS:Nat->Bool->Bool->Bool->Ts->(Bool×Bool×Bool)×Ts
 | 0,i,o,n,ts=>((i,o,n),ts)
 | f+1,i,o,n,ts=>if i=false/\isW ts [[105,110,112,117,116]]=true then YS f true o n ts.tail
   else if o=false/\isW ts [[111,117,116,112,117,116]]=true then YS f i true n ts.tail
   else if n=false/\isW ts [[105,110,108,105,110,101]]=true then YS f i o true ts.tail
   else ((i,o,n),ts)
def ZcT (t0:Ts):R Re:=(Z2 t0).bind fun nm ts=>(ZT [40] ts).bind fun _ ts=>(Yu [41] ts).bind fun l ts=>(ZT [41] ts).bind fun _ ts =>
 .ok ⟨nm,l,(YS 4 false false false ts).1.1,(YS 4 false false false ts).1.2.1,(YS 4 false false false ts).1.2.2,t0.length⟩ (YS 4 false false false ts).2
def XX (d:Nat) (ex:Ts->R Ex) (fr tw:Bs) (ts:Ts):R (List Ex):=Zu d fr tw (fun ts=>if isW ts [tw]=true then .ok [] ts else YM [44] 12 ZA ex ts) ts
def XZ (ex:Ts->R Ex):Nat->List Ex->Ts->R (List Ex)
 | 0,l,ts=>.ok l ts
 | k+1,l,ts=>(if l=[] then .ok () ts else ZT [44] ts).bind fun _ ts=>(ex ts).bind fun e ts=>XZ ex k (l++[e]) ts
def YN (op:Nat):Nat:=if op=22 then 3 else if op=20 then 2 else 1
def YA (d:Nat) (ex:Ts->R Ex) (ts:Ts):R Ex :=
 if ZA ts=false then .err ts.length 150
 else if (hd ts).kind=2 then .ok (.mk 3 [] (hd ts).n [] ts.length) ts.tail
 else if (hd ts).kind=3 then .ok (.mk 4 (hd ts).text 0 [] ts.length) ts.tail
 else if (hd ts).text=[40] then Zu d [40] [41] ex ts
 else if (hd ts).text=[91] then (XX d ex [91] [93] ts).bind fun l ts'=>.ok (.mk 6 [] 0 l ts.length) ts'
 else if (hd ts).text=[36] then (Z2 ts.tail).bind fun nm ts'=>if isW ts' [[40]]=true then (XX d ex [40] [41] ts').bind fun l ts'=>.ok (.mk 7 nm 0 l ts.length) ts' else .ok (.mk 7 nm 0 [] ts.length) ts'
 else if ZU (hd ts).text≠0 then (Zu d [40] [41] (XZ ex (YN (ZU (hd ts).text)) []) ts.tail).bind fun l ts'=>.ok (.mk (ZU (hd ts).text) [] 0 l ts.length) ts'
 else if (hd ts).text=[110,105,108] then .ok (.mk 5 [] 0 [] ts.length) ts.tail
 else if (hd ts).text=[95] then .ok (.mk 2 [] 0 [] ts.length) ts.tail
 else .ok (.mk 1 (hd ts).text 0 [] ts.length) ts.tail
def Ex.at':Ex->Nat | .mk _ _ _ _ a=>a
def WQ (sub:Nat->Ts->R Ex) (least:Nat):Nat->Ex->Ts->R Ex
 | 0,_,_=>.err 0 150
 | f+1,e,ts=>if (Wn ts).1<least\/(Wn ts).1=0 then .ok e ts
   else (sub ((Wn ts).1+1) ts.tail).bind fun g ts'=>WQ sub least f (.mk (Wn ts).2 [] 0 [e,g] e.at') ts'
def WU (sg:Ts->R Ex):Nat->Nat->Ts->R Ex
 | 0,_,ts=>sg ts
 | k+1,least,ts=>(sg ts).bind fun e ts=>WQ (WU sg k) least (ts.length+1) e ts
def VL (d:Nat) (sg:Ts->R Ex) (ts:Ts):R Ex :=
 if isW ts [[45]]=true then (Zu d [45] [] sg ts).bind fun e ts'=>.ok (.mk 8 [] 0 [e] ts.length) ts'
 else if isW ts [[126]]=true then (Zu d [126] [] sg ts).bind fun e ts'=>.ok (.mk 9 [] 0 [e] ts.length) ts'
 else YA d (WU sg 6 1) ts
def Zv:Nat->Ts->R Ex
 | 0=>VL 0 fun _=>.err 0 150
 | d+1=>VL (d+1) (Zv d)
def Ya (d:Nat) (ts:Ts):R Ex:=WU (Zv d) 6 1 ts
def Yp:Nat->Ts->R Ex
 | 0=>fun _=>.err 0 150
 | d+1=>Ya d
def Ui (ts:Ts):Nat->List Bs->Option Nat
 | _,[]=>none
 | i,w::ws=>if isW ts [w]=true then some i else Ui ts (i+1) ws
def relWords:List Bs:=[[61],[33,61],[60],[60,61],[62],[62,61]]
def aggWords:List Bs:=[[99,111,117,110,116],[115,117,109],[109,105,110],[109,97,120]]
def ZaA (ts:Ts):R Nat:=match Ui ts 0 relWords with
 | none=>.err ts.length 150
 | some 0=>match Ui ts.tail 0 aggWords with
  | some j=>.ok (9+j) ts.tail.tail
  | none=>.ok 3 ts.tail
 | some k=>.ok (3+k) ts.tail
def UR (d op a:Nat) (ts:Ts):R Li:=(Z2 ts).bind fun nm ts=>(XX d (Yp d) [40] [41] ts).bind fun l ts=>.ok (.mk op nm l [] a) ts
def XF (d:Nat) (bd:Ts->R (List Li)) (a op:Nat) (l:List Ex) (ts:Ts):R Li :=
 if 9<=op then (ZT [58] ts).bind fun _ ts=>(Zu d [123] [125] bd ts).bind fun b ts=>.ok (.mk op [] l b a) ts
 else .ok (.mk op [] l [] a) ts
def ZeI (d:Nat) (bd:Ts->R (List Li)) (t0:Ts):R Li:=(Ya d t0).bind fun e ts=>(ZaA ts).bind fun op ts =>
 if op=9 then XF d bd t0.length op [e] ts else (Ya d ts).bind fun g ts=>XF d bd t0.length op [e,g] ts
def ZaB (d:Nat) (bd:Ts->R (List Li)) (t0:Ts):R Li :=
 if isW t0 [[33]]=true then UR d 2 t0.length t0.tail
 else if Zq t0=true/\(hd t0.tail).kind=4/\(hd t0.tail).text=[40] then UR d 1 t0.length t0
 else ZeI d bd t0
def ZE (ts:Ts):Bool:=ZA ts || isW ts [[33]]
def VU:Nat->Ts->R (List Li)
 | 0=>YM [44] 32 ZE (ZaB 0 fun _=>.err 0 150)
 | d+1=>YM [44] 32 ZE (ZaB (d+1) (VU d))
def WJ:Nat->Ts->R (List Li)
 | 0=>fun _=>.err 0 150
 | d+1=>VU d
def ZcU (d:Nat) (bodies:Bool) (t0:Ts):R Ru:=(Z2 t0).bind fun nm ts=>(XX d (Yp d) [40] [41] ts).bind fun l ts =>
 if bodies=true/\isW ts [[58,45]]=true then (VU d ts.tail).bind fun b ts=>(ZT [46] ts).bind fun _ ts=>.ok ⟨nm,l,b,t0.length⟩ ts
 else (ZT [46] ts).bind fun _ ts=>.ok ⟨nm,l,[],t0.length⟩ ts
def ZcV (d:Nat) (un:Ts->R Un) (t0:Ts):R Co:=(Z2 t0).bind fun nm ts=>(Y6 ts).bind fun ps ts =>
 if isW ts [[58]]=true then (Z2 ts.tail).bind fun b ts=>(Y6 ts).bind fun tys ts=>(Zu d [123] [125] un ts).bind fun u ts=>.ok (.mk nm ps b tys u t0.length) ts
 else (Zu d [123] [125] un ts).bind fun u ts=>.ok (.mk nm ps [] [] u t0.length) ts
def ZcW (t0:Ts):R Ini:=(Z2 t0).bind fun nm ts=>(ZT [61] ts).bind fun _ ts=>(Z2 ts).bind fun c ts=>(Y6 ts).bind fun tys ts=>.ok ⟨nm,c,tys,t0.length⟩ ts
def Zee (t0:Ts):R Ov:=(Z2 t0).bind fun nm ts=>.ok ⟨nm,t0.length⟩ ts
def X0 (inside:Bool) (d:Nat) (un:Ts->R Un):Nat->Un->Ts->R Un
 | 0,_,_=>.err 0 150
 | f+1,.mk tys rels rules comps inits overs,ts =>
  if ts=[]\/(inside=true/\isW ts [[125]]=true) then .ok (.mk tys rels rules comps inits overs) ts
  else if isW ts [[116,121,112,101]]=true then (if tys.length=256 then .err ts.length 3 else (UQ ts.tail).bind fun x ts=>X0 inside d un f (.mk (tys++[x]) rels rules comps inits overs) ts)
  else if isW ts [[100,101,99,108]]=true then (if rels.length=256 then .err ts.length 3 else (ZcT ts.tail).bind fun x ts=>X0 inside d un f (.mk tys (rels++[x]) rules comps inits overs) ts)
  else if isW ts [[99,111,109,112]]=true then (if comps.length=64 then .err ts.length 3 else (ZcV d un ts.tail).bind fun x ts=>X0 inside d un f (.mk tys rels rules (comps++[x]) inits overs) ts)
  else if isW ts [[105,110,105,116]]=true then (if inits.length=256 then .err ts.length 3 else (ZcW ts.tail).bind fun x ts=>X0 inside d un f (.mk tys rels rules comps (inits++[x]) overs) ts)
  else if isW ts [[111,118,101,114,114,105,100,101]]=true then (if overs.length=256 then .err ts.length 3 else (Zee ts.tail).bind fun x ts=>X0 inside d un f (.mk tys rels rules comps inits (overs++[x])) ts)
  else if Zq ts=true then (if rules.length=1024 then .err ts.length 3 else (ZcU d true ts).bind fun x ts=>X0 inside d un f (.mk tys rels (rules++[x]) comps inits overs) ts)
  else .err ts.length 150
def Un.nil:Un:=.mk [] [] [] [] [] []
def Zlc (inside:Bool) (d:Nat) (un:Ts->R Un) (ts:Ts):R Un:=X0 inside d un (ts.length+1) .nil ts
def Zld:Nat->Ts->R Un
 | 0=>Zlc true 0 fun _=>.err 0 150
 | d+1=>Zlc true (d+1) (Zld d)
def WK (ts:Ts):R Un:=Zlc false 64 (Zld 63) ts
end Go.PM.Lex
end

section
namespace Go.PM.Lex
mutual
def erE:Ex->Ex
 | .mk op t n args _=>.mk op t n (ZAx args) 0
def ZAx:List Ex->List Ex
 | []=>[]
 | e::l=>erE e::ZAx l
end
def Stb {α:Type} (er:α->α) (m:Ts) (x y:R α):Prop:=∀v ts,x=.ok v ts->∃v',er v'=er v/\y=.ok v' (ts++m)
section
variable {α β:Type} {er:α->α} {er2:β->β} {m:Ts}
theorem Stb.ok {v v':α} {ts:Ts} (h:er v'=er v):Stb er m (.ok v ts) (.ok v' (ts++m)):=fun w rest e=>by cases e;exact ⟨v',h,rfl⟩
theorem Stb.ok' {v v':α} {ts ts':Ts} (h:er v'=er v) (e:ts'=ts++m):Stb er m (.ok v ts) (.ok v' ts'):=e ▸ Stb.ok h
theorem Stb.err {r e:Nat} {y:R α}:Stb er m (.err r e) y:=fun w rest e=>by cases e
theorem Stb.bind {x y:R α} {f g:α->Ts->R β} (h:Stb er m x y) (hf:∀v v' ts,er v'=er v->Stb er2 m (f v ts) (g v' (ts++m))):Stb er2 m (x.bind f) (y.bind g):=fun w rest e=>by
 cases x with
 | ok v ts =>
  obtain ⟨v',h1,rfl⟩:=h v ts rfl;exact hf v v' ts h1 w rest e
 | err r e'=>cases e
theorem Stb.binds {x y:R α} {f g:α->Ts->R β} (h:Stb id m x y) (hf:∀v ts,Stb er2 m (f v ts) (g v (ts++m))):Stb er2 m (x.bind f) (y.bind g):=Stb.bind h fun v v' ts e=>by cases (show v'=v from e);exact hf v ts
end
variable {m:Ts}
theorem ZtB (ws:List Bs):isW [] ws=false:=by simp [isW,hd]
theorem ZtC {ts:Ts} {ws:List Bs} (h:isW ts ws=true):∃t l,ts=t::l:=by
 cases ts with
 | nil=>rw [ZtB] at h;cases h
 | cons t l=>exact ⟨t,l,rfl⟩
theorem map_id' {α:Type} (l:List α):l.map id=l:=sM
theorem ZtD {ts:Ts} (h:(Wn ts).1≠0):∃t l,ts=t::l:=by
 cases ts with
 | nil=>exact absurd rfl h
 | cons t l=>exact ⟨t,l,rfl⟩
def Un.app:Un->Un->Un
 | .mk a1 a2 a3 a4 a5 a6,.mk b1 b2 b3 b4 b5 b6=>.mk (a1++b1) (a2++b2) (a3++b3) (a4++b4) (a5++b5) (a6++b6)
def Un.le:Un->Un->Prop
 | .mk a1 a2 a3 a4 a5 a6,.mk b1 b2 b3 b4 b5 b6=>a1.length<=b1.length/\a2.length<=b2.length/\a3.length<=b3.length/\a4.length<=b4.length/\a5.length<=b5.length/\a6.length<=b6.length
theorem Un.le_refl:∀u:Un,Un.le u u | .mk ..=>⟨Tr _,Tr _,Tr _,Tr _,Tr _,Tr _⟩
theorem Un.le_trans:∀{u v w:Un},Un.le u v->Un.le v w->Un.le u w
 | .mk ..,.mk ..,.mk ..,⟨h1,h2,h3,h4,h5,h6⟩,⟨k1,k2,k3,k4,k5,k6⟩=>⟨oM,oM,oM,oM,oM,oM⟩
def Un.room:Un->Un->Prop
 | .mk a1 a2 a3 a4 a5 a6,.mk b1 b2 b3 b4 b5 b6=>a1.length+b1.length<=256/\a2.length+b2.length<=256/\a3.length+b3.length<=1024/\a4.length+b4.length<=64/\a5.length+b5.length<=256/\a6.length+b6.length<=256
theorem ZBG {α β:Type} {x:R α} {f:α->Ts->R β} {v:β} {ts:Ts} (h:x.bind f=.ok v ts):∃a ts1,x=.ok a ts1/\f a ts1=.ok v ts:=by
 cases x with
 | ok a ts1=>exact ⟨a,ts1,rfl,h⟩
 | err r e=>cases h
end Go.PM.Lex
end

section
namespace Go.PM.Lex
open Go.Proofs
abbrev yi:PV:=.d (.int .i64 0)
abbrev yb:PV:=.d (.int .u8 0)
abbrev ys:PV:=.d (.str [])
abbrev yf:PV:=.d (.bool false)
abbrev yp:PV:=.d .nilp
abbrev ya (a b:Nat) (k:TK) (z:D):TI:=⟨a,b,k,[.d z],false⟩
abbrev yr (n:Nat):TI:=⟨1,8,.ptr n,[yp],false⟩
abbrev yl (n:Nat):TI:=⟨1,24,.slice n,[.nils n],false⟩
abbrev yn (n:Nat) (t:TI):Tab:=.node .leaf n t .leaf
def ZgB:Tab:=(.node (.node (.node (.node (.node (.node (yn 2 ⟨1,8,.int .i64,[yi],true⟩) 3 ⟨1,8,.int .i64,[yi],true⟩ (yn 4 ⟨1,1,.bool,[yf],false⟩)) 5 ⟨1,1,.int .u8,[yb],true⟩ (.node (yn 6 ⟨1,1,.int .u8,[yb],true⟩) 7 ⟨4,24,.struct [(0,2),(1,3),(2,4),(3,6)],[yi,yi,yf,yb],false⟩ (yn 8 ⟨4,24,.struct [(0,2),(1,3),(2,4),(3,6)],[yi,yi,yf,yb],false⟩))) 9 ⟨1,16,.string,[ys],false⟩ (.node (.node (yn 10 ⟨1,16,.string,[ys],false⟩) 11 ⟨1,16,.string,[ys],false⟩ (yn 12 ⟨1,8,.int .u64,[.d (.int .u64 (0))],true⟩)) 13 ⟨2,24,.struct [(0,9),(1,12)],[ys,.d (.int .u64 (0))],false⟩ (.node (yn 14 ⟨2,24,.struct [(0,9),(1,12)],[ys,.d (.int .u64 (0))],false⟩) 15 (yr 324) (yn 16 (yr 327))))) 17 (yr 334) (.node (.node (.node (yn 18 ⟨1,8,.struct [(0,17)],[yp],false⟩) 19 ⟨1,8,.struct [(0,17)],[yp],false⟩ (yn 20 ⟨1,16,.iface,[.d .nili],false⟩)) 21 ⟨1,4,.int .i32,[.d (.int .i32 (0))],true⟩ (.node (yn 22 (yl 67)) 23 (yl 72) (yn 24 (yl 84)))) 25 (yl 45) (.node (.node (yn 26 (yl 41)) 27 (yl 43) (yn 28 ⟨6,144,.struct [(0,22),(1,23),(2,24),(3,25),(4,26),(5,27)],[.nils 67,.nils 72,.nils 84,.nils 45,.nils 41,.nils 43],false⟩)) 29 ⟨6,144,.struct [(0,22),(1,23),(2,24),(3,25),(4,26),(5,27)],[.nils 67,.nils 72,.nils 84,.nils 45,.nils 41,.nils 43],false⟩ (.node (yn 32 ⟨1,8,.int .i64,[yi],true⟩) 37 ⟨3,72,.struct [(0,22),(1,23),(2,24)],[.nils 67,.nils 72,.nils 84],false⟩ (yn 38 ⟨3,72,.struct [(0,22),(1,23),(2,24)],[.nils 67,.nils 72,.nils 84],false⟩))))) 39 (yl 9) (.node (.node (.node (.node (yn 40 ⟨4,64,.struct [(0,9),(1,9),(2,39),(3,3)],[ys,ys,.nils 9,yi],false⟩) 41 ⟨4,64,.struct [(0,9),(1,9),(2,39),(3,3)],[ys,ys,.nils 9,yi],false⟩ (yn 42 ⟨2,24,.struct [(0,9),(1,3)],[ys,yi],false⟩)) 43 ⟨2,24,.struct [(0,9),(1,3)],[ys,yi],true⟩ (.node (yn 44 ⟨11,232,.struct [(0,9),(1,39),(2,9),(3,39),(4,29),(10,3)],[ys,.nils 9,ys,.nils 9,.nils 67,.nils 72,.nils 84,.nils 45,.nils 41,.nils 43,yi],false⟩) 45 ⟨11,232,.struct [(0,9),(1,39),(2,9),(3,39),(4,29),(10,3)],[ys,.nils 9,ys,.nils 9,.nils 67,.nils 72,.nils 84,.nils 45,.nils 41,.nils 43,yi],false⟩ (yn 46 (yl 48)))) 47 ⟨5,64,.struct [(0,5),(1,9),(2,2),(3,46),(4,3)],[yb,ys,yi,.nils 48,yi],false⟩ (.node (.node (yn 48 ⟨5,64,.struct [(0,5),(1,9),(2,2),(3,46),(4,3)],[yb,ys,yi,.nils 48,yi],false⟩) 54 (yr 60) (yn 55 (yr 58))) 56 (yl 5) (.node (yn 57 ⟨2,32,.struct [(0,55),(1,56)],[yp,.nils 5],false⟩) 58 ⟨2,32,.struct [(0,55),(1,56)],[yp,.nils 5],false⟩ (yn 59 ⟨2,32,.struct [(0,58)],[yp,.nils 5],false⟩)))) 60 ⟨2,32,.struct [(0,58)],[yp,.nils 5],false⟩ (.node (.node (.node (yn 64 (yl 100)) 65 (yl 70) (yn 66 ⟨6,96,.struct [(0,5),(1,9),(2,9),(3,64),(4,65),(5,3)],[yb,ys,ys,.nils 100,.nils 70,yi],false⟩)) 67 ⟨6,96,.struct [(0,5),(1,9),(2,9),(3,64),(4,65),(5,3)],[yb,ys,ys,.nils 100,.nils 70,yi],false⟩ (.node (yn 69 ⟨2,40,.struct [(0,9),(1,64)],[ys,.nils 100],false⟩) 70 ⟨2,40,.struct [(0,9),(1,64)],[ys,.nils 100],false⟩ (yn 71 ⟨6,56,.struct [(0,9),(1,64),(2,4),(3,4),(4,4),(5,3)],[ys,.nils 100,yf,yf,yf,yi],false⟩))) 72 ⟨6,56,.struct [(0,9),(1,64),(2,4),(3,4),(4,4),(5,3)],[ys,.nils 100,yf,yf,yf,yi],false⟩ (.node (.node (yn 74 (ya 1 8 .func .nilf)) 78 (ya 1 8 .func .nilf) (yn 79 (ya 1 8 .func .nilf))) 81 (ya 1 8 .func .nilf) (.node (yn 82 (yl 151)) 83 ⟨4,72,.struct [(0,9),(1,46),(2,82),(3,3)],[ys,.nils 48,.nils 151,yi],false⟩ (yn 84 ⟨4,72,.struct [(0,9),(1,46),(2,82),(3,3)],[ys,.nils 48,.nils 151,yi],false⟩)))))) 90 (yr 143) (.node (.node (.node (.node (.node (yn 99 ⟨2,32,.struct [(0,9),(1,9)],[ys,ys],false⟩) 100 ⟨2,32,.struct [(0,9),(1,9)],[ys,ys],true⟩ (yn 101 (ya 1 8 .func .nilf))) 102 (ya 1 8 .func .nilf) (.node (yn 106 (ya 1 8 .func .nilf)) 108 (ya 1 8 .func .nilf) (yn 110 (ya 1 8 .func .nilf)))) 115 ⟨3,3,.array 3 4,[yf,yf,yf],false⟩ (.node (.node (yn 116 ⟨3,48,.array 3 9,[ys,ys,ys],false⟩) 119 (yr 168) (yn 121 (yr 5))) 124 ⟨3,32,.struct [(0,3),(1,9),(2,3)],[yi,ys,yi],false⟩ (.node (yn 125 ⟨3,32,.struct [(0,3),(1,9),(2,3)],[yi,ys,yi],true⟩) 132 ⟨1,8,.int .u64,[.d (.int .u64 (0))],true⟩ (yn 139 (yl 186))))) 142 ⟨6,64,.struct [(0,139),(1,3),(2,3),(3,3),(4,32),(5,3)],[.nils 186,yi,yi,yi,yi,yi],false⟩ (.node (.node (.node (yn 143 ⟨6,64,.struct [(0,139),(1,3),(2,3),(3,3),(4,32),(5,3)],[.nils 186,yi,yi,yi,yi,yi],false⟩) 148 (ya 1 8 .func .nilf) (yn 150 ⟨5,80,.struct [(0,5),(1,9),(2,46),(3,82),(4,3)],[yb,ys,.nils 48,.nils 151,yi],false⟩)) 151 ⟨5,80,.struct [(0,5),(1,9),(2,46),(3,82),(4,3)],[yb,ys,.nils 48,.nils 151,yi],false⟩ (.node (yn 152 (ya 1 8 .func .nilf)) 153 ⟨1,16,.iface,[.d .nili],false⟩ (yn 154 ⟨1,16,.iface,[.d .nili],false⟩))) 162 ⟨2,16,.struct [(0,3),(1,32)],[yi,yi],false⟩ (.node (.node (yn 163 ⟨2,16,.struct [(0,3),(1,32)],[yi,yi],true⟩) 165 ⟨3,40,.struct [(0,139),(1,3),(2,3)],[.nils 186,yi,yi],false⟩ (yn 166 ⟨3,40,.struct [(0,139),(1,3),(2,3)],[.nils 186,yi,yi],false⟩)) 167 ⟨4,48,.struct [(0,166),(3,3)],[.nils 186,yi,yi,yi],false⟩ (.node (yn 168 ⟨4,48,.struct [(0,166),(3,3)],[.nils 186,yi,yi,yi],false⟩) 185 ⟨5,48,.struct [(0,5),(1,9),(2,2),(3,3),(4,3)],[yb,ys,yi,yi,yi],false⟩ (yn 186 ⟨5,48,.struct [(0,5),(1,9),(2,2),(3,3),(4,3)],[yb,ys,yi,yi,yi],true⟩))))) 195 (yr 197) (.node (.node (.node (.node (yn 196 ⟨2,24,.struct [(0,9),(1,3)],[ys,yi],false⟩) 197 ⟨2,24,.struct [(0,9),(1,3)],[ys,yi],true⟩ (yn 210 ⟨6,96,.array 6 9,[ys,ys,ys,ys,ys,ys],false⟩)) 211 ⟨4,64,.array 4 9,[ys,ys,ys,ys],false⟩ (.node (yn 215 ⟨2,16,.struct [(0,3),(1,32)],[yi,yi],false⟩) 216 ⟨2,16,.struct [(0,3),(1,32)],[yi,yi],true⟩ (yn 217 (yr 166)))) 230 ⟨2,2,.struct [(0,5),(1,5)],[yb,yb],false⟩ (.node (.node (yn 231 ⟨32,32,.array 16 230,(.replicate 32 yb),false⟩) 232 ⟨1,8,.int .u64,[.d (.int .u64 (0))],true⟩ (yn 239 ⟨24,24,.array 24 5,(.replicate 24 yb),false⟩)) 271 ⟨1,4,.int .u32,[.d (.int .u32 (0))],true⟩ (.node (yn 273 ⟨20,160,.array 20 132,[.d (.int .u64 (0)),.d (.int .u64 (0)),.d (.int .u64 (0)),.d (.int .u64 (0)),.d (.int .u64 (0)),.d (.int .u64 (0)),.d (.int .u64 (0)),.d (.int .u64 (0)),.d (.int .u64 (0)),.d (.int .u64 (0)),.d (.int .u64 (0)),.d (.int .u64 (0)),.d (.int .u64 (0)),.d (.int .u64 (0)),.d (.int .u64 (0)),.d (.int .u64 (0)),.d (.int .u64 (0)),.d (.int .u64 (0)),.d (.int .u64 (0)),.d (.int .u64 (0))],false⟩) 276 ⟨2,24,.struct [(0,9),(1,5)],[ys,yb],false⟩ (yn 277 ⟨4,48,.array 2 276,[ys,yb,ys,yb],false⟩)))) 299 (yr 295) (.node (.node (.node (yn 300 ⟨5,80,.array 5 9,[ys,ys,ys,ys,ys],false⟩) 303 ⟨32,32,.array 32 5,(.replicate 32 yb),false⟩ (yn 304 ⟨64,64,.array 64 5,(.replicate 64 yb),false⟩)) 311 ⟨1,8,.int .i64,[yi],true⟩ (.node (yn 313 (yr 318)) 318 ⟨3,48,.struct [(0,9),(1,9),(2,154)],[ys,ys,.d .nili],false⟩ (yn 320 (yr 322)))) 322 ⟨1,16,.struct [(0,9)],[ys],false⟩ (.node (.node (yn 324 ⟨4,40,.struct [(0,17),(1,17),(2,17),(3,9)],[yp,yp,yp,ys],false⟩) 328 ⟨1,1,.int .u8,[yb],true⟩ (yn 329 ⟨1,1,.int .u8,[yb],true⟩)) 330 (ya 1 8 .func .nilf) (.node (yn 331 ⟨1,4,.int .i32,[.d (.int .i32 (0))],true⟩) 332 ⟨1,4,.int .i32,[.d (.int .i32 (0))],true⟩ (yn 334 ⟨11,48,.struct [(0,12),(1,12),(2,271),(3,328),(4,5),(5,5),(6,329),(7,330),(8,121),(9,331),(10,332)],[.d (.int .u64 (0)),.d (.int .u64 (0)),.d (.int .u32 (0)),yb,yb,yb,yb,.d .nilf,yp,.d (.int .i32 (0)),.d (.int .i32 (0))],false⟩)))))))
theorem Zb:TabOK ZgB Tryz.prog:=by unfold TabOK;kernel_rfl
theorem mixed:Tryz.prog.follows .mixedOrders=true:=by kernel_rfl
end Go.PM.Lex
end

section
noncomputable section
namespace Go.PM.Lex
open Go.Proofs
theorem kR {P:Prop} (h:P:=by kernel_rfl):P:=h
abbrev GG (w0:World) (nG:Nat):GE:=⟨Tryz.prog,w0,nG⟩
theorem pc {w0:World} {nG:Nat} {tbl:Tbl} {sp:Zt} {g:FuncId} {fn:Func} {c:Code} (ht:TblOK (GG w0 nG) tbl) (hf:Tryz.prog.funcs[g]?=some fn) (h:∀args σ K,sp args σ K->∃loops keep own,σ.bx.length<=keep/\args.length<=fn.ntmps/\WF (ctx ZgB tbl loops) fn keep own args σ K) (hb:fn.body=some c:=by rfl) (hn:(fn.name == "runtime.NumGoroutine") = false:=by kernel_rfl) (hk:ZR fn.ntmps c=true:=by kernel_rfl):PCalls (GG w0 nG) g sp:=Zd Zb mixed ht hf hb hn hk h
abbrev PC (w0:World) (nG:Nat):=PCalls (GG w0 nG)
abbrev TO (w0:World) (nG:Nat):=TblOK (GG w0 nG)
abbrev OKw (w0:World) (nG:Nat) (T:Tbl) (g:FuncId) (sp:Zt):Prop:=TO w0 nG T->PC w0 nG g sp
theorem pwt {w0:World} {nG:Nat} {tbl:Tbl} (ht:TO w0 nG tbl) {g:FuncId} {fn:Func} {sp:Zt} (hf:Tryz.prog.funcs[g]?=some fn) (h:∀args σ K,sp args σ K->∃loops keep own,σ.bx.length<=keep/\args.length<=fn.ntmps/\WF (ctx ZgB tbl loops) fn keep own args σ K) (hb:fn.body=some (Wm fn):=by rfl) (hn:(fn.name=="runtime.NumGoroutine")=false:=by kernel_rfl) (ho:ZR fn.ntmps (Wm fn)=true:=by kernel_rfl):PC w0 nG g sp:=Zd Zb mixed ht hf hb hn ho h
theorem pwo {w0:World} {nG:Nat} {tbl:Tbl} {g:FuncId} {fn:Func} {sp:Zt} (hf:Tryz.prog.funcs[g]?=some fn) (h:∀args σ K,sp args σ K->∃loops keep own,σ.bx.length<=keep/\args.length<=fn.ntmps/\WF (ctx ZgB tbl loops) fn keep own args σ K) (hb:fn.body=some (Wm fn):=by rfl) (hn:(fn.name=="runtime.NumGoroutine")=false:=by kernel_rfl) (ho:ZR fn.ntmps (Wm fn)=true:=by kernel_rfl):OKw w0 nG tbl g sp:=fun ht=>pwt ht hf h hb hn ho
theorem pwe {w0:World} {nG:Nat} {g:FuncId} {fn:Func} {sp:Zt} (hf:Tryz.prog.funcs[g]?=some fn) (h:∀args σ K,sp args σ K->∃loops keep own,σ.bx.length<=keep/\args.length<=fn.ntmps/\WF (ctx ZgB [] loops) fn keep own args σ K) (hb:fn.body=some (Wm fn):=by rfl) (hn:(fn.name=="runtime.NumGoroutine")=false:=by kernel_rfl) (ho:ZR fn.ntmps (Wm fn)=true:=by kernel_rfl):PC w0 nG g sp:=pwt (tbl:=[]) trivial hf h hb hn ho
theorem pwv {T:Tab} {tbl:Tbl} {fn:Func} {args:List PV} {σ:St} {K:PEnd->St->Prop} {Q:Prop} (l:List (Nat×LoopAnn)) (k:Nat) (b:Bool) (q:Q) (h:Q->WF (ctx T tbl (Za l)) fn k b args σ K:=by intro k;(conv=>whnf);exact k) (h1:σ.bx.length<=k:=by simp) (h2:args.length<=fn.ntmps:=by exact Ta rfl):∃loops keep own,σ.bx.length<=keep/\args.length<=fn.ntmps/\WF (ctx T tbl loops) fn keep own args σ K:=⟨Za l,k,b,h1,h2,h q⟩
theorem pwu {T:Tab} {tbl:Tbl} {fn:Func} {args:List PV} {σ:St} {K:PEnd->St->Prop} (l:List (Nat×LoopAnn)) (k:Nat) (b:Bool) (q:WF (ctx T tbl (Za l)) fn k b args σ K) (h1:σ.bx.length<=k:=by simp) (h2:args.length<=fn.ntmps:=by exact Ta rfl):∃loops keep own,σ.bx.length<=keep/\args.length<=fn.ntmps/\WF (ctx T tbl loops) fn keep own args σ K:=⟨Za l,k,b,h1,h2,q⟩
theorem lzI {i n m:Nat} (e:n=m) (h:(i:Int)<(n:Int)):i<m:=by omega
theorem lzE {i n m:Nat} (e:n=m) (hi:i<=m) (h:¬(i:Int)<(n:Int)):i=m:=by omega
theorem lzG {i n m:Nat} (e:n=m) (h:¬(i:Int)<(n:Int)):m<=i:=by omega
theorem lzM {i n:Nat} (h:i<n):((n:Int) - ((i:Int)+1)).toNat<((n:Int) - (i:Int)).toNat:=by omega
def mu1 (n:Nat):List PV->St->Nat:=fun vs _=>match vs with | [.d (.int _ i)]=>((n:Int) - i).toNat | _=>0
def mu2 (n:Nat):List PV->St->Nat:=fun vs _=>match vs with | [_,.d (.int _ i)]=>((n:Int) - i).toNat | _=>0
theorem Zdm (s:Bs) (pos:Nat):decodeL s pos=Lib.decodeL (s.drop pos):=by
 have:=Lib.decodeL_drop ⟨s.toArray⟩ pos;simpa [decodeL] using this.symm
def Wd:Zt:=fun args σ K=>match args with
 | [.d (.str s),.d (.str p)]=>K (.ret (.d (.bool (Lib.hasPrefix s p)))) σ
 | _=>False
def Vc:Zt:=fun args σ K=>match args with
 | [.d (.str s),.d (.int .u8 c)]=>K (.ret (.d (.int .i64 (Lib.indexByte s c.toNat.toUInt8)))) σ
 | _=>False
def Zix:Zt:=fun args σ K=>match args with
 | [.d (.str s),.d (.str p)]=>s.length<4294967281/\K (.ret (.d (.int .i64 (Lib.index s p)))) σ
 | _=>False
def Zdn:Zt:=fun args σ K=>match args with
 | [.d (.int .i32 c)]=>K (.ret (.d (.int .i64 (Lib.runeLen c)))) σ
 | _=>False
def ZbC:Zt:=fun args σ K=>match args with
 | [.d (.str s),.d (.str p)]=>(p.length<4294967281/\∀(j:Nat) b,p[j]?=some b->b.toNat<128)/\K (.ret (.d (.str (Lib.trimLeftS s p)))) σ
 | _=>False
abbrev Vq (k:Int) (x:Bs) (n a f:Int):PV:=.agg [.d (.int .u8 k),.d (.str x),.d (.int .i64 n),.d (.int .i64 a),.d (.int .i64 f)]
abbrev Zg3 (a e:Int):PV:=.agg [.d (.int .i64 a),.d (.int .i64 e)]
def NR.t:NR->Tok | .bad _ _=>⟨0,[],0,0,0⟩ | .tok t=>t
def NR.p:NR->Nat | .bad p _=>p | .tok _=>0
def NR.e:NR->Nat | .bad _ e=>e | .tok _=>0
abbrev Zzf (x:NR):PV:=.tuple [Vq x.t.kind x.t.text x.t.n x.t.at' x.t.fin,Zg3 x.p x.e]
def Jo:Zt:=fun args σ K=>match args,σ with
 | [.d (.int .i32 c)],⟨[],[],0⟩=>(-1<=c/\c<2147483648)/\K (.ret (.d (.bool (Zi c)))) ⟨[],[],0⟩
 | _,_=>False
def Vd:Zt:=fun args σ K=>match args,σ with
 | [.d (.int .i32 c)],⟨[],[],0⟩=>K (.ret (.d (.bool (Zl c)))) ⟨[],[],0⟩
 | _,_=>False
def Zci:Zt:=fun args σ K=>match args,σ with
 | [.ptr 0 0,.d (.int .i64 at')],⟨[.cells t [.d (.str s),.d (.int .i64 a)]],[],0⟩=>(0<=at'/\s.length<4611686018427387904) /\
   K (.ret (.tuple [.d (.int .i32 (pk (s.drop at'.toNat)).1),.d (.int .i64 (pk (s.drop at'.toNat)).2)])) ⟨[.cells t [.d (.str s),.d (.int .i64 a)]],[],0⟩
 | _,_=>False
def Zg4:Zt:=fun args σ K=>match args,σ with
 | [.ptr 0 0],⟨[.cells t [.d (.str s),.d (.int .i64 a)]],[],0⟩=>(0<=a/\a<=s.length/\s.length<4294967281) /\
   K (.ret (Vq 1 ((s.drop a.toNat).take (XD (s.drop a.toNat))) 0 a (a+XD (s.drop a.toNat)))) ⟨[.cells t [.d (.str s),.d (.int .i64 a)]],[],0⟩
 | _,_=>False
def ZbD:Zt:=fun args σ K=>match args,σ with
 | [.ptr 0 0],⟨[.cells t [.d (.str s),.d (.int .i64 a)]],[],0⟩=>(0<=a/\a<=s.length/\s.length<4294967281) /\
   K (.ret (.d (.bool (Zw (s.drop a.toNat)).1))) ⟨[.cells t [.d (.str s),.d (.int .i64 (a+(Zw (s.drop a.toNat)).2))]],[],0⟩
 | _,_=>False
def ZjF:Zt:=fun args σ K=>match args,σ with
 | [.ptr 0 0],⟨[.cells t [.d (.str s),.d (.int .i64 a)]],[],0⟩=>(0<=a/\a<s.length/\s.length<4294967281) /\
   K (.ret (.d (.int .i64 (Yo (s.drop a.toNat))))) ⟨[.cells t [.d (.str s),.d (.int .i64 a)]],[],0⟩
 | _,_=>False
theorem Zg5:Yb ZbD:=fun args σ K K' hK h=>by
 unfold ZbD at h |-;split at h <;> first | exact ⟨h.1,hK _ _ h.2⟩ | exact h.elim
end Go.PM.Lex
end
end

section
noncomputable section
namespace Go.PM.Lex
open Go.Proofs
def Zj (l:Bs):List (List D):=l.map fun b=>[.int .u8 b.toNat]
def Zad:Zt:=fun args σ K=>match args,σ with
 | [.d (.str l),.d (.int .i64 base),.d (.int .i64 bits)],⟨[],[],0⟩=>∃gj:Bool,((l.all (Xz gj)=true/\l.length<4294967281)/\base=(if gj then 16 else 10)/\bits=(if gj then 64 else 63)) /\
   ((l=[]\/(if gj then 18446744073709551616 else 9223372036854775808)<=XE (if gj then 16 else 10) l)->∀n,K (.ret (.tuple [.d (.int .u64 n),.iface 313 .undef])) ⟨[],[],0⟩) /\
   (¬(l=[]\/(if gj then 18446744073709551616 else 9223372036854775808)<=XE (if gj then 16 else 10) l)->K (.ret (.tuple [.d (.int .u64 (XE (if gj then 16 else 10) l)),.d .nili])) ⟨[],[],0⟩)
 | _,_=>False
def Uu:Zt:=fun args σ K=>match args,σ with
 | [.ptr 0 0,.d (.int .u8 c)],⟨[.cells t [p,.sl 0 e rows]],[0],1⟩=>((p=.d .nilp\/p=.ptr 0 0)/\t=58/\e=5/\(∀r∈rows,r.length=1)/\rows.length<70368744177664) /\
   K (.ret (.d .nili)) ⟨[.cells t [.ptr 0 0,.sl 0 e (rows++[[.int .u8 c]])]],[0],1⟩
 | _,_=>False
def Uv:Zt:=fun args σ K=>match args,σ with
 | [.ptr 0 0,.d (.int .i32 c)],⟨[.cells t [p,.sl 0 e rows]],[0],1⟩=>((p=.d .nilp\/p=.ptr 0 0)/\t=58/\e=5/\(∀r∈rows,r.length=1)/\rows.length<70368744177664/\0<=c/\c<=1114111) /\
   K (.ret (.tuple [.d (.int .i64 (((rows++Zj (Lib.encodeRune c)).length:Int) - (rows.length:Int))),.d .nili])) ⟨[.cells t [.ptr 0 0,.sl 0 e (rows++Zj (Lib.encodeRune c))]],[0],1⟩
 | _,_=>False
def ZcE:Zt:=fun args σ K=>match args,σ with
 | [.ptr 0 0],⟨[.cells t [p,.sl 0 e rows]],[0],1⟩=>∃l:Bs,(rows=Zj l/\t=58/\e=5/\(p=.d .nilp\/p=.ptr 0 0)/\l.length<70368744177664)/\K (.ret (.d (.str l))) ⟨[.cells t [p,.d (.sl rows)]],[],0⟩
 | _,_=>False
def Zdo (s:Bs) (c:Int):Int:=if c<128 then Lib.indexByte s c.toNat.toUInt8 else -1
def Ve:Zt:=fun args σ K=>match args,σ with
 | [.d (.str s),.d (.int .i32 c)],⟨[],[],0⟩=>((s=[110,116,34,92]\/s=[10,9,34,92])/\0<=c/\c<=1114111)/\K (.ret (.d (.int .i64 (Zdo s c)))) ⟨[],[],0⟩
 | _,_=>False
def ZcF:Zt:=fun args σ K=>match args,σ with
 | [.ptr 0 0],⟨[.cells t [.d (.str s),.d (.int .i64 a)]],[],0⟩=>(0<=a/\a<s.length/\s.length<4294967281) /\
   K (.ret (Zzf (XM a.toNat (s.drop a.toNat)))) ⟨[.cells t [.d (.str s),.d (.int .i64 a)]],[],0⟩
 | _,_=>False
def ZjG:Zt:=fun args σ K=>match args,σ with
 | [.ptr 0 0],⟨[.cells t [.d (.str s),.d (.int .i64 a)]],[],0⟩=>(0<=a/\a<s.length/\s.length<4294967281) /\
   K (.ret (Zzf (J3 a.toNat (s.drop a.toNat)))) ⟨[.cells t [.d (.str s),.d (.int .i64 a)]],[],0⟩
 | _,_=>False
def ZeW:Zt:=fun args σ K=>match args,σ with
 | [.ptr 0 0,.d (.bool room)],⟨[.cells t [.d (.str s),.d (.int .i64 a)]],[],0⟩=>(0<=a/\a<s.length/\s.length<4294967281) /\
   K (.ret (Zzf (Xq a.toNat (s.drop a.toNat) room))) ⟨[.cells t [.d (.str s),.d (.int .i64 a)]],[],0⟩
 | _,_=>False
theorem Ziy:Yb ZeW:=fun args σ K K' hK h=>by
 unfold ZeW at h |-;split at h <;> first | exact ⟨h.1,hK _ _ h.2⟩ | exact h.elim
end Go.PM.Lex
end
end

section
namespace Go.PM.Lex
open Go.Proofs
variable {w0:World} {nG:Nat}
theorem orB (n:Fin 128):Zm .or .i32 (n.val:Int) 32=((n.val ||| 32:Nat):Int):=by rw [Yz];revert n;decide +kernel
theorem orM:Zm .or .i32 (-1) 32=-1:=by rw [Yz];decide +kernel
theorem orL:∀n:Fin 128,(97<=(n.val ||| 32)/\(n.val ||| 32)<=122)↔((97<=n.val/\n.val<=122)\/(65<=n.val/\n.val<=90)):=by decide +kernel
theorem Zm7 {c:Int} (h0:-1<=c) (h1:c<128):(97<=Zm .or .i32 c 32/\Zm .or .i32 c 32<=122)↔((97<=c/\c<=122)\/(65<=c/\c<=90)):=by
 by_cases hc:c=-1
 ·subst hc;rw [orM];omega
 obtain ⟨n,rfl⟩:∃n:Nat,c=n:=⟨c.toNat,oM⟩
 have hn:n<128:=oM;have h2:=orB ⟨n,hn⟩;have h3:=orL ⟨n,hn⟩;simp only at h2 h3;rw [h2];omega
theorem ZaR {K:PEnd->St->Prop} {b b':Bool} {σ:St} (h:K (.ret (.d (.bool b))) σ) (h1:b=b'):K (.ret (.d (.bool b'))) σ:=by subst h1;exact h
theorem ZfM:PC w0 nG 215 Vd:=by
 refine Zd Zb mixed (tbl:=[]) trivial Tryz.func215 rfl kR kR ?_;exact m80
theorem ZaS:PC w0 nG 155 Jo:=by
 refine Zd Zb mixed (tbl:=[]) trivial Tryz.func155 rfl kR kR ?_;intro args σ K h
 unfold Jo at h
 split at h
 ·rename_i c
  obtain ⟨⟨h0,_⟩,h⟩:=h;refine ⟨Za [],0,false,dM,Ta rfl,?_⟩
  repeat' ((conv=>whnf);refine ZBC (fun h1=>?_) (fun h1=>?_))
  all_goals (conv=>whnf)
  all_goals (try (have hl:=Zm7 (c:=c) h0 oM))
  all_goals (refine ZaR h ?_;simp only [Zi,TG,decide_eq_false_iff_not,decide_eq_decide];omega)
 exact h.elim
theorem ZAz (r:Bs):Lib.hasPrefix r [239,191,189]=true↔2<r.length/\(r.getD 0 0).toNat=239/\(r.getD 1 0).toNat=191/\(r.getD 2 0).toNat=189:=by
 unfold Lib.hasPrefix
 match r with
 | []=>simp
 | [a]=>simp [List.isPrefixOf]
 | [a,b]=>simp [List.isPrefixOf]
 | a::b::c::l =>
  have ha:=UInt8.toNat_inj (a:=239) (b:=a);have hb:=UInt8.toNat_inj (a:=191) (b:=b);have hc:=UInt8.toNat_inj (a:=189) (b:=c);simp only [List.isPrefixOf,Bool.and_true,Tk,beq_iff_eq,Td,Sj,Sv];rw [<- ha,<- hb,<- hc];have e1:(239:UInt8).toNat=239:=rfl;have e2:(191:UInt8).toNat=191:=rfl;have e3:(189:UInt8).toNat=189:=rfl;rw [e1,e2,e3];omega
theorem Zzg (r:Bs) (hv:(Lib.decodeL r).1=65533):(Lib.hasPrefix r [239,191,189]=true/\(Lib.decodeL r).2=3)\/(¬Lib.hasPrefix r [239,191,189]=true/\(Lib.decodeL r).2=1):=by
 rw [ZAz];rw [Lib.decodeL_N] at hv |-;have k0:=(r.getD 0 0).toNat_lt;have k1:=(r.getD 1 0).toNat_lt;have k2:=(r.getD 2 0).toNat_lt;have k3:=(r.getD 3 0).toNat_lt
 by_cases hp:2<r.length/\(r.getD 0 0).toNat=239/\(r.getD 1 0).toNat=191/\(r.getD 2 0).toNat=189
 ·left
  refine ⟨hp,?_⟩;obtain ⟨p0,p1,p2,p3⟩:=hp;rw [p1,p2,p3];unfold Lib.decodeN
  have hl:1<r.length:=oM;simp [p0,hl]
 right
 refine ⟨hp,?_⟩;rcases Lib.decodeN_shape r.length (r.getD 0 0).toNat (r.getD 1 0).toNat (r.getD 2 0).toNat (r.getD 3 0).toNat with ⟨c,e⟩ | ⟨c1,c2,c3,cv,e⟩ | ⟨c1,c2,c3,c4,cv,cs,e⟩ | ⟨c1,c2,c3,c4,c5,cv,cw,e⟩ | e
 all_goals (rw [e] at hv)
 all_goals (dsimp only at hv)
 ·omega
 ·omega
 ·exact absurd ⟨c2,oM,oM,oM⟩ hp
 ·omega
 rw [e]
theorem ZeX:pk []=(-1,1):=by simp [pk]
theorem ZjH (r:Bs) (h0:0<r.length) (hv:¬(Lib.decodeL r).1=65533):pk r=(((Lib.decodeL r).1:Int),(Lib.decodeL r).2):=by
 have an:r≠[]:=fun h=>by subst h;simp at h0
 have:Lib.decodeL r≠(65533,1):=fun h=>hv (by rw [h])
 simp [pk,an,this]
theorem Zm8 (r:Bs) (h0:0<r.length) (hp:Lib.hasPrefix r [239,191,189]=true) (hv:(Lib.decodeL r).1=65533):pk r=(65533,3):=by
 have an:r≠[]:=fun h=>by subst h;simp at h0
 rcases Zzg r hv with ⟨_,h2⟩ | ⟨h1,_⟩
 ·have:Lib.decodeL r≠(65533,1):=fun h=>by rw [h] at h2;simp at h2
  simp [pk,an,this,hv,h2]
 exact absurd hp h1
theorem ZsG (r:Bs) (hp:¬Lib.hasPrefix r [239,191,189]=true) (hv:(Lib.decodeL r).1=65533):pk r=(-1,1):=by
 rcases Zzg r hv with ⟨h1,h2⟩ | ⟨_,h2⟩
 ·exact absurd h1 hp
 have:Lib.decodeL r=(65533,1):=Prod.ext hv h2;simp [pk,this]
theorem Zg6 (r:Bs):1<=(pk r).2/\(pk r).2<=4:=by
 unfold pk
 split
 ·simp
 rename_i h
 simp only [not_or] at h;simp only;rw [Lib.decodeL_N];rcases Lib.decodeN_shape r.length (r.getD 0 0).toNat (r.getD 1 0).toNat (r.getD 2 0).toNat (r.getD 3 0).toNat with ⟨c,e⟩ | ⟨c1,c2,c3,cv,e⟩ | ⟨c1,c2,c3,c4,cv,cs,e⟩ | ⟨c1,c2,c3,c4,c5,cv,cw,e⟩ | e
 all_goals (rw [e];simp)
theorem Ww (r:Bs):-1<=(pk r).1/\(pk r).1<=1114111:=by
 unfold pk
 split
 ·simp
 simp only;exact m86
theorem Zm9 (r:Bs) (h:(pk r).1≠-1):1<=(pk r).2/\(pk r).2<=r.length/\r≠[]:=by
 have hl:=Zg6 r;unfold pk at h hl |-
 split at h
 ·exact absurd rfl h
 rename_i h1
 simp only [not_or] at h1;rw [Tc (by simp only [not_or];exact h1)] at hl |-;exact ⟨hl.1,Lib.decodeL_le r h1.1,h1.1⟩
theorem UY {s:Bs} {n:Nat}:cut s n s.length=s.drop n:=by simp [cut]
theorem ZtP (ht:TO w0 nG [(213,Zdn),(214,Wd)]):PC w0 nG 154 Zci:=by
 refine Zd Zb mixed ht Tryz.func154 rfl kR kR ?_;intro args σ K h
 unfold Zci at h
 split at h
 ·rename_i at' t s a
  obtain ⟨⟨h0,hs⟩,h⟩:=h;refine ⟨Za [(2,⟨[],[0,1,21],fun vs σ=>vs=[]/\σ=⟨[.cells t [.d (.str s),.d (.int .i64 a)],.iter (s.drop at'.toNat) 0],[],0⟩,fun _ _=>0⟩)],1,false,sM,Ta rfl,wN ?_⟩;have ij:cut s (min at' (s.length:Int)).toNat s.length=s.drop at'.toNat:=by
   rw [UY]
   by_cases hl:at'<=s.length
   ·rw [Int.min_eq_left hl]
   rw [Int.min_eq_right oM,Tz oM,Tz oM]
  refine ⟨oM,wN ?_⟩;refine ⟨oM,wN ?_⟩;refine ⟨⟨rfl,?_⟩,?_⟩
  ·rw [ij];rfl
  intro vs σ1 hI
  obtain ⟨rfl,rfl⟩:=hI;refine ZBC (fun h1=>wN ?_) (fun h1=>wN ?_)
  ·refine ZBE (fun h2=>wN ?_) (fun h2=>wN ?_)
   ·rw [Zdm] at h2;have hl:0<(s.drop at'.toNat).length:=by simpa using h1
    rw [Sl] at h2;have an:¬(Lib.decodeL (s.drop at'.toNat)).1=65533:=oM;rw [ZjH _ hl an] at h;rw [Zdm,Sl];have hr:=Lib.runeLen_decode _ an;rw [hr];exact h
   rw [Zdm] at h2;have hl:0<(s.drop at'.toNat).length:=by simpa using h1
   have hd:(Lib.decodeL (s.drop at'.toNat)).1=65533:=by rw [Sl] at h2;omega
   refine ⟨h0,by simp at hl;omega,wN ?_⟩;refine ZBF (fun h3=>wN ?_) (fun h3=>wN ?_)
   ·rw [UY] at h3;rw [Zm8 _ hl h3 hd] at h;rw [Zdm,Sl,hd];exact h
   rw [UY] at h3;rw [ZsG _ (by rw [h3];simp) hd] at h;exact h
  have:s.drop at'.toNat=[]:=by simp at h1;exact Tz oM
  rw [this,ZeX] at h;exact h
 exact h.elim
def muI (B:Int):List PV->St->Nat:=fun vs _=>match vs with | .d (.int _ n)::_=>(B - n).toNat | _=>0
theorem ZtR (ht:TO w0 nG [(214,Wd),(181,Vc)]):PC w0 nG 252 ZjF:=by
 refine Zd Zb mixed ht Tryz.func252 rfl kR kR ?_;intro args σ K h
 unfold ZjF at h
 split at h
 ·rename_i t s a
  obtain ⟨⟨h0,h1,hs⟩,h⟩:=h;refine ⟨Za [(3,⟨[16],[0,3,15],fun vs σ=>σ=⟨[.cells t [.d (.str s),.d (.int .i64 a)]],[],0⟩/\∃i:Nat,i<=5/\vs=[.d (.int .i64 i)]/\(twos.take i).any (Lib.hasPrefix (s.drop a.toNat))=false,muI 5⟩)],1,false,sM,Ta rfl,wN ?_⟩;refine ⟨h0,oM,wN ?_⟩;rw [UY];refine ⟨⟨rfl,0,oM,rfl,rfl⟩,?_⟩;intro vs σ1 hI
  obtain ⟨rfl,i,hi,rfl,hn⟩:=hI
  match i,hi,hn with
  | 0,hi,hn =>
   conv=>whnf
   refine ⟨oM,oM,wN ?_⟩;refine ZBF (fun h2=>wN ?_) (fun h2=>wN ?_)
   ·exact m51
   refine Or.inl ⟨InR.i64 oM oM,wN ?_⟩;refine ⟨⟨rfl,1,oM,rfl,?_⟩,?_⟩
   ·have cq:Lib.hasPrefix (s.drop a.toNat) (twos.getD 0 [])=false:=h2;exact m75
   exact (show (5 - (((0:Nat):Int)+1)).toNat<(5 - ((0:Nat):Int)).toNat by omega)
  | 1,hi,hn =>
   conv=>whnf
   refine ⟨oM,oM,wN ?_⟩;refine ZBF (fun h2=>wN ?_) (fun h2=>wN ?_)
   ·exact m51
   refine Or.inl ⟨InR.i64 oM oM,wN ?_⟩;refine ⟨⟨rfl,2,oM,rfl,?_⟩,?_⟩
   ·have cq:Lib.hasPrefix (s.drop a.toNat) (twos.getD 1 [])=false:=h2;exact m75
   exact (show (5 - (((1:Nat):Int)+1)).toNat<(5 - ((1:Nat):Int)).toNat by omega)
  | 2,hi,hn =>
   conv=>whnf
   refine ⟨oM,oM,wN ?_⟩;refine ZBF (fun h2=>wN ?_) (fun h2=>wN ?_)
   ·exact m51
   refine Or.inl ⟨InR.i64 oM oM,wN ?_⟩;refine ⟨⟨rfl,3,oM,rfl,?_⟩,?_⟩
   ·have cq:Lib.hasPrefix (s.drop a.toNat) (twos.getD 2 [])=false:=h2;exact m75
   exact (show (5 - (((2:Nat):Int)+1)).toNat<(5 - ((2:Nat):Int)).toNat by omega)
  | 3,hi,hn =>
   conv=>whnf
   refine ⟨oM,oM,wN ?_⟩;refine ZBF (fun h2=>wN ?_) (fun h2=>wN ?_)
   ·exact m51
   refine Or.inl ⟨InR.i64 oM oM,wN ?_⟩;refine ⟨⟨rfl,4,oM,rfl,?_⟩,?_⟩
   ·have cq:Lib.hasPrefix (s.drop a.toNat) (twos.getD 3 [])=false:=h2;exact m75
   exact (show (5 - (((3:Nat):Int)+1)).toNat<(5 - ((3:Nat):Int)).toNat by omega)
  | 4,hi,hn =>
   conv=>whnf
   refine ⟨oM,oM,wN ?_⟩;refine ZBF (fun h2=>wN ?_) (fun h2=>wN ?_)
   ·exact m51
   refine Or.inl ⟨InR.i64 oM oM,wN ?_⟩;refine ⟨⟨rfl,5,oM,rfl,?_⟩,?_⟩
   ·have cq:Lib.hasPrefix (s.drop a.toNat) (twos.getD 4 [])=false:=h2;exact m75
   exact (show (5 - (((4:Nat):Int)+1)).toNat<(5 - ((4:Nat):Int)).toNat by omega)
  | 5,hi,hn =>
   conv=>whnf
   refine ⟨oM,sO,wN ?_⟩;refine ZBC (fun h2=>wN ?_) (fun h2=>wN ?_)
   ·have e:Yo (s.drop a.toNat)=1:=by
     have hc:ones.contains ((s.drop a.toNat).getD 0 0)=true:=by
      rw [Lib.contains_iff_indexByte];simpa [ones] using h2
     rw [Yo,Tc (by simpa [twos] using hn),Tg hc]
    rw [e] at h;exact h
   have e:Yo (s.drop a.toNat)=0:=by
    have hc:ones.contains ((s.drop a.toNat).getD 0 0)=false:=by
     rw [Lib.contains_iff_indexByte];simpa [ones] using h2
    rw [Yo,Tc (by simpa [twos] using hn),Tc (by rw [hc];simp)]
   rw [e] at h;exact h
 exact h.elim
theorem Vx:Zi (-1)=false:=dM
theorem Zae:Zl (-1)=false:=dM
theorem ZeY {f:Nat} {r:Bs} (h1:(pk r).1=46) (h2:Zi (pk (r.drop 1)).1=true):YF (f+1) r=(pk r).2+YF f (r.drop (pk r).2):=by rw [YF,Tg h1,Tg h2]
theorem ZaT {f:Nat} {r:Bs} (h1:(pk r).1=46) (h2:Zi (pk (r.drop 1)).1=false):YF (f+1) r=0:=by rw [YF,Tg h1,Tc (by rw [h2];simp)]
theorem Zdp {f:Nat} {r:Bs} (h1:¬(pk r).1=46) (h2:Zi (pk r).1=true\/Zl (pk r).1=true):YF (f+1) r=(pk r).2+YF f (r.drop (pk r).2):=by rw [YF,Tc h1,Tg h2]
theorem ZbE {f:Nat} {r:Bs} (h1:¬(pk r).1=46) (h2:Zi (pk r).1=false) (h3:Zl (pk r).1=false):YF (f+1) r=0:=by rw [YF,Tc h1,Tc (by simp [h2,h3])]
theorem X4 {s:Bs} {a b:Nat}:cut s a b=(s.drop a).take (b - a):=by simp [cut,List.drop_take]
theorem ZtT (ht:TO w0 nG [(154,Zci),(155,Jo),(215,Vd)]):PC w0 nG 156 Zg4:=by
 refine Zd Zb mixed ht Tryz.func156 rfl kR kR ?_;intro args σ K h
 unfold Zg4 at h
 split at h
 ·rename_i t s a
  obtain ⟨⟨h0,h1,hs⟩,h⟩:=h;obtain ⟨a,rfl⟩:∃n:Nat,a=n:=⟨a.toNat,oM⟩
  simp only [Tu] at h;refine ⟨Za [(2,⟨[3],[0,2],fun vs σ=>σ=⟨[.cells t [.d (.str s),.d (.int .i64 a)],.cells 186 [.d (.int .u8 0),.d (.str []),.d (.int .i64 0),.d (.int .i64 0),.d (.int .i64 0)]],[],0⟩ /\
   ∃e f:Nat,a<=e/\e<=s.length/\vs=[.d (.int .i64 e)]/\s.length<e+f/\e+YF f (s.drop e)=a+XD (s.drop a),muI s.length⟩)],1,false,sM,Ta rfl,?_⟩
  conv=>whnf
  refine ⟨⟨rfl,a,s.length - a+1,oM,oM,rfl,oM,by simp [XD]⟩,?_⟩;intro vs σ1 hI
  obtain ⟨rfl,e,f,rl,oh,rfl,hf,hn⟩:=hI;obtain ⟨f,rfl⟩:∃g,f=g+1:=⟨f - 1,oM⟩
  have eg:=Ww (s.drop e);have jx:=Zg6 (s.drop e);have lv:=Zm9 (s.drop e);have iv:=Ww (s.drop ((e:Int)+1).toNat);have ct:YF (f+1) (s.drop e)=0->K (.ret (Vq 1 (cut s a e) 0 a e)) ⟨[.cells t [.d (.str s),.d (.int .i64 a)]],[],0⟩:=fun h3=>by
   have e2:XD (s.drop a)=e - a:=by rw [h3] at hn;omega
   rw [e2,show (a:Int)+((e - a:Nat):Int)=(e:Int) by omega,<- X4] at h;exact h
  have fh:∀n:Nat,1<=n->e+n<=s.length->YF (f+1) (s.drop e)=n+YF f ((s.drop e).drop n)->a<=e+n/\e+n<=s.length/\s.length<(e+n)+f/\(e+n)+YF f (s.drop (e+n))=a+XD (s.drop a):=fun n h1 h2 h3=>by
   rw [Tw] at h3;exact ⟨oM,h2,oM,by rw [<- hn,h3];omega⟩
  conv=>whnf
  refine ⟨⟨oM,oM⟩,wN ?_⟩;refine ZBC (fun h2=>wN ?_) (fun h2=>wN ?_)
  ·refine Or.inl ⟨InR.i64 oM oM,wN ?_⟩;refine ⟨⟨oM,oM⟩,wN ?_⟩;refine ⟨⟨oM,oM⟩,wN ?_⟩;have hw:((e:Int)+1).toNat=e+1:=oM;refine ZBF (fun h3=>wN ?_) (fun h3=>wN ?_)
   ·rw [hw] at h3;refine ⟨oM,oM,oM,wN ?_⟩;exact ct (ZaT h2 (by rw [Tw];simpa using h3))
   rw [hw] at h3;have an:(pk (s.drop e)).1≠-1:=by have:(pk (s.drop e)).1=46:=h2;omega
   obtain ⟨g1,g2,g3⟩:=lv an;have g2':e+(pk (s.drop e)).2<=s.length:=by rw [Tp] at g2;omega
   refine Or.inl ⟨InR.i64 tN tN,wN ?_⟩;obtain ⟨k1,k2,k3,k4⟩:=fh _ g1 g2' (ZeY h2 (by rw [Tw];simpa using h3));exact m45
  have cq:¬(pk (s.drop e)).1=46:=h2;have fin:∀(h4:Zi (pk (s.drop e)).1=true\/Zl (pk (s.drop e)).1=true),a<=e+(pk (s.drop e)).2/\e+(pk (s.drop e)).2<=s.length/\s.length<(e+(pk (s.drop e)).2)+f/\(e+(pk (s.drop e)).2)+YF f (s.drop (e+(pk (s.drop e)).2))=a+XD (s.drop a):=fun h4=>by
   have an:(pk (s.drop e)).1≠-1:=fun h5=>by rw [h5,Vx,Zae] at h4;simp at h4
   obtain ⟨g1,g2,g3⟩:=lv an;have g2':e+(pk (s.drop e)).2<=s.length:=by rw [Tp] at g2;omega
   exact fh _ g1 g2' (Zdp cq h4)
  refine ⟨⟨eg.1,tN⟩,wN ?_⟩;refine ZBF (fun h3=>wN ?_) (fun h3=>wN ?_)
  ·have du:Zi (pk (s.drop e)).1=false:=by simpa using h3
   refine ZBF (fun h4=>wN ?_) (fun h4=>wN ?_)
   ·have gt:Zl (pk (s.drop e)).1=false:=by simpa using h4
    refine ⟨oM,oM,oM,wN ?_⟩;exact ct (ZbE cq du gt)
   have gt:Zl (pk (s.drop e)).1=true:=by simpa using h4
   obtain ⟨k1,k2,k3,k4⟩:=fin (.inr gt);exact m242
  have du:Zi (pk (s.drop e)).1=true:=by simpa using h3
  obtain ⟨k1,k2,k3,k4⟩:=fin (.inl du);exact m242
 exact h.elim
def ZAY (B:Int):List PV->St->Nat:=fun _ σ=>match σ.bx with | .cells _ (_::.d (.int _ n)::_)::_=>(B - n).toNat | _=>0
theorem Vy (p:UInt8->Bool):∀r:Bs,r.dropWhile p=r.drop (r.length - (r.dropWhile p).length)/\(r.dropWhile p).length<=r.length
 | []=>sM
 | x::r=>by
  have ih:=Vy p r
  by_cases hx:p x=true
  ·simp only [List.dropWhile_cons,hx,if_true,Td];refine ⟨?_,oM⟩;rw [show r.length+1 - (r.dropWhile p).length=(r.length - (r.dropWhile p).length)+1 by omega,List.drop_succ_cons];exact ih.1
  simp [List.dropWhile_cons,hx]
theorem Vz (c:UInt8):∀l:Bs,Lib.indexByte l c<l.length\/Lib.indexByte l c=-1
 | []=>.inr rfl
 | b::l=>by
  have ih:=Vz c l;unfold Lib.indexByte
  split
  ·left;simp
  split
  ·exact .inr rfl
  rename_i h1 h2
  rcases ih with h | h
  ·left;simp;omega
  rw [h] at h2;simp at h2
theorem ZfN (p:Bs):∀l:Bs,0<=Lib.index l p->Lib.index l p+p.length<=l.length
 | [],h=>by
  unfold Lib.index at h |-
  split at h
  ·rename_i hp
   simp at hp;subst hp;simp
  omega
 | b::l,h=>by
  have ih:=ZfN p l;unfold Lib.index at h |-
  split at h
  ·rename_i hp
   have:=List.IsPrefix.length_le (List.isPrefixOf_iff_prefix.1 hp);simp only [hp,if_true];simp only [Td] at this |-;omega
  split at h
  ·omega
  rename_i h1 h2
  have:=Lib.index_ge l p;have h3:Lib.index l p≠-1:=by simpa using h2
  simp only [h1,h2,To,if_false];have:=ih oM;simp only [Td];omega
theorem ZD {r:Bs} {a b:UInt8} (h:Lib.hasPrefix r [a,b]=true):2<=r.length/\r=a::b::r.drop 2:=by
 obtain ⟨t,rfl⟩:=List.isPrefixOf_iff_prefix.1 h;simp
theorem ZaU {r:Bs} {a b c:UInt8} (h:Lib.hasPrefix r [a,b]=true) (ha:a≠c) (hb:b≠c) (h0:0<=Lib.indexByte r c):2<=Lib.indexByte r c:=by
 rw [(ZD h).2] at h0 |-;have h1:(a == c)=false:=by simpa using ha
 have h2:(b == c)=false:=by simpa using hb
 have hg:=Lib.indexByte_ge (r.drop 2) c;simp only [Lib.indexByte,h1,h2,To,if_false] at h0 |-
 by_cases hm:Lib.indexByte (r.drop 2) c=-1
 ·rw [hm] at h0;simp at h0
 have zg:(Lib.indexByte (r.drop 2) c == -1)=false:=by simpa using hm
 simp only [zg,To,if_false] at h0 |-;have:(Lib.indexByte (r.drop 2) c+1 == -1)=false:=sO;simp only [this,To,if_false];omega
theorem ZwS:∀(j:Nat) (b:UInt8),([32,9,13,10]:Bs)[j]?=some b->b.toNat<128
 | 0,b,h=>by simp at h;subst h;decide
 | 1,b,h=>by simp at h;subst h;decide
 | 2,b,h=>by simp at h;subst h;decide
 | 3,b,h=>by simp at h;subst h;decide
 | j+4,b,h=>by simp at h
theorem ZqH (ht:TO w0 nG [(250,ZbC),(214,Wd),(181,Vc),(251,Zix)]):PC w0 nG 220 ZbD:=by
 refine Zd Zb mixed ht Tryz.func220 rfl kR kR ?_;intro args σ K h
 unfold ZbD at h
 split at h
 ·rename_i t s a
  obtain ⟨⟨h0,h1,hs⟩,h⟩:=h;obtain ⟨a,rfl⟩:∃n:Nat,a=n:=⟨a.toNat,oM⟩
  simp only [Tu] at h;refine ⟨Za [(1,⟨[],[0],fun vs σ=>vs=[] /\
   ∃e f:Nat,σ=⟨[.cells t [.d (.str s),.d (.int .i64 e)]],[],0⟩/\a<=e/\e<=s.length/\s.length<e+f/\(Zx f (s.drop e)).1=(Zw (s.drop a)).1/\e+(Zx f (s.drop e)).2=a+(Zw (s.drop a)).2,ZAY s.length⟩)],1,false,sM,Ta rfl,?_⟩
  conv=>whnf
  refine ⟨⟨rfl,a,s.length - a+1,rfl,oM,oM,oM,by simp [Zw],by simp [Zw]⟩,?_⟩;intro vs σ1 hI
  obtain ⟨rfl,e,f,rfl,rl,oh,hf,ik,o7⟩:=hI;obtain ⟨f,rfl⟩:∃g,f=g+1:=⟨f - 1,oM⟩
  conv=>whnf
  refine ⟨oM,oM,wN ?_⟩;refine ⟨⟨dM,ZwS⟩,wN ?_⟩;generalize pi:Lib.trimLeftS (cut s _ _) _=rest;have ax:Lib.trimLeftS (s.drop e) [32,9,13,10]=rest:=by rw [UY] at pi;exact pi
  have hdw:=Vy (([32,9,13,10]:Bs).contains ·) (s.drop e)
  have ae:rest=(s.drop e).drop ((s.drop e).length - rest.length):=by rw [<- ax];exact hdw.1
  have bi:rest.length<=(s.drop e).length:=by rw [<- ax];exact hdw.2
  rw [Tp] at bi;have bm:rest=s.drop (s.length - rest.length):=by
   rw [Tw,Tp,show e+(s.length - e - rest.length)=s.length - rest.length by omega] at ae;exact ae
  have hk:(s.drop e).length - rest.length=s.length - rest.length - e:=hD;have fh:∀n:Nat,1<=n->n<=rest.length->Zx (f+1) (s.drop e)=((Zx f (rest.drop n)).1,(s.drop e).length - rest.length+n+(Zx f (rest.drop n)).2) ->
    a<=s.length - rest.length+n/\s.length - rest.length+n<=s.length/\s.length<(s.length - rest.length+n)+f/\(Zx f (s.drop (s.length - rest.length+n))).1=(Zw (s.drop a)).1/\(s.length - rest.length+n)+(Zx f (s.drop (s.length - rest.length+n))).2=a+(Zw (s.drop a)).2:=fun n g1 g2 g3=>by
   have g4:rest.drop n=s.drop (s.length - rest.length+n):=by rw [<- Tw,<- bm]
   rw [g3,g4] at ik o7;simp only at ik o7;exact ⟨oM,oM,oM,ik,oM⟩
  have ct:∀b:Bool,Zx (f+1) (s.drop e)=(b,(s.drop e).length - rest.length)->K (.ret (.d (.bool b))) ⟨[.cells t [.d (.str s),.d (.int .i64 ((s.length:Int) - rest.length))]],[],0⟩:=fun b g=>by
   rw [g] at ik o7;simp only at ik o7;rw [<- ik,show (a:Int)+((Zw (s.drop a)).2:Int)=(s.length:Int) - rest.length by omega] at h;exact h
  have bg1:Lib.hasPrefix rest [47,47]=true->Zx (f+1) (s.drop e)=((Zx f (rest.drop (if Lib.indexByte rest 10<0 then rest.length else (Lib.indexByte rest 10).toNat))).1,(s.drop e).length - rest.length+(if Lib.indexByte rest 10<0 then rest.length else (Lib.indexByte rest 10).toNat)+(Zx f (rest.drop (if Lib.indexByte rest 10<0 then rest.length else (Lib.indexByte rest 10).toNat))).2):=fun g=>by
   simp only [Zx,ax,g,if_true]
  have bg2:Lib.hasPrefix rest [47,47]=false->Lib.hasPrefix rest [47,42]=true->Lib.index (rest.drop 2) [42,47]<0->Zx (f+1) (s.drop e)=(false,(s.drop e).length - rest.length):=fun g1 g2 g3=>by
   simp only [Zx,ax,g1,g2,g3,if_true,To,if_false]
  have bg3:Lib.hasPrefix rest [47,47]=false->Lib.hasPrefix rest [47,42]=true->¬Lib.index (rest.drop 2) [42,47]<0->Zx (f+1) (s.drop e)=((Zx f (rest.drop ((Lib.index (rest.drop 2) [42,47]).toNat+4))).1,(s.drop e).length - rest.length+((Lib.index (rest.drop 2) [42,47]).toNat+4)+(Zx f (rest.drop ((Lib.index (rest.drop 2) [42,47]).toNat+4))).2):=fun g1 g2 g3=>by
   simp only [Zx,ax,g1,g2,g3,if_true,To,if_false]
  have bg4:Lib.hasPrefix rest [47,47]=false->Lib.hasPrefix rest [47,42]=false->Zx (f+1) (s.drop e)=(true,(s.drop e).length - rest.length):=fun g1 g2=>by
   simp only [Zx,ax,g1,g2,To,if_false]
  refine Or.inl ⟨InR.i64 oM oM,wN ?_⟩;refine ZBF (fun h2=>wN ?_) (fun h2=>wN ?_)
  ·have cq:Lib.hasPrefix rest [47,47]=true:=h2;have qp:=(ZD cq).1;have bg:=bg1 cq;have ko:=Lib.indexByte_ge rest 10;have ah:=Vz 10 rest;have h22:=ZaU (c:=10) cq dM dM;refine ZBC (fun h3=>wN ?_) (fun h3=>wN ?_)
   ·have du:Lib.indexByte rest 10<0:=h3;simp only [du,if_true] at bg;refine Or.inl ⟨InR.i64 oM oM,wN ?_⟩;obtain ⟨k1,k2,k3,k4,k5⟩:=fh _ oM oM bg;refine ⟨⟨rfl,_,f,?_,k1,k2,k3,k4,k5⟩,?_⟩
    ·rw [show (s.length:Int) - (rest.length:Int)+(rest.length:Int)=((s.length - rest.length+rest.length:Nat):Int) by omega];rfl
    exact (show ((s.length:Int) - ((s.length:Int) - (rest.length:Int)+(rest.length:Int))).toNat<((s.length:Int) - (e:Int)).toNat by omega)
   have du:¬Lib.indexByte rest 10<0:=h3;simp only [du,if_false] at bg;obtain ⟨n,hn⟩:∃n:Nat,Lib.indexByte rest 10=n:=⟨(Lib.indexByte rest 10).toNat,oM⟩
   have ul:Lib.indexByte rest ((10:Int).toNat.toUInt8)=n:=hn;rw [ul];rw [hn] at h22 ah;rw [hn,Tu] at bg;refine Or.inl ⟨InR.i64 oM oM,wN ?_⟩;obtain ⟨k1,k2,k3,k4,k5⟩:=fh _ oM oM bg;refine ⟨⟨rfl,_,f,?_,k1,k2,k3,k4,k5⟩,?_⟩
   ·rw [show (s.length:Int) - (rest.length:Int)+(n:Int)=((s.length - rest.length+n:Nat):Int) by omega];rfl
   exact (show ((s.length:Int) - ((s.length:Int) - (rest.length:Int)+(n:Int))).toNat<((s.length:Int) - (e:Int)).toNat by omega)
  have cq:Lib.hasPrefix rest [47,47]=false:=h2;refine ZBF (fun h3=>wN ?_) (fun h3=>wN ?_)
  ·have du:Lib.hasPrefix rest [47,42]=true:=h3;have qp:=(ZD du).1;refine ⟨oM,oM,wN ?_⟩;rw [UY];have kg:(rest.drop 2).length=rest.length - 2:=sM;refine ⟨by have:(rest.drop ((2:Int).toNat)).length=rest.length - 2:=kg;omega,wN ?_⟩;have ko:=Lib.index_ge (rest.drop 2) [42,47];have ak:=ZfN [42,47] (rest.drop 2);simp only [Td,Tf,kg] at ak;refine ZBC (fun h4=>wN ?_) (fun h4=>wN ?_)
   ·exact ct _ (bg2 cq du h4)
   have gt:¬Lib.index (rest.drop 2) [42,47]<0:=h4;have bg:=bg3 cq du gt;obtain ⟨n,hn⟩:∃n:Nat,Lib.index (rest.drop 2) [42,47]=n:=⟨(Lib.index (rest.drop 2) [42,47]).toNat,oM⟩
   generalize hi:Lib.index _ _=i;have mc:i=n:=by rw [<- hi];exact hn
   subst mc;rw [hn] at ak;rw [hn,Tu] at bg;refine Or.inl ⟨InR.i64 oM oM,wN ?_⟩;refine Or.inl ⟨InR.i64 oM oM,wN ?_⟩;obtain ⟨k1,k2,k3,k4,k5⟩:=fh _ oM oM bg;refine ⟨⟨rfl,_,f,?_,k1,k2,k3,k4,k5⟩,?_⟩
   ·rw [show (s.length:Int) - (rest.length:Int)+((n:Int)+4)=((s.length - rest.length+(n+4):Nat):Int) by omega];rfl
   exact (show ((s.length:Int) - ((s.length:Int) - (rest.length:Int)+((n:Int)+4))).toNat<((s.length:Int) - (e:Int)).toNat by omega)
  exact ct _ (bg4 cq h3)
 exact h.elim
theorem orU (n:Fin 256):Zm .or .u8 (n.val:Int) 32=((n.val ||| 32:Nat):Int):=by rw [Yz];revert n;decide +kernel
theorem orH:∀n:Fin 256,(97<=(n.val ||| 32)/\(n.val ||| 32)<=102)↔((97<=n.val/\n.val<=102)\/(65<=n.val/\n.val<=70)):=by decide +kernel
theorem ZwT (b:UInt8):(97<=Zm .or .u8 (b.toNat:Int) 32/\Zm .or .u8 (b.toNat:Int) 32<=102)↔((97<=b.toNat/\b.toNat<=102)\/(65<=b.toNat/\b.toNat<=70)):=by
 have h2:=orU ⟨b.toNat,b.toNat_lt⟩;have h3:=orH ⟨b.toNat,b.toNat_lt⟩;simp only at h2 h3;rw [h2];omega
theorem VM (p:UInt8->Bool):∀l:Bs,l.takeWhile p=l.take (l.takeWhile p).length
 | []=>rfl
 | x::l=>by
  by_cases h:p x=true
  ·simp only [So,h,if_true,Td,List.take_succ_cons];rw [<- VM p l]
  simp [So,h]
theorem WX (p:UInt8->Bool):∀l:Bs,(l.takeWhile p).all p=true
 | []=>rfl
 | x::l=>by
  by_cases h:p x=true
  ·simp only [So,h,if_true,List.all_cons,WX p l,Bool.and_self]
  simp [So,h]
theorem Wx (p:UInt8->Bool) (l:Bs):(l.takeWhile p).length<=l.length:=List.Sublist.length_le (List.takeWhile_sublist p)
theorem Zna {s:Bs} {e:Nat} (h:e<s.length):s.drop e=s.getD e 0::s.drop (e+1):=by
 rw [TS h];simp [List.getD,h]
theorem Znc (ht:TO w0 nG [(214,Wd),(215,Vd),(274,Zad),(154,Zci),(155,Jo)]):PC w0 nG 254 ZcF:=by
 refine Zd Zb mixed ht Tryz.func254 rfl kR kR ?_;intro args σ K h
 unfold ZcF at h
 split at h
 ·rename_i t s a
  obtain ⟨⟨h0,h1,hs⟩,h⟩:=h;obtain ⟨a,rfl⟩:∃n:Nat,a=n:=⟨a.toNat,oM⟩
  simp only [Tu] at h;refine ⟨Za [(5,⟨[5],[0,2,3,4,6],fun vs σ=>σ=⟨[.cells t [.d (.str s),.d (.int .i64 a)],.cells 186 [.d (.int .u8 0),.d (.str []),.d (.int .i64 0),.d (.int .i64 0),.d (.int .i64 0)],.cells 216 [.d (.int .i64 0),.d (.int .i64 0)]],[],0⟩ /\
   ∃e:Nat,vs=[.d (.int .i64 e)]/\a+(if Xj (s.drop a) then 2 else 0)<=e/\e<=s.length/\e - (a+(if Xj (s.drop a) then 2 else 0))+((s.drop e).takeWhile (Xz (Xj (s.drop a)))).length=(Zf (s.drop a)).length,muI s.length⟩)],1,false,sM,Ta rfl,?_⟩
  have dk:ZP (s.drop a)=none->K (.ret (.tuple [Vq 0 [] 0 0 0,Zg3 a 142])) ⟨[.cells t [.d (.str s),.d (.int .i64 a)]],[],0⟩:=fun g=>by
   have e1:XM a (s.drop a)=.bad a 142:=by rw [XM,g]
   rw [e1] at h;exact h
  have dj:∀n:Nat,ZP (s.drop a)=some n->K (.ret (.tuple [Vq 2 [] (IntKind.i64.wrap n) a ((a+Zz (s.drop a):Nat):Int),Zg3 0 0])) ⟨[.cells t [.d (.str s),.d (.int .i64 a)]],[],0⟩:=fun n g=>by
   have e1:XM a (s.drop a)=.tok ⟨2,[],IntKind.i64.wrap n,a,a+Zz (s.drop a)⟩:=by rw [XM,g]
   rw [e1] at h;exact h
  conv=>whnf
  refine ⟨oM,oM,wN ?_⟩;rw [UY];refine ZBF (fun hx=>?_) (fun hx=>?_)
  ·have gy:Xj (s.drop a)=true:=hx;simp only [gy,if_true,To,if_false];have ju:Zf (s.drop a)=(s.drop (a+2)).takeWhile (Xz true):=by simp [Zf,gy,Tw]
   have ve:Zz (s.drop a)=2+(Zf (s.drop a)).length:=by simp [Zz,gy]
   have iu:=(ZD hx).1;rw [Tp] at iu;(conv=>whnf);refine Or.inl ⟨InR.i64 oM oM,wN ?_⟩;refine ⟨⟨rfl,(a+2),rfl,oM,oM,by rw [ju];simp⟩,?_⟩;intro vs σ1 hI
   obtain ⟨rfl,e,rfl,rl,oh,hn⟩:=hI;have ic:∀(g:((s.drop e).takeWhile (Xz true)).length=0),e=a+Zz (s.drop a)/\Zf (s.drop a)=cut s (a+2) e:=fun g=>by
    rw [g] at hn;refine ⟨oM,?_⟩;rw [X4,show e - (a+2)=(Zf (s.drop a)).length by omega,ju];exact VM _ _
   have cd:(Zf (s.drop a)).all (Xz true)=true:=by rw [ju];exact WX _ _
   have zh:(Zf (s.drop a)).length<=s.length:=by
    rw [ju];have:=Wx (Xz true) (s.drop (a+2));rw [Tp] at this;omega
   conv=>whnf
   refine ZBC (fun h2=>wN ?_) (fun h2=>wN ?_)
   ·have cq:e<s.length:=by omega
    have kh:=Zna cq;have hb:=(s.getD e 0).toNat_lt;have az:Xz true (s.getD e 0)=true->e+1 - (a+2)+((s.drop (e+1)).takeWhile (Xz true)).length=(Zf (s.drop a)).length:=fun g=>by
     rw [<- hn,kh,So,Tg g,Td];omega
    have nj:Xz true (s.getD e 0)=false->((s.drop e).takeWhile (Xz true)).length=0:=fun g=>by
     rw [kh,So,Tc (by rw [g];simp)];rfl
    refine ⟨oM,oM,wN ?_⟩;refine Or.inl ⟨InR.i32 oM tN,wN ?_⟩;refine ZBF (fun h3=>wN ?_) (fun h3=>wN ?_)
    ·exact m96
    have du:Zl ((s.getD e 0).toNat:Int)=false:=h3;have hoh:=ZwT (s.getD e 0);refine ZBC (fun h4=>wN ?_) (fun h4=>wN ?_)
    ·refine ZBC (fun h5=>wN ?_) (fun h5=>wN ?_)
     ·have hd:Xz true (s.getD e 0)=true:=by
       have:=hoh.1 ⟨h4,h5⟩;simp only [Xz,du,SE,Tt,TG];omega
      refine Or.inl ⟨InR.i64 oM oM,wN ?_⟩;refine ⟨⟨rfl,e+1,rfl,oM,oM,az hd⟩,?_⟩;exact m230
     have hd:Xz true (s.getD e 0)=false:=by
      have:¬((97<=(s.getD e 0).toNat/\(s.getD e 0).toNat<=102)\/(65<=(s.getD e 0).toNat/\(s.getD e 0).toNat<=70)):=fun g=>h5 (hoh.2 g).2
      simp only [Xz,du,SE,Tt,decide_eq_false_iff_not];exact this
     have hst:=ic (nj hd);exact m2
    have hd:Xz true (s.getD e 0)=false:=by
     have:¬((97<=(s.getD e 0).toNat/\(s.getD e 0).toNat<=102)\/(65<=(s.getD e 0).toNat/\(s.getD e 0).toNat<=70)):=fun g=>h4 (hoh.2 g).1
     simp only [Xz,du,SE,Tt,decide_eq_false_iff_not];exact this
    have hst:=ic (nj hd);exact m2
   have fy:((s.drop e).takeWhile (Xz true)).length=0:=by rw [Tz oM];rfl
   have hst:=ic (fy);exact m2
  have gy:Xj (s.drop a)=false:=hx;simp only [gy,if_true,To,if_false];have ju:Zf (s.drop a)=(s.drop (a+0)).takeWhile (Xz false):=by simp [Zf,gy,Tw]
  have ve:Zz (s.drop a)=0+(Zf (s.drop a)).length:=by simp [Zz,gy]
  conv=>whnf
  refine ⟨⟨rfl,a,rfl,oM,oM,by rw [ju];simp⟩,?_⟩;intro vs σ1 hI
  obtain ⟨rfl,e,rfl,rl,oh,hn⟩:=hI;have ic:∀(g:((s.drop e).takeWhile (Xz false)).length=0),e=a+Zz (s.drop a)/\Zf (s.drop a)=cut s (a+0) e:=fun g=>by
   rw [g] at hn;refine ⟨oM,?_⟩;rw [X4,show e - (a+0)=(Zf (s.drop a)).length by omega,ju];exact VM _ _
  have cd:(Zf (s.drop a)).all (Xz false)=true:=by rw [ju];exact WX _ _
  have zh:(Zf (s.drop a)).length<=s.length:=by
   rw [ju];have:=Wx (Xz false) (s.drop (a+0));rw [Tp] at this;omega
  conv=>whnf
  refine ZBC (fun h2=>wN ?_) (fun h2=>wN ?_)
  ·have cq:e<s.length:=by omega
   have kh:=Zna cq;have hb:=(s.getD e 0).toNat_lt;have az:Xz false (s.getD e 0)=true->e+1 - (a+0)+((s.drop (e+1)).takeWhile (Xz false)).length=(Zf (s.drop a)).length:=fun g=>by
    rw [<- hn,kh,So,Tg g,Td];omega
   have nj:Xz false (s.getD e 0)=false->((s.drop e).takeWhile (Xz false)).length=0:=fun g=>by
    rw [kh,So,Tc (by rw [g];simp)];rfl
   refine ⟨oM,oM,wN ?_⟩;refine Or.inl ⟨InR.i32 oM tN,wN ?_⟩;refine ZBF (fun h3=>wN ?_) (fun h3=>wN ?_)
   ·exact m96
   have du:Zl ((s.getD e 0).toNat:Int)=false:=h3;have hd:Xz false (s.getD e 0)=false:=by simp only [Xz,du,TU,T8]
   have hst:=ic (nj hd);(conv=>whnf);exact m11
  have fy:((s.drop e).takeWhile (Xz false)).length=0:=by rw [Tz oM];rfl
  have hst:=ic (fy);exact m11
 exact h.elim
theorem Zaf (r:Bs):(Lib.decodeL r).1<=1114111/\1<=(Lib.decodeL r).2/\(Lib.decodeL r).2<=4:=by
 exact m86
theorem Ziz (c:Int):(Lib.encodeRune c).length<=4:=by
 unfold Lib.encodeRune Lib.encodeRuneZ
 rw [Te]
 repeat' split
 all_goals simp
theorem UZ {n k:Nat} (h:n<128) (hk:k<128) (an:n≠k):(n:Int).toNat.toUInt8≠UInt8.ofNat k:=by
 intro h1
 have h2:=congrArg UInt8.toNat h1;simp [UInt8.toNat_ofNat'] at h2;omega
theorem ZjI {n:Nat} (h:Zh1 n=none):Zdo [110,116,34,92] n=-1:=by
 unfold Zh1 at h
 split at h;· cases h
 split at h;· cases h
 split at h;· cases h
 split at h;· cases h
 rename_i h1 h2 h3 h4
 unfold Zdo
 split
 ·rename_i h5
  have hc:([110,116,34,92]:Bs).contains ((n:Int).toNat.toUInt8)=false:=by
   have b1:=UZ (n:=n) (k:=110) oM oM h1;have b2:=UZ (n:=n) (k:=116) oM oM h2;exact m146
  rw [Lib.contains_iff_indexByte,decide_eq_false_iff_not] at hc;have:=Lib.indexByte_ge [110,116,34,92] ((n:Int).toNat.toUInt8);omega
 rfl
theorem ZjJ {n:Nat} {b:UInt8} (h:Zh1 n=some b):(Zdo [110,116,34,92] n=0/\b=10)\/(Zdo [110,116,34,92] n=1/\b=9)\/(Zdo [110,116,34,92] n=2/\b=34)\/(Zdo [110,116,34,92] n=3/\b=92):=by
 unfold Zh1 at h
 exact m83
theorem Uw (l:Bs) (b:UInt8):Zj (l++[b])=Zj l++[[.int .u8 b.toNat]]:=by simp [Zj]
theorem Yx (l m:Bs):Zj (l++m)=Zj l++Zj m:=by simp [Zj]
theorem Jp (l:Bs):∀r∈Zj l,r.length=1:=by
 intro r hr
 simp only [Zj,SC] at hr;obtain ⟨b,_,rfl⟩:=hr;rfl
theorem Yy (l:Bs):(Zj l).length=l.length:=by simp [Zj]
def ZAZ (B:Nat):List PV->St->Nat:=fun _ σ=>match σ.bx with | [_,_,_,_,.iter _ p]=>B - p | _=>0
theorem ZtV (ht:TO w0 nG [(126,Ve),(125,Uu),(154,Zci),(127,Uv),(17,ZcE)]):PC w0 nG 253 ZjG:=by
 refine Zd Zb mixed ht Tryz.func253 rfl kR kR ?_;intro args σ K h
 unfold ZjG at h
 split at h
 ·rename_i t s a
  obtain ⟨⟨h0,h1,hs⟩,h⟩:=h;obtain ⟨a,rfl⟩:∃n:Nat,a=n:=⟨a.toNat,oM⟩
  simp only [Tu] at h;obtain ⟨u,hu⟩:∃u,u=s.drop (a+1):=⟨_,rfl⟩
  have uf:u.length=s.length - (a+1):=by rw [hu,Tp]
  refine ⟨Za [(4,⟨[5],[0,2,3,4,22],fun vs σ=>∃(esc:Bool) (l:Bs) (i f:Nat) (p:PV),vs=[.d (.bool esc)] /\
   σ=⟨[.cells t [.d (.str s),.d (.int .i64 a)],.cells 186 [.d (.int .u8 0),.d (.str []),.d (.int .i64 0),.d (.int .i64 0),.d (.int .i64 0)],.cells 216 [.d (.int .i64 0),.d (.int .i64 0)],.cells 58 [p,.sl 0 5 (Zj l)],.iter u i],[0],1⟩ /\
   (p=.d .nilp\/p=.ptr 3 0)/\(i<=u.length/\u.length<i+f/\l.length<=4 * i)/\ZO f (u.drop i) esc l (1+i)=XL (s.drop a),ZAZ u.length⟩)],1,false,sM,Ta rfl,?_⟩
  have dk:∀n:Nat,XL (s.drop a)=.err n->K (.ret (.tuple [Vq 0 [] 0 0 0,Zg3 ((a+n:Nat):Int) 141])) ⟨[.cells t [.d (.str s),.d (.int .i64 a)]],[],0⟩:=fun n g=>by
   have e1:J3 a (s.drop a)=.bad (a+n) 141:=by rw [J3,g]
   rw [e1] at h;exact h
  have dj:∀(l:Bs) (n:Nat),XL (s.drop a)=.ok l n->K (.ret (.tuple [Vq 3 l 0 a ((a+n:Nat):Int),Zg3 0 0])) ⟨[.cells t [.d (.str s),.d (.int .i64 a)]],[],0⟩:=fun l n g=>by
   have e1:J3 a (s.drop a)=.tok ⟨3,l,0,a,a+n⟩:=by rw [J3,g]
   rw [e1] at h;exact h
  have jl:((a:Int)+1).toNat=a+1:=oM;(conv=>whnf);refine Or.inl ⟨InR.i64 oM oM,wN ?_⟩;refine ⟨oM,oM,wN ?_⟩;rw [UY,jl,<- hu];refine ⟨⟨false,[],0,(s.drop a).length+1,.d .nilp,rfl,rfl,.inl rfl,⟨oM,hD,sM⟩,?_⟩,?_⟩
  ·rw [XL,Tw,<- hu];rfl
  intro vs σ1 hI
  obtain ⟨esc,l,i,f,p,rfl,rfl,hp,⟨wx,aa,jv⟩,fh⟩:=hI;obtain ⟨f,rfl⟩:∃g,f=g+1:=⟨f - 1,oM⟩
  have aj:=Jp l;have cu:=Yy l;have bv:=Zdm u i;have kh:=Zaf (u.drop i);have kg:=Lib.decodeL_le (u.drop i);rw [Tp] at kg
  cases esc with
  | true =>
   rcases hp with rfl | rfl
   ·conv=>whnf
    refine ZBC (fun h2=>wN ?_) (fun h2=>wN ?_)
    ·have an:u.drop i≠[]:=fun g=>by have:=congrArg List.length g;rw [Tp] at this;simp at this;omega
     refine Or.inl ⟨InR.i64 oM oM,wN ?_⟩;refine Or.inl ⟨InR.i64 oM oM,wN ?_⟩;refine ⟨⟨.inl rfl,oM,by rw [bv];omega⟩,wN ?_⟩;generalize hk:Zdo _ _=k;have mz:Zdo [110,116,34,92] ((Lib.decodeL (u.drop i)).1:Int)=k:=by rw [<- bv];exact hk
     cases hE:Zh1 (Lib.decodeL (u.drop i)).1 with
     | none =>
      exact m92
     | some b =>
     have g1:XL (s.drop a)=ZO f (u.drop (i+(decodeL u i).2)) false (l++[b]) (1+(i+(decodeL u i).2)):=by rw [<- fh,bv];simp [ZO,an,hE,Tw,Sg]
     have g3:i+(decodeL u i).2<=u.length:=by rw [bv];have:=kg an;omega
     have rm:1<=(decodeL u i).2:=by rw [bv];omega
     rcases ZjJ hE with ⟨e1,rfl⟩ | ⟨e1,rfl⟩ | ⟨e1,rfl⟩ | ⟨e1,rfl⟩
     all_goals (rw [e1] at mz;subst mz)
     all_goals (conv=>whnf)
     all_goals (refine ⟨oM,by first | omega | (simp;done) | (simp;omega),?_⟩)
     all_goals (conv=>whnf)
     all_goals (refine ⟨⟨.inl rfl,rfl,rfl,aj,oM⟩,?_⟩)
     all_goals (conv=>whnf)
     all_goals (refine ⟨⟨false,_,_,f,_,rfl,?_,.inr rfl,⟨g3,oM,?_⟩,g1.symm⟩,?_⟩)
     all_goals (first | (rw [Uw];rfl) | (rw [Tb];simp;omega) | exact (show u.length - (i+(decodeL u i).2)<u.length - i by omega))
    exact m55
   conv=>whnf
   refine ZBC (fun h2=>wN ?_) (fun h2=>wN ?_)
   ·have an:u.drop i≠[]:=fun g=>by have:=congrArg List.length g;rw [Tp] at this;simp at this;omega
    refine Or.inl ⟨InR.i64 oM oM,wN ?_⟩;refine Or.inl ⟨InR.i64 oM oM,wN ?_⟩;refine ⟨⟨.inl rfl,oM,by rw [bv];omega⟩,wN ?_⟩;generalize hk:Zdo _ _=k;have mz:Zdo [110,116,34,92] ((Lib.decodeL (u.drop i)).1:Int)=k:=by rw [<- bv];exact hk
    cases hE:Zh1 (Lib.decodeL (u.drop i)).1 with
    | none =>
     exact m92
    | some b =>
    have g1:XL (s.drop a)=ZO f (u.drop (i+(decodeL u i).2)) false (l++[b]) (1+(i+(decodeL u i).2)):=by rw [<- fh,bv];simp [ZO,an,hE,Tw,Sg]
    have g3:i+(decodeL u i).2<=u.length:=by rw [bv];have:=kg an;omega
    have rm:1<=(decodeL u i).2:=by rw [bv];omega
    rcases ZjJ hE with ⟨e1,rfl⟩ | ⟨e1,rfl⟩ | ⟨e1,rfl⟩ | ⟨e1,rfl⟩
    all_goals (rw [e1] at mz;subst mz)
    all_goals (conv=>whnf)
    all_goals (refine ⟨oM,by first | omega | (simp;done) | (simp;omega),?_⟩)
    all_goals (conv=>whnf)
    all_goals (refine ⟨⟨.inr rfl,rfl,rfl,aj,oM⟩,?_⟩)
    all_goals (conv=>whnf)
    all_goals (refine ⟨⟨false,_,_,f,_,rfl,?_,.inr rfl,⟨g3,oM,?_⟩,g1.symm⟩,?_⟩)
    all_goals (first | (rw [Uw];rfl) | (rw [Tb];simp;omega) | exact (show u.length - (i+(decodeL u i).2)<u.length - i by omega))
   exact m55
  | false =>
  rcases hp with rfl | rfl
  ·conv=>whnf
   refine ZBC (fun h2=>wN ?_) (fun h2=>wN ?_)
   ·have an:u.drop i≠[]:=fun g=>by have:=congrArg List.length g;rw [Tp] at this;simp at this;omega
    have g3:i+(decodeL u i).2<=u.length:=by rw [bv];have:=kg an;omega
    have rm:1<=(decodeL u i).2:=by rw [bv];omega
    have sd:((a:Int)+1+(i:Int)).toNat=a+1+i:=oM;have xg:s.drop (a+1+i)=u.drop i:=by rw [hu,Tw]
    refine Or.inl ⟨InR.i64 oM oM,wN ?_⟩;refine Or.inl ⟨InR.i64 oM oM,wN ?_⟩;refine ⟨⟨oM,oM⟩,wN ?_⟩;refine ZBC (fun h3=>wN ?_) (fun h3=>wN ?_)
    ·have du:(Lib.decodeL (u.drop i)).1=34:=by rw [bv] at h3;omega
     have g1:XL (s.drop a)=.ok l (1+i+1):=by rw [<- fh];simp [ZO,an,du]
     refine Or.inl ⟨InR.i64 oM oM,wN ?_⟩;refine ⟨l,⟨rfl,rfl,rfl,.inl rfl,oM⟩,wN ?_⟩;exact m124
    have du:¬(Lib.decodeL (u.drop i)).1=34:=by rw [bv] at h3;omega
    refine ZBC (fun h4=>wN ?_) (fun h4=>wN ?_)
    ·have gt:(Lib.decodeL (u.drop i)).1=92:=by rw [bv] at h4;omega
     have g1:XL (s.drop a)=ZO f (u.drop (i+(decodeL u i).2)) true l (1+(i+(decodeL u i).2)):=by rw [<- fh,bv];simp [ZO,an,du,gt,Tw,Sg]
     refine ⟨⟨true,_,_,f,_,rfl,rfl,.inl rfl,⟨g3,oM,oM⟩,g1.symm⟩,?_⟩;exact m247
    have gt:¬(Lib.decodeL (u.drop i)).1=92:=by rw [bv] at h4;omega
    refine ZBC (fun h5=>wN ?_) (fun h5=>wN ?_)
    ·exact m101
    have ga:¬(pk (u.drop i)).1<32:=by rw [sd,xg] at h5;exact h5
    have g1:XL (s.drop a)=ZO f (u.drop (i+(decodeL u i).2)) false (l++Lib.encodeRune ((decodeL u i).1:Int)) (1+(i+(decodeL u i).2)):=by rw [<- fh,bv];simp [ZO,an,du,gt,ga,Tw,Sg]
    have hen:=Ziz ((decodeL u i).1:Int);refine ⟨⟨.inl rfl,rfl,rfl,aj,oM,oM,by rw [bv];omega⟩,wN ?_⟩;exact m122
   exact m55
  conv=>whnf
  refine ZBC (fun h2=>wN ?_) (fun h2=>wN ?_)
  ·have an:u.drop i≠[]:=fun g=>by have:=congrArg List.length g;rw [Tp] at this;simp at this;omega
   have g3:i+(decodeL u i).2<=u.length:=by rw [bv];have:=kg an;omega
   have rm:1<=(decodeL u i).2:=by rw [bv];omega
   have sd:((a:Int)+1+(i:Int)).toNat=a+1+i:=oM;have xg:s.drop (a+1+i)=u.drop i:=by rw [hu,Tw]
   refine Or.inl ⟨InR.i64 oM oM,wN ?_⟩;refine Or.inl ⟨InR.i64 oM oM,wN ?_⟩;refine ⟨⟨oM,oM⟩,wN ?_⟩;refine ZBC (fun h3=>wN ?_) (fun h3=>wN ?_)
   ·have du:(Lib.decodeL (u.drop i)).1=34:=by rw [bv] at h3;omega
    have g1:XL (s.drop a)=.ok l (1+i+1):=by rw [<- fh];simp [ZO,an,du]
    refine Or.inl ⟨InR.i64 oM oM,wN ?_⟩;refine ⟨l,⟨rfl,rfl,rfl,.inr rfl,oM⟩,wN ?_⟩;exact m124
   have du:¬(Lib.decodeL (u.drop i)).1=34:=by rw [bv] at h3;omega
   refine ZBC (fun h4=>wN ?_) (fun h4=>wN ?_)
   ·have gt:(Lib.decodeL (u.drop i)).1=92:=by rw [bv] at h4;omega
    have g1:XL (s.drop a)=ZO f (u.drop (i+(decodeL u i).2)) true l (1+(i+(decodeL u i).2)):=by rw [<- fh,bv];simp [ZO,an,du,gt,Tw,Sg]
    refine ⟨⟨true,_,_,f,_,rfl,rfl,.inr rfl,⟨g3,oM,oM⟩,g1.symm⟩,?_⟩;exact m247
   have gt:¬(Lib.decodeL (u.drop i)).1=92:=by rw [bv] at h4;omega
   refine ZBC (fun h5=>wN ?_) (fun h5=>wN ?_)
   ·exact m101
   have ga:¬(pk (u.drop i)).1<32:=by rw [sd,xg] at h5;exact h5
   have g1:XL (s.drop a)=ZO f (u.drop (i+(decodeL u i).2)) false (l++Lib.encodeRune ((decodeL u i).1:Int)) (1+(i+(decodeL u i).2)):=by rw [<- fh,bv];simp [ZO,an,du,gt,ga,Tw,Sg]
   have hen:=Ziz ((decodeL u i).1:Int);refine ⟨⟨.inr rfl,rfl,rfl,aj,oM,oM,by rw [bv];omega⟩,wN ?_⟩;exact m122
  exact m55
 exact h.elim
theorem Znd (r:Bs) (h:0<r.length):Yo r<=r.length/\Yo r<=2:=by
 unfold Yo
 split
 ·rename_i h1
  simp only [twos,SH,List.any_nil,T8,Sb] at h1;rcases h1 with h1 | h1 | h1 | h1 | h1
  all_goals (have:=(ZD h1).1;omega)
 split <;> omega
theorem YT (a:Nat) (r:Bs) (room:Bool):Xq a r room=if Yo r=0/\(pk r).1≠34/\Zi (pk r).1=false/\Zl (pk r).1=false then .bad a 140
 else if room=false then .bad a 3
 else if 0<Yo r then .tok ⟨4,r.take (Yo r),0,a,a+Yo r⟩
 else if (pk r).1=34 then J3 a r
 else if Zl (pk r).1=true then XM a r
 else .tok ⟨1,r.take (XD r),0,a,a+XD r⟩:=rfl
theorem ZtX (ht:TO w0 nG [(154,Zci),(252,ZjF),(155,Jo),(215,Vd),(253,ZjG),(254,ZcF),(156,Zg4)]):PC w0 nG 221 ZeW:=by
 refine Zd Zb mixed ht Tryz.func221 rfl kR kR ?_;intro args σ K h
 unfold ZeW at h
 split at h
 ·rename_i room t s a
  obtain ⟨⟨h0,h1,hs⟩,h⟩:=h;obtain ⟨a,rfl⟩:∃n:Nat,a=n:=⟨a.toNat,oM⟩
  simp only [Tu] at h;have eg:-1<=(pk (s.drop ((a:Int)).toNat)).1/\(pk (s.drop ((a:Int)).toNat)).1<=1114111:=Ww (s.drop a);have gk:=Znd (s.drop a) hD;rw [Tp] at gk;have dk:∀e:Nat,Xq a (s.drop a) room=.bad a e->K (.ret (.tuple [Vq 0 [] 0 0 0,Zg3 a e])) ⟨[.cells t [.d (.str s),.d (.int .i64 a)]],[],0⟩:=fun e g=>by
   rw [g] at h;exact h
  have zi:∀n:Nat,Yo (s.drop a)=n->Xq a (s.drop a) room=.tok ⟨4,(s.drop a).take n,0,a,a+n⟩->K (.ret (.tuple [Vq 4 (cut s ((a:Int)).toNat ((a:Int)+(n:Int)).toNat) 0 a ((a:Int)+(n:Int)),Zg3 0 0])) ⟨[.cells t [.d (.str s),.d (.int .i64 a)]],[],0⟩:=fun n g1 g2=>by
   rw [g2] at h;rw [X4,show ((a:Int)+(n:Int)).toNat - ((a:Int)).toNat=n by omega];exact h
  have o7:Xq a (s.drop a) room=.tok ⟨1,(s.drop a).take (XD (s.drop a)),0,a,a+XD (s.drop a)⟩->K (.ret (.tuple [Vq 1 ((s.drop a).take (XD (s.drop a))) 0 a ((a:Int)+(XD (s.drop a):Int)),Zg3 0 0])) ⟨[.cells t [.d (.str s),.d (.int .i64 a)]],[],0⟩:=fun g=>by
   rw [g] at h;exact h
  refine ⟨Za [],1,false,sM,Ta rfl,wN ?_⟩;refine ⟨⟨oM,oM⟩,wN ?_⟩;refine ⟨⟨oM,oM,oM⟩,wN ?_⟩;generalize gi:(pk (s.drop ((a:Int)).toNat)).1=c at eg |-;have hc:(pk (s.drop a)).1=c:=gi;generalize ek:Yo (s.drop ((a:Int)).toNat)=n;have hn:Yo (s.drop a)=n:=ek;rw [hn] at gk;refine ZBC (fun h2=>?_) (fun h2=>?_)
  ·obtain rfl:n=0:=by omega
   conv=>whnf
   refine ZBE (fun h3=>wN ?_) (fun h3=>?_)
   ·refine ⟨⟨oM,oM⟩,wN ?_⟩;refine ZBF (fun h4=>wN ?_) (fun h4=>?_)
    ·have gt:Zi c=false:=by simpa using h4
     refine ZBF (fun h5=>wN ?_) (fun h5=>?_)
     ·have ga:Zl c=false:=by simpa using h5
      (try (refine ⟨rfl,?_⟩;conv=>whnf))
      (try (refine ⟨rfl,?_⟩;conv=>whnf))
      exact dk 140 (by rw [YT,hn,hc,Tg ⟨rfl,h3,gt,ga⟩])
     have ga:Zl c=true:=by simpa using h5
     have i6:¬(0=0/\c≠34/\Zi c=false/\Zl c=false):=fun g=>by rw [ga] at g;simp at g
     cases room with
     | false =>
      exact m67
     | true =>
     conv=>whnf
     refine ZBC (fun h6=>?_) (fun h6=>wN ?_)
     ·exact absurd h6 (by simpa using h3)
     refine ZBF (fun h7=>wN ?_) (fun h7=>?_)
     ·refine ⟨⟨oM,oM,oM⟩,wN ?_⟩;have g:Xq a (s.drop a) true=XM a (s.drop a):=by
       rw [YT,hn,hc,Tc i6,Tc sM,Tc oM,Tc h3,Tg ga]
      rw [g] at h;exact h
     rw [ga] at h7;cases h7
    have gt:Zi c=true:=by simpa using h4
    have ga:Zl c=false:=by
     have ag4:(c=95\/128<=c\/(97<=c/\c<=122)\/(65<=c/\c<=90)):=by simpa [Zi] using gt
     simp only [Zl,decide_eq_false_iff_not];omega
    have i6:¬(0=0/\c≠34/\Zi c=false/\Zl c=false):=fun g=>by rw [gt] at g;simp at g
    cases room with
    | false =>
     exact m67
    | true =>
    conv=>whnf
    refine ZBC (fun h6=>?_) (fun h6=>wN ?_)
    ·exact absurd h6 (by simpa using h3)
    refine ZBF (fun h7=>?_) (fun h7=>wN ?_)
    ·rw [ga] at h7;cases h7
    refine ⟨⟨oM,oM,oM⟩,wN ?_⟩;exact o7 (by rw [YT,hn,hc,Tc i6,Tc sM,Tc oM,Tc h3,Tc (by rw [ga];simp)])
   obtain rfl:c=34:=h3;have i6:¬(0=0/\(34:Int)≠34/\Zi 34=false/\Zl 34=false):=fun g=>g.2.1 rfl
   cases room with
   | false =>
    exact m67
   | true =>
   conv=>whnf
   refine ⟨⟨oM,oM,oM⟩,wN ?_⟩;have g:Xq a (s.drop a) true=J3 a (s.drop a):=by
    rw [YT,hn,hc,Tc i6,Tc sM,Tc oM,Tg rfl]
   rw [g] at h;exact h
  have i6:¬(n=0/\c≠34/\Zi c=false/\Zl c=false):=fun g=>by omega
  cases room with
  | false =>
   exact m67
  | true =>
  conv=>whnf
  refine ZBC (fun h6=>wN ?_) (fun h6=>?_)
  ·refine Or.inl ⟨InR.i64 oM oM,wN ?_⟩;refine ⟨oM,oM,oM,wN ?_⟩;refine Or.inl ⟨InR.i64 oM oM,wN ?_⟩
   (try (refine ⟨rfl,?_⟩;conv=>whnf))
   (try (refine ⟨rfl,?_⟩;conv=>whnf))
   exact zi n hn (by rw [YT,hn,hc,Tc i6,Tc sM,Tg oM])
  omega
 exact h.elim
theorem Zg7 (r:Bs) (h0:0<=(pk r).1) (h:(pk r).1<128):0<r.length/\(pk r).1=((r.getD 0 0).toNat:Int)/\(pk r).2=1:=by
 unfold pk at h h0 |-
 split at h
 ·rename_i g;rw [Tg g] at h0;simp at h0
 rename_i g
 simp only [not_or] at g;rw [Tc (by simp only [not_or];exact g)] at h0 |-;have hl:0<r.length:=SB.2 g.1;refine ⟨hl,?_⟩;rw [Lib.decodeL_N] at h |-;rcases Lib.decodeN_shape r.length (r.getD 0 0).toNat (r.getD 1 0).toNat (r.getD 2 0).toNat (r.getD 3 0).toNat with ⟨c,e⟩ | ⟨c1,c2,c3,cv,e⟩ | ⟨c1,c2,c3,c4,cv,cs,e⟩ | ⟨c1,c2,c3,c4,c5,cv,cw,e⟩ | e
 ·rw [e];exact ⟨rfl,rfl⟩
 all_goals (rw [e] at h;dsimp only at h;omega)
theorem Zg8 {c:Int}:Zi c=true↔(c=95\/128<=c\/(97<=c/\c<=122)\/(65<=c/\c<=90)):=by simp [Zi]
theorem isDigit_iff {c:Int}:Zl c=true↔(48<=c/\c<=57):=by simp [Zl]
theorem Zg9:∀(f:Nat) (r:Bs),YF f r<=r.length
 | 0,r=>T7 _
 | f+1,r=>by
  have ih:=Zg9 f (r.drop (pk r).2);rw [Tp] at ih;have hl:(pk r).1≠-1->(pk r).2<=r.length:=fun h=>(Zm9 r h).2.1
  unfold YF
  split
  ·rename_i h;have:=hl oM;split <;> omega
  split
  ·rename_i h
   have:=hl (fun h1=>by rw [h1,Vx,Zae] at h;simp at h);omega
  omega
theorem Zne (r:Bs) (h:Zi (pk r).1=true):1<=XD r/\XD r<=r.length:=by
 refine ⟨?_,Zg9 _ _⟩;have:=Zg6 r;have sw:¬(pk r).1=46:=fun g=>by rw [g] at h;revert h;decide
 rw [XD,Zdp sw (.inl h)];omega
theorem Jq:∀(f:Nat) (r:Bs) (esc:Bool) (acc:Bs) (p:Nat) (t:Bs) (l:Nat),ZO f r esc acc p=.ok t l->p<l/\l<=p+r.length
 | 0,r,esc,acc,p,t,l,h=>by simp [ZO] at h
 | f+1,r,esc,acc,p,t,l,h=>by
  unfold ZO at h
  split at h
  ·cases h
  rename_i an
  have hd:=Lib.decodeL_le r an;have hr:=Zaf r;split at h
  ·split at h
   ·cases h
   have:=Jq f _ _ _ _ _ _ h;rw [Tp] at this;omega
  split at h
  ·cases h;have:=SB.2 an;omega
  split at h
  ·have:=Jq f _ _ _ _ _ _ h;rw [Tp] at this;omega
  split at h
  ·cases h
  have:=Jq f _ _ _ _ _ _ h;rw [Tp] at this;omega
theorem Znf (r:Bs):Zz r<=r.length:=by
 unfold Zz Zf
 have:=Wx (Xz (Xj r)) (r.drop (if Xj r then 2 else 0));rw [Tp] at this
 by_cases h:Xj r=true
 ·have:=(ZD h).1;simp only [h,if_true] at *;omega
 simp only [h,To,if_false] at *;omega
theorem Zdq {a:Nat} {r:Bs} {room:Bool} {t:Tok} (h0:0<r.length) (h:Xq a r room=.tok t):t.at'=a/\a<t.fin/\t.fin<=a+r.length:=by
 rw [YT] at h;split at h
 ·cases h
 rename_i g0
 split at h
 ·cases h
 split at h
 ·cases h;rename_i g1;have:=Znd r h0;exact ⟨rfl,by simp only;omega,by simp only;omega⟩
 rename_i g1
 split at h
 ·unfold J3 at h
  split at h
  ·cases h
  rename_i t' l hx
  cases h
  have:=Jq _ _ _ _ _ _ _ hx;rw [Tp] at this;exact ⟨rfl,by simp only;omega,by simp only;omega⟩
 rename_i g2
 split at h
 ·rename_i g3
  unfold XM at h
  split at h
  ·cases h
  rename_i n hx
  cases h
  have ak:=Znf r;refine ⟨rfl,?_,by simp only;omega⟩;simp only;have an:Zf r≠[]:=fun g=>by rw [ZP,Tg g] at hx;cases hx
  have:=SB.2 an;unfold Zz;omega
 rename_i g3
 cases h
 have h4:Zi (pk r).1=true:=by
  cases hb:Zi (pk r).1 with
  | true=>rfl
  | false=>exact absurd ⟨oM,g2,hb,by simpa using g3⟩ g0
 have:=Zne r h4;exact ⟨rfl,by simp only;omega,by simp only;omega⟩
theorem Zha {a:Nat} {r:Bs} {room:Bool} {p e:Nat} (h:Xq a r room=.bad p e):e≠0/\e<=142:=by
 rw [YT] at h
 repeat' split at h
 all_goals first | (cases h;done) | (cases h;omega) | (cases h;decide) | skip
 ·unfold J3 at h;split at h <;> cases h;decide
 unfold XM at h;split at h <;> cases h;decide
theorem ZaV:∀(f:Nat) (r:Bs),(Zx f r).2<=r.length
 | 0,r=>T7 _
 | f+1,r=>by
  have hdw:=Vy (([32,9,13,10]:Bs).contains ·) r
  obtain ⟨rest,ax⟩:∃x,x=Lib.trimLeftS r [32,9,13,10]:=⟨_,rfl⟩
  have bi:rest.length<=r.length:=by rw [ax];exact hdw.2
  simp only [Zx,<- ax];split
  ·rename_i h1
   have ih:=fun n=>ZaV f (rest.drop n)
   have ah:=Vz 10 rest;have ko:=Lib.indexByte_ge rest 10;have ih2:=ih (if Lib.indexByte rest 10<0 then rest.length else (Lib.indexByte rest 10).toNat);rw [Tp] at ih2;simp only;have:(if Lib.indexByte rest 10<0 then rest.length else (Lib.indexByte rest 10).toNat)<=rest.length:=by split <;> omega
   omega
  split
  ·rename_i h1 h2
   have hl:=(ZD h2).1;split
   ·simp only;omega
   rename_i h3
   have ak:=ZfN [42,47] (rest.drop 2) oM;simp only [Tp,Td,Tf] at ak;have ih2:=ZaV f (rest.drop ((Lib.index (rest.drop 2) [42,47]).toNat+4));rw [Tp] at ih2;simp only;omega
  simp only;omega
theorem ZtY {n len b0 b1 b2 b3 b1' b2' b3':Nat} (h1:1<n->b1'=b1) (h2:2<n->b2'=b2) (h3:3<n->b3'=b3) (hn:1<=n) (hd:(Lib.decodeN len b0 b1 b2 b3).2<=n) :
  Lib.decodeN (min n len) b0 b1' b2' b3'=Lib.decodeN len b0 b1 b2 b3:=by
 rcases Lib.decodeN_shape len b0 b1 b2 b3 with ⟨c,e⟩ | ⟨c1,c2,c3,cv,e⟩ | ⟨c1,c2,c3,c4,cv,cs,e⟩ | ⟨c1,c2,c3,c4,c5,cv,cw,e⟩ | e
 ·rw [e];unfold Lib.decodeN;rw [Tg c]
 ·rw [e] at hd |-;simp only at hd;rw [h1 (by omega)];unfold Lib.decodeN
  rw [Tc (by omega),Tg ⟨c1,by omega,c3⟩,Tg (by omega)]
 ·rw [e] at hd |-;simp only at hd;rw [h1 (by omega),h2 (by omega)];unfold Lib.decodeN
  rw [Tc (by omega),Tc (by omega),Tg ⟨c1,⟨by omega,c3⟩,by omega,c4⟩,Tg ⟨by omega,by omega⟩]
 ·rw [e] at hd |-;simp only at hd;rw [h1 (by omega),h2 (by omega),h3 (by omega)];unfold Lib.decodeN
  rw [Tc (by omega),Tc (by omega),Tc (by omega),Tg ⟨c1,⟨by omega,c3⟩,⟨by omega,c4⟩,by omega,c5⟩,Tg ⟨by omega,by omega⟩]
 rw [e];rcases Lib.decodeN_shape (min n len) b0 b1' b2' b3' with ⟨c,e'⟩ | ⟨c1,c2,c3,cv,e'⟩ | ⟨c1,c2,c3,c4,cv,cs,e'⟩ | ⟨c1,c2,c3,c4,c5,cv,cw,e'⟩ | e'
 ·unfold Lib.decodeN at e;rw [Tg c] at e;rw [e',<- e]
 ·rw [h1 (by omega)] at c3 cv;unfold Lib.decodeN at e
  rw [Tc (by omega),Tg ⟨c1,by omega,c3⟩,Tg (by omega)] at e;simp at e
 ·rw [h1 (by omega),h2 (by omega)] at *;unfold Lib.decodeN at e
  rw [Tc (by omega),Tc (by omega),Tg ⟨c1,⟨by omega,c3⟩,by omega,c4⟩,Tg ⟨by omega,by omega⟩] at e;simp at e
 ·rw [h1 (by omega),h2 (by omega),h3 (by omega)] at *;unfold Lib.decodeN at e
  rw [Tc (by omega),Tc (by omega),Tc (by omega),Tg ⟨c1,⟨by omega,c3⟩,⟨by omega,c4⟩,by omega,c5⟩,Tg ⟨by omega,by omega⟩] at e;simp at e
 exact e'
theorem ZaW (r:Bs) (n k:Nat):(r.take n).getD k 0=if k<n then r.getD k 0 else 0:=by
 simp only [TY,List.getElem?_take];split <;> simp
theorem ZqI {r:Bs} {n:Nat} (hn:1<=n) (hd:(Lib.decodeL r).2<=n):Lib.decodeL (r.take n)=Lib.decodeL r:=by
 rw [Lib.decodeL_N] at hd |-;rw [Lib.decodeL_N,Sn,ZaW,ZaW,ZaW,ZaW,Tg (by omega)];exact ZtY (fun h=>by rw [Tg h]) (fun h=>by rw [Tg h]) (fun h=>by rw [Tg h]) hn hd
theorem Zly (f:Nat):YF f []=0:=by
 cases f with
 | zero=>rfl
 | succ f=>exact ZbE (by simp [ZeX]) (by simp [ZeX];decide) (by simp [ZeX];decide)
theorem Zng {c:Int} (h:Zi c=true\/Zl c=true):c≠-1:=fun h1=>by rw [h1,Vx,Zae] at h;simp at h
end Go.PM.Lex
end

section
namespace Go.PM
def Znh (T:Tab) (tbl:Tbl) (it:Zqk) (gid:FuncId) (fn:Func):Zqk:=fun g args raw σ K=>∃loops,Zm6 T tbl it gid fn loops g args raw σ K
theorem ZiA {G : GE} {T : Tab} {tbl : Tbl} (hT : TabOK T G.P) (ca : G.P.follows .mixedOrders = true) (ht : TblOK G tbl) (hm : TblM tbl) {it : Zqk} (ns : UU G it) {gid : FuncId} {fn : Func} {c : Code} (hf : G.P.funcs[gid]? = some fn) (hb : fn.body = some c) (be : (fn.name == "runtime.NumGoroutine") = false)
  (aw:ZR fn.ntmps c=true):UU G (Znh T tbl it gid fn):=fun g args raw σ K h=>by
 obtain ⟨loops,h⟩:=h;exact Zlx hT ca ht hm ns hf hb be aw loops g args raw σ K h
end Go.PM
namespace Go.PM.Lex
open Go.Proofs
variable {w0:World} {nG:Nat}
noncomputable def Zni:Zt:=fun args σ K=>match args,σ with
 | [.d (.str s),.d (.int .i64 m)],⟨[],[],0⟩=>K (.ret (.func 219 [] [.ptr 0 0,.ptr 1 0])) ⟨[.cells 9 [.d (.str s)],.cells 3 [.d (.int .i64 m)]],[],0⟩
 | _,_=>False
theorem Zlz:Yb Zni:=fun args σ K K' hK h=>by
 unfold Zni at h |-;split at h <;> first | exact hK _ _ h | exact h.elim
theorem ZwU:PC w0 nG 168 Zni:=by
 refine Zd Zb mixed (tbl:=[]) trivial Tryz.func168 rfl kR kR ?_;intro args σ K h
 unfold Zni at h
 split at h
 ·rename_i s m
  refine ⟨Za [],2,false,sM,Ta rfl,wN ?_⟩;exact h
 exact h.elim
def ZqJ (t:Tok):List D:=[.int .u8 t.kind,.str t.text,.int .i64 t.n,.int .i64 t.at',.int .i64 t.fin]
def Zy (l:List Tok):List (List D):=l.map ZqJ
theorem ZG (l:List Tok):(Zy l).length=l.length:=by simp [Zy]
theorem ZeZ (l:List Tok) (t:Tok):Zy (l++[t])=Zy l++[ZqJ t]:=by simp [Zy]
noncomputable def ZaX:Zt:=fun args σ K=>match args,σ with
 | [.d (.str s),.d (.int .i64 m)],⟨[],[],0⟩=>s.length<4294967281 /\
   K (.ret (.tuple [.d (.sl (if (Uh s m).2.2=0 then Zy (Uh s m).1 else [])),.d (.int .i64 (Uh s m).2.1),.d (.int .i64 (Uh s m).2.2)])) ⟨[],[],0⟩
 | _,_=>False
noncomputable def ZfO:Tbl:=[(220,ZbD),(221,ZeW)]
noncomputable def Zzh:Zqk:=Znh ZgB ZfO Zg2 219 Tryz.f219
theorem Znk (ht:TO w0 nG ZfO):UU (GG w0 nG) Zzh:=ZiA Zb mixed ht ⟨Zg5,Ziy,trivial⟩ Jn Tryz.func219 rfl kR kR
def muX (B:Int) (k:Nat):List PV->St->Nat:=fun _ σ=>match σ.bx[k]? with | some (.cells _ (_::.d (.int _ n)::_))=>(B - n).toNat | _=>0
theorem Znl (fi:TO w0 nG ZfO) (ht:TO w0 nG [(168,Zni)]):PC w0 nG 110 ZaX:=by
 refine ZtM Zb mixed ht ⟨Zlz,trivial⟩ (Znk fi) Tryz.func110 rfl kR kR ?_;intro args σ K h
 unfold ZaX at h
 split at h
 ·rename_i s m
  obtain ⟨hs,h⟩:=h;refine ⟨Za [],0,false,sM,Ta rfl,wN ?_⟩;intro y r
  refine ⟨Za [(3,⟨[5],[0,1,2,4],fun vs σ=>∃(l:List Tok) (e f:Nat),vs=[.d (.int .i64 (l.length:Int))] /\
   σ=⟨[.cells 139 [.sl 0 186 []],.cells 3 [.d (.int .i64 0)],.cells 32 [.d (.int .i64 0)],.cells 139 [.sl 1 186 (Zy l)],.cells 9 [.d (.str s)],.cells 3 [.d (.int .i64 m)],.loop .ready none r,.cells 197 [.d (.str s),.d (.int .i64 e)]],[1,0],2⟩ /\
   (e<=s.length/\s.length<e+f/\l.length<=e)/\Uh s m=(l++(Xk f (m - l.length) e (s.drop e)).1,(Xk f (m - l.length) e (s.drop e)).2),muX s.length 7⟩)],rfl,?_⟩
  conv=>whnf
  refine ⟨⟨[],0,s.length+1,rfl,rfl,⟨oM,oM,sM⟩,by simp [Uh]⟩,?_⟩;intro vs σ1 hI
  obtain ⟨l,e,f,rfl,rfl,⟨rl,oh,ak⟩,cd⟩:=hI;obtain ⟨f,rfl⟩:∃g,f=g+1:=⟨f - 1,oM⟩
  have cu:(Zw (s.drop e)).2<=s.length - e:=by have:(Zw (s.drop e)).2<=(s.drop e).length:=ZaV _ _;rw [Tp] at this;exact this
  have dk:∀p c:Nat,(Xk (f+1) (m - l.length) e (s.drop e)).2=(p,c)->c≠0->K (.ret (.tuple [.d (.sl []),.d (.int .i64 p),.d (.int .i64 c)])) ⟨[],[],0⟩:=fun p c g1 g2=>by
   have e1:(Uh s m).2=(p,c):=by rw [cd];exact g1
   rw [e1] at h;simp only at h;rw [Tc g2] at h;exact h
  have ct:Xk (f+1) (m - l.length) e (s.drop e)=([],(0,0))->K (.ret (.tuple [.d (.sl (Zy l)),.d (.int .i64 0),.d (.int .i64 0)])) ⟨[],[],0⟩:=fun g=>by
   rw [cd,g] at h;simp only [TT,if_true] at h;exact h
  conv=>whnf
  refine ⟨⟨oM,oM,oM⟩,wN ?_⟩;generalize hk0:(Zw (s.drop ((e:Int)).toNat)).2=k;have hk:(Zw (s.drop e)).2=k:=hk0;rw [hk] at cu;refine ZBF (fun h2=>wN ?_) (fun h2=>wN ?_)
  ·have cq:(Zw (s.drop e)).1=false:=by simpa using h2
   have g1:Xk (f+1) (m - l.length) e (s.drop e)=([],(e+k,140)):=by rw [Xk,Tg cq,hk]
   have g2:=dk _ _ (by rw [g1]) dM;rw [show ((e+k:Nat):Int)=(e:Int)+(k:Int) by omega] at g2;refine ⟨rfl,rfl,rfl,wN ?_⟩;refine ⟨rfl,wN ?_⟩
   iterate 6 (try (refine ⟨rfl,?_⟩;conv=>whnf))
   exact g2
  have cq:(Zw (s.drop e)).1=true:=by simpa using h2
  have aj:¬(Zw (s.drop e)).1=false:=by rw [cq];simp
  refine ZBC (fun h3=>wN ?_) (fun h3=>wN ?_)
  ·have d8:(s.drop e).drop k=[]:=by rw [Tw];exact Tz oM
   have g1:Xk (f+1) (m - l.length) e (s.drop e)=([],(0,0)):=by rw [Xk,Tc aj,hk,Tg d8]
   exact ct g1
  have ah:e+k<s.length:=by omega
  have an:¬(s.drop e).drop k=[]:=fun g=>by have:=congrArg List.length g;rw [Tw,Tp] at this;simp at this;omega
  have g1:Xk (f+1) (m - l.length) e (s.drop e)=(match Xq (e+k) (s.drop (e+k)) (decide ((l.length:Int)<m)) with
    | .bad p e=>([],(p,e))
    | .tok t=>(t::(Xk f (m - l.length - 1) t.fin ((s.drop (e+k)).drop (t.fin - (e+k)))).1,(Xk f (m - l.length - 1) t.fin ((s.drop (e+k)).drop (t.fin - (e+k)))).2)):=by
   rw [Xk,Tc aj,hk,Tc an,Tw,show (decide (0<m - (l.length:Int)))=decide ((l.length:Int)<m) from by rw [decide_eq_decide];omega] <;> rfl
  refine ⟨⟨oM,oM,oM⟩,wN ?_⟩;generalize ka:Xq ((e:Int)+(k:Int)).toNat (s.drop ((e:Int)+(k:Int)).toNat) _=x;have hx:Xq (e+k) (s.drop (e+k)) (decide ((l.length:Int)<m))=x:=by
   rw [show ((e:Int)+(k:Int)).toNat=e+k by omega] at ka;exact ka
  rw [hx] at g1
  cases x with
  | bad p c =>
   have hc:=Zha hx;have g2:=dk p c (by rw [g1]) hc.1;(conv=>whnf);refine ⟨rfl,rfl,rfl,wN ?_⟩;refine ⟨rfl,wN ?_⟩;refine ZBE (fun h4=>wN ?_) (fun h4=>?_)
   ·iterate 6 (try (refine ⟨rfl,?_⟩;conv=>whnf))
    exact g2
   exact absurd h4 (by have:((c:Nat):Int)≠0:=oM;exact this)
  | tok t =>
  obtain ⟨fi,i5,sx⟩:=Zdq hD hx;rw [Tp] at sx;(conv=>whnf);refine ⟨rfl,rfl,rfl,wN ?_⟩;refine ⟨rfl,wN ?_⟩;refine ⟨fun r hr=>by (simp at hr;subst hr;rfl),(show ((Zy l).length+1) * 48<=2 ^ 47 by rw [ZG];omega),(show (Zy l).length+1<=2 ^ 47 by rw [ZG];omega),wN ?_⟩
  iterate 3 (try (refine ⟨rfl,?_⟩;conv=>whnf))
  refine Or.inl ⟨InR.i64 oM oM,wN ?_⟩;refine ⟨⟨l++[t],t.fin,f,?_,?_,⟨oM,oM,by rw [Tb];simp;omega⟩,?_⟩,?_⟩
  ·rw [Tb];rfl
  ·rw [ZeZ];rfl
  ·exact m118
  exact (show ((s.length:Int) - (t.fin:Int)).toNat<((s.length:Int) - (e:Int)).toNat by omega)
 exact h.elim
end Go.PM.Lex
end

section
namespace Go.PM.Lex
abbrev ws:Bs:=[32,9,13,10]
theorem ZtZ {a b:UInt8}:Lib.hasPrefix [] [a,b]=false:=rfl
theorem ZiB (f:Nat):Zx (f+1) []=(true,0):=by simp [Zx,Lib.trimLeftS,ZtZ]
theorem Vf {f:Nat} {r:Bs} (h1:Lib.hasPrefix (Lib.trimLeftS r ws) [47,47]=false) (h2:Lib.hasPrefix (Lib.trimLeftS r ws) [47,42]=false):Zx (f+1) r=(true,r.length - (Lib.trimLeftS r ws).length):=by
 simp only [Zx,h1,h2,To,if_false]
theorem Wy {f:Nat} {r:Bs} (h1:Lib.hasPrefix (Lib.trimLeftS r ws) [47,47]=true) (n:Nat) (hn:n=if Lib.indexByte (Lib.trimLeftS r ws) 10<0 then (Lib.trimLeftS r ws).length else (Lib.indexByte (Lib.trimLeftS r ws) 10).toNat) :
  Zx (f+1) r=((Zx f ((Lib.trimLeftS r ws).drop n)).1,r.length - (Lib.trimLeftS r ws).length+n+(Zx f ((Lib.trimLeftS r ws).drop n)).2):=by
 subst hn;simp only [Zx,h1,if_true]
theorem Wz {f:Nat} {r:Bs} (h1:Lib.hasPrefix (Lib.trimLeftS r ws) [47,47]=false) (h2:Lib.hasPrefix (Lib.trimLeftS r ws) [47,42]=true) (h3:Lib.index ((Lib.trimLeftS r ws).drop 2) [42,47]<0):Zx (f+1) r=(false,r.length - (Lib.trimLeftS r ws).length):=by
 simp only [Zx,h1,h2,h3,if_true,To,if_false]
theorem Vg {f:Nat} {r:Bs} (h1:Lib.hasPrefix (Lib.trimLeftS r ws) [47,47]=false) (h2:Lib.hasPrefix (Lib.trimLeftS r ws) [47,42]=true) (i:Nat) (h3:Lib.index ((Lib.trimLeftS r ws).drop 2) [42,47]=i) :
  Zx (f+1) r=((Zx f ((Lib.trimLeftS r ws).drop (i+4))).1,r.length - (Lib.trimLeftS r ws).length+(i+4)+(Zx f ((Lib.trimLeftS r ws).drop (i+4))).2):=by
 simp only [Zx,h1,h2,h3,if_true,To,if_false];rw [Tc oM];simp
theorem Znm (r:Bs):(Lib.trimLeftS r ws).length<=r.length:=(Vy (ws.contains ·) r).2
theorem ZlA:Zw []=(true,0):=ZiB 0
def ZbF (c:Nat):Option UInt8:=if c=10 then some 110 else if c=9 then some 116 else if c=34 then some 34 else if c=92 then some 92 else none
def WM:Nat->Bs->Bs->Option Bs
 | 0,_,_=>none
 | f+1,r,out=>if r=[] then some out else match ZbF (Lib.decodeL r).1 with
  | some b=>WM f (r.drop (Lib.decodeL r).2) (out++[92,b])
  | none=>if (Lib.decodeL r).1<32 then none else WM f (r.drop (Lib.decodeL r).2) (out++Lib.encodeRune (Lib.decodeL r).1)
def WC (s:Bs):Option Bs:=if Lib.validD s=true then (WM (s.length+1) s [34]).map (·++[34]) else none
open Go.Proofs
variable {w0:World} {nG:Nat}
noncomputable def ZjK:Zt:=fun args σ K=>match args,σ with
 | [.d (.int .i32 c)],⟨[],[],0⟩=>K (.ret (.d (.bool (Zi c)))) ⟨[],[],0⟩
 | _,_=>False
theorem ZaY:PC w0 nG 195 Vd:=by
 refine Zd Zb mixed (tbl:=[]) trivial Tryz.func195 rfl kR kR ?_;exact m80
theorem Ze0:PC w0 nG 194 ZjK:=by
 refine Zd Zb mixed (tbl:=[]) trivial Tryz.func194 rfl kR kR ?_;intro args σ K h
 unfold ZjK at h
 split at h
 ·rename_i c
  refine ⟨Za [],0,false,dM,Ta rfl,?_⟩
  repeat' ((conv=>whnf);refine ZBC (fun h1=>?_) (fun h1=>?_))
  all_goals (conv=>whnf)
  all_goals (refine ZaR h ?_;simp only [Zi,TG,decide_eq_false_iff_not,decide_eq_decide];omega)
 exact h.elim
noncomputable def ZiC:Zt:=fun args σ K=>match args,σ with
 | [.d (.str s),.d (.int .i64 a),.d (.int .i64 e)],⟨[],[],0⟩=>(0<=a/\a<=e/\e<=s.length/\s.length<4294967281) /\
   (3<=e - a/\cut s a.toNat (a.toNat+3)=[239,191,189]->K (.ret (.tuple [.d (.int .i32 65533),.d (.int .i64 3)])) ⟨[],[],0⟩) /\
   (¬(3<=e - a/\cut s a.toNat (a.toNat+3)=[239,191,189])->K (.ret (.tuple [.d (.int .i32 (-1)),.d (.int .i64 1)])) ⟨[],[],0⟩)
 | _,_=>False
theorem ZqK:PC w0 nG 240 ZiC:=by
 refine Zd Zb mixed (tbl:=[]) trivial Tryz.func240 rfl kR kR ?_;intro args σ K h
 unfold ZiC at h
 split at h
 ·rename_i s a e
  obtain ⟨⟨h0,h1,h2,h3⟩,hA,hB⟩:=h;refine ⟨Za [],0,false,dM,Ta rfl,wN ?_⟩;refine Or.inl ⟨InR.i64 oM oM,wN ?_⟩;refine ZBC (fun h4=>wN ?_) (fun h4=>wN ?_)
  ·refine Or.inl ⟨InR.i64 oM oM,wN ?_⟩;refine ⟨h0,oM,oM,wN ?_⟩;have ec:cut s a.toNat (a+3).toNat=cut s a.toNat (a.toNat+3):=by rw [show (a+3).toNat=a.toNat+3 by omega]
   refine ZBC (fun h5=>wN ?_) (fun h5=>wN ?_)
   ·exact hA ⟨h4,by rw [<- ec];exact h5⟩
   exact hB (fun g=>h5 (by rw [ec];exact g.2))
  exact hB (fun g=>h4 g.1)
 exact h.elim
noncomputable def Ze1:Zt:=fun args σ K=>match args,σ with
 | [.d (.str s),.d (.int .i64 a)],⟨[],[],0⟩=>(0<=a/\a<=s.length/\s.length<4294967281) /\
   K (.ret (.tuple [.d (.int .i32 (pk (s.drop a.toNat)).1),.d (.int .i64 (pk (s.drop a.toNat)).2)])) ⟨[],[],0⟩
 | _,_=>False
theorem ZqL (r:Bs) (h:(Lib.decodeL r).1≠65533):(Lib.decodeL r).2=if (Lib.decodeL r).1<128 then 1 else if (Lib.decodeL r).1<2048 then 2 else if (Lib.decodeL r).1<65536 then 3 else 4:=by
 rw [Lib.decodeL_N] at h |-;have k0:=(r.getD 0 0).toNat_lt;rcases Lib.decodeN_shape r.length (r.getD 0 0).toNat (r.getD 1 0).toNat (r.getD 2 0).toNat (r.getD 3 0).toNat with ⟨c,e⟩ | ⟨c1,c2,c3,cv,e⟩ | ⟨c1,c2,c3,c4,cv,cs,e⟩ | ⟨c1,c2,c3,c4,c5,cv,cw,e⟩ | e
 all_goals (rw [e] at h |-;dsimp only at h |-)
 ·rw [Tg c]
 ·rw [Tc oM,Tg oM]
 ·rw [Tc oM,Tc oM,Tg oM]
 ·rw [Tc oM,Tc oM,Tc oM]
 exact absurd rfl h
theorem ZA0 (s:Bs) (a:Nat) (h:3<=s.length - a):cut s a (a+3)=[239,191,189]↔Lib.hasPrefix (s.drop a) [239,191,189]=true:=by
 rw [X4,Nat.add_sub_cancel_left];unfold Lib.hasPrefix
 rw [List.isPrefixOf_iff_prefix,List.prefix_iff_eq_take];exact ⟨fun g=>by rw [<- g];simp,fun g=>g.symm⟩
def ZA1 (B:Nat):List PV->St->Nat:=fun _ σ=>match σ.bx with | [.iter _ p]=>B - p | _=>0
noncomputable def Zt0:Tbl:=[(240,ZiC)]
theorem ZfP:PC w0 nG 193 Ze1:=by
 refine Zd Zb mixed (tbl:=Zt0) ⟨ZqK,trivial⟩ Tryz.func193 rfl kR kR ?_;intro args σ K h
 unfold Ze1 at h
 split at h
 ·rename_i s a
  obtain ⟨⟨h0,h1,hs⟩,h⟩:=h;obtain ⟨a,rfl⟩:∃n:Nat,a=n:=⟨a.toNat,oM⟩
  simp only [Tu] at h;obtain ⟨u,hu⟩:∃u,u=(s.drop a).take 4:=⟨_,rfl⟩
  have uf:u.length=min 4 (s.length - a):=by rw [hu,Sn,Tp]
  have fy:s.length≠a->decodeL u 0=Lib.decodeL (s.drop a):=fun an=>by
   rw [Zdm,Sl,hu];exact ZqI oM (Zaf _).2.2
  have kh:=Zaf (s.drop a);have kg:=Lib.decodeL_le (s.drop a);rw [Tp] at kg;have adc:=Zzg (s.drop a);have sy:=ZA0 s a;refine ⟨Za [(2,⟨[],[0,1,16],fun vs σ=>vs=[]/\∃p:Nat,σ=⟨[.iter u p],[],0⟩/\(p=0\/(s.length≠a/\p=(Lib.decodeL (s.drop a)).2/\(Lib.decodeL (s.drop a)).1=65533)),ZA1 u.length⟩)],0,false,dM,Ta rfl,wN ?_⟩;have s7:cut s ((a:Int)).toNat (min ((a:Int)+4) (s.length:Int)).toNat=u:=by
   rw [X4,hu]
   by_cases h4:(a:Int)+4<=s.length
   ·rw [Int.min_eq_left h4];congr 1;omega
   exact m154
  have fin:∀e:Int,((Lib.decodeL (s.drop a)).1=65533/\s.length≠a/\(e=a+(Lib.decodeL (s.drop a)).2\/((Lib.decodeL (s.drop a)).2>=u.length/\e=a+u.length)))\/(s.length=a/\e=a) ->
    (3<=e - a/\cut s ((a:Int)).toNat (((a:Int)).toNat+3)=[239,191,189]->K (.ret (.tuple [.d (.int .i32 65533),.d (.int .i64 3)])) ⟨[],[],0⟩) /\
    (¬(3<=e - a/\cut s ((a:Int)).toNat (((a:Int)).toNat+3)=[239,191,189])->K (.ret (.tuple [.d (.int .i32 (-1)),.d (.int .i64 1)])) ⟨[],[],0⟩):=fun e he=>by
   simp only [Tu];rcases he with ⟨hv,an,he⟩ | ⟨an,he⟩
   ·have hl:0<(s.drop a).length:=by rw [Tp];omega
    have ag5:=kg (fun g=>by rw [g] at hl;simp at hl);refine ⟨fun g=>?_,fun g=>?_⟩
    ·rw [Zm8 _ hl ((sy oM).1 g.2) hv] at h;exact h
    have:¬Lib.hasPrefix (s.drop a) [239,191,189]=true:=fun gp=>by
     have l9:=(ZAz _).1 gp;rw [Tp] at l9;rcases adc hv with ⟨_,g2⟩ | ⟨g1,_⟩
     ·exact g ⟨oM,(sy oM).2 gp⟩
     exact g1 gp
    rw [ZsG _ this hv] at h;exact h
   refine ⟨fun g=>oM,fun g=>?_⟩;rw [Tz oM,ZeX] at h;exact h
  refine Or.inl ⟨InR.i64 oM oM,wN ?_⟩;refine ⟨oM,oM,oM,wN ?_⟩;rw [s7];refine ⟨⟨rfl,0,rfl,.inl rfl⟩,?_⟩;intro vs σ1 hI
  obtain ⟨rfl,p,rfl,hp⟩:=hI;(conv=>whnf);refine ZBC (fun h2=>?_) (fun h2=>wN ?_)
  ·rcases hp with rfl | ⟨ol,rfl,iv⟩
   ·have hd:=fy oM;(conv=>whnf);refine ZBE (fun h3=>?_) (fun h3=>wN ?_)
    ·have hv:(Lib.decodeL (s.drop a)).1≠65533:=by rw [hd] at h3;omega
     have jf:=ZjH (s.drop a) hD hv;have hsz:=ZqL _ hv;rw [jf] at h;rw [<- hd] at h hsz;simp only at h;generalize hc:((decodeL u 0).1:Int)=c at h |-;(conv=>whnf);refine ZBC (fun h4=>wN ?_) (fun h4=>wN ?_)
     ·rw [hsz,Tg oM] at h;exact h
     refine ZBC (fun h5=>wN ?_) (fun h5=>wN ?_)
     ·rw [hsz,Tc oM,Tg oM] at h;exact h
     refine ZBC (fun h6=>wN ?_) (fun h6=>wN ?_)
     ·rw [hsz,Tc oM,Tc oM,Tg oM] at h;exact h
     rw [hsz,Tc oM,Tc oM,Tc oM] at h;exact h
    have hv:(Lib.decodeL (s.drop a)).1=65533:=by rw [hd] at h3;omega
    refine ⟨⟨rfl,0+(decodeL u 0).2,rfl,.inr ⟨oM,by rw [hd,Sf],hv⟩⟩,?_⟩;exact (show u.length - (0+(decodeL u 0).2)<u.length - 0 by rw [hd];omega)
   have hl:=kg (fun g=>by have:=congrArg List.length g;rw [Tp] at this;simp at this;omega);(conv=>whnf);refine ZBC (fun h3=>wN ?_) (fun h3=>?_)
   ·refine Or.inl ⟨InR.i64 oM oM,wN ?_⟩;refine ⟨⟨oM,oM,oM,hs⟩,?_⟩;obtain ⟨f1,f2⟩:=fin ((a:Int)+((Lib.decodeL (s.drop a)).2:Int)) (.inl ⟨iv,ol,.inl rfl⟩);refine ⟨fun g=>wN ?_,fun g=>wN ?_⟩
    ·exact f1 g
    exact f2 g
   omega
  refine Or.inl ⟨InR.i64 oM oM,wN ?_⟩;refine ⟨⟨oM,oM,oM,hs⟩,?_⟩;obtain ⟨f1,f2⟩:=fin (min ((a:Int)+4) (s.length:Int)) (by
   rcases hp with rfl | ⟨ol,rfl,iv⟩
   ·exact .inr ⟨oM,oM⟩
   exact .inl ⟨iv,ol,.inr ⟨oM,oM⟩⟩)
  refine ⟨fun g=>wN ?_,fun g=>wN ?_⟩
  ·exact f1 g
  exact f2 g
 exact h.elim
noncomputable def Zag:Zt:=fun args σ K=>match args,σ with
 | [.d (.str s),.d (.int .i64 a)],⟨[],[],0⟩=>(0<=a/\s.length<4294967281)/\K (.ret (.d (.bool (Zi (pk (s.drop a.toNat)).1)))) ⟨[],[],0⟩
 | _,_=>False
noncomputable def ZqM:Tbl:=[(193,Ze1),(194,ZjK)]
theorem ZaZ:PC w0 nG 135 Zag:=by
 refine Zd Zb mixed (tbl:=ZqM) ⟨ZfP,Ze0,trivial⟩ Tryz.func135 rfl kR kR ?_;intro args σ K h
 unfold Zag at h
 split at h
 ·rename_i s a
  obtain ⟨⟨h0,hs⟩,h⟩:=h;refine ⟨Za [],0,false,dM,Ta rfl,wN ?_⟩;refine ZBC (fun h1=>wN ?_) (fun h1=>wN ?_)
  ·rw [Tz oM,ZeX,Vx] at h;exact h
  refine ⟨⟨h0,oM,hs⟩,wN ?_⟩;exact h
 exact h.elim
noncomputable def ZfQ:Zt:=fun args σ K=>match args,σ with
 | [.d (.str s),.d (.int .i64 a)],⟨[],[],0⟩=>(0<=a/\a<=s.length/\s.length<4294967281/\Zi (pk (s.drop a.toNat)).1=true) /\
   K (.ret (Vq 1 (cut s a.toNat (a.toNat+XD (s.drop a.toNat))) 0 a (a+XD (s.drop a.toNat)))) ⟨[],[],0⟩
 | _,_=>False
noncomputable def ZqN:Tbl:=[(193,Ze1),(194,ZjK),(195,Vd),(135,Zag)]
theorem ZjL:PC w0 nG 136 ZfQ:=by
 refine Zd Zb mixed (tbl:=ZqN) ⟨ZfP,Ze0,ZaY,ZaZ,trivial⟩ Tryz.func136 rfl kR kR ?_;intro args σ K h
 unfold ZfQ at h
 split at h
 ·rename_i s a
  obtain ⟨⟨h0,h1,hs,zj⟩,h⟩:=h;obtain ⟨a,rfl⟩:∃n:Nat,a=n:=⟨a.toNat,oM⟩
  simp only [Tu] at h zj;refine ⟨Za [(2,⟨[5],[0,1,4],fun vs σ=>σ=⟨[.cells 186 [.d (.int .u8 0),.d (.str []),.d (.int .i64 0),.d (.int .i64 0),.d (.int .i64 0)]],[],0⟩ /\
   ∃e f:Nat,a<=e/\e<=s.length/\vs=[.d (.int .i64 e)]/\s.length<e+f/\e+YF f (s.drop e)=a+XD (s.drop a),muI s.length⟩)],0,false,sM,Ta rfl,?_⟩
  conv=>whnf
  refine ⟨⟨rfl,a,s.length - a+1,oM,oM,rfl,oM,by simp [XD]⟩,?_⟩;intro vs σ1 hI
  obtain ⟨rfl,e,f,rl,oh,rfl,hf,hn⟩:=hI;obtain ⟨f,rfl⟩:∃g,f=g+1:=⟨f - 1,oM⟩
  have eg:=Ww (s.drop e);have lv:=Zm9 (s.drop e);have ct:YF (f+1) (s.drop e)=0->K (.ret (Vq 1 (cut s a e) 0 a e)) ⟨[],[],0⟩:=fun h3=>by
   have e2:a+XD (s.drop a)=e:=by rw [h3] at hn;omega
   have e3:(a:Int)+(XD (s.drop a):Int)=(e:Int):=oM;rw [e2,e3] at h;exact h
  have fh:∀n:Nat,1<=n->e+n<=s.length->YF (f+1) (s.drop e)=n+YF f ((s.drop e).drop n)->a<=e+n/\e+n<=s.length/\s.length<(e+n)+f/\(e+n)+YF f (s.drop (e+n))=a+XD (s.drop a):=fun n h1 h2 h3=>by
   rw [Tw] at h3;exact ⟨oM,h2,oM,by rw [<- hn,h3];omega⟩
  have ade:e=a->Zi (pk (s.drop e)).1=true:=fun g=>by rw [g];exact zj
  conv=>whnf
  refine ZBC (fun h2=>wN ?_) (fun h2=>wN ?_)
  ·refine ⟨⟨oM,oM,hs⟩,wN ?_⟩;generalize gi:(pk (s.drop ((e:Int)).toNat)).1=c;have hc:(pk (s.drop e)).1=c:=gi;have fin:∀(h4:Zi (pk (s.drop e)).1=true\/Zl (pk (s.drop e)).1=true),a<=e+(pk (s.drop e)).2/\e+(pk (s.drop e)).2<=s.length/\s.length<(e+(pk (s.drop e)).2)+f/\(e+(pk (s.drop e)).2)+YF f (s.drop (e+(pk (s.drop e)).2))=a+XD (s.drop a)/\1<=(pk (s.drop e)).2:=fun h4=>by
    obtain ⟨g1,g2,g3⟩:=lv (Zng h4);have g2':e+(pk (s.drop e)).2<=s.length:=by rw [Tp] at g2;omega
    have sw:¬(pk (s.drop e)).1=46:=fun g=>by rw [g] at h4;revert h4;decide
    obtain ⟨k1,k2,k3,k4⟩:=fh _ g1 g2' (Zdp sw h4);exact ⟨k1,k2,k3,k4,g1⟩
   conv=>whnf
   refine ZBF (fun h3=>wN ?_) (fun h3=>wN ?_)
   ·obtain ⟨k1,k2,k3,k4,k5⟩:=fin (.inl (by rw [hc];exact h3));exact m242
   have du:Zi (pk (s.drop e)).1=false:=by rw [hc];exact h3
   have hea:a<e:=by
    rcases Nat.lt_or_ge a e with g | g
    ·exact g
    have:=ade oM;rw [du] at this;cases this
   refine ZBF (fun h4=>wN ?_) (fun h4=>wN ?_)
   ·obtain ⟨k1,k2,k3,k4,k5⟩:=fin (.inr (by rw [hc];exact h4));refine ZBC (fun h5=>wN ?_) (fun h5=>?_)
    ·exact m242
    omega
   have gt:Zl (pk (s.drop e)).1=false:=by rw [hc];exact h4
   refine ZBC (fun h5=>wN ?_) (fun h5=>wN ?_)
   ·have sw:(pk (s.drop e)).1=46:=by rw [hc];exact h5
    have lk:=Zg7 (s.drop e) oM oM;refine ZBC (fun h6=>wN ?_) (fun h6=>?_)
    ·refine Or.inl ⟨InR.i64 oM oM,wN ?_⟩;refine ⟨⟨oM,hs⟩,wN ?_⟩;have ed:s.drop ((e:Int)+1).toNat=(s.drop e).drop 1:=by rw [Tw];congr 1
     conv=>whnf
     refine ZBF (fun h7=>wN ?_) (fun h7=>wN ?_)
     ·have zk:Zi (pk ((s.drop e).drop 1)).1=true:=by rw [<- ed];exact h7
      obtain ⟨k1,k2,k3,k4⟩:=fh 1 oM oM (by have:=ZeY (f:=f) sw zk;rw [lk.2.2] at this;exact this);refine Or.inl ⟨InR.i64 oM oM,wN ?_⟩;refine ⟨⟨rfl,e+1,f,k1,k2,rfl,k3,k4⟩,?_⟩;exact m230
     have zk:Zi (pk ((s.drop e).drop 1)).1=false:=by rw [<- ed];exact h7
     refine ⟨oM,oM,oM,wN ?_⟩;exact ct (ZaT sw zk)
    omega
   have sw:¬(pk (s.drop e)).1=46:=by rw [hc];exact h5
   refine ⟨oM,oM,oM,wN ?_⟩;exact ct (ZbE sw du gt)
  have d8:s.drop e=[]:=Tz oM;refine ⟨oM,oM,oM,wN ?_⟩;exact ct (by rw [d8];exact Zly _)
 exact h.elim
end Go.PM.Lex
end

section
noncomputable section
namespace Go.PM
theorem Y5 {G:GE} {g:FuncId} {sp:Zt} (mi:VX G.P g)
  (h:∀args σ K,sp args σ K->∀(e:Env) (w:World) (vs:Array Value),SRel G e σ w->ArgsRel G e σ w args vs->∃pv,K (.ret pv) σ/\∃v,(∀w',Grows w w'->VRel G e σ w' pv v)/\Calls G.P g vs w fun en w'=>en=.returned v/\Grows w w'):PCalls G g sp where
 enters:=mi
 calls:=fun args σ K hs n e w vs hS ha=>by
  obtain ⟨pv,hK,v,hv,hc⟩:=h args σ K hs e w vs hS ha;refine CallsIn.mono (callsIn_wide.2 hc) fun en w' ⟨he,hg⟩=>?_
  subst he;exact ⟨.ret pv,σ,e,hK,⟨v,rfl,hv w' hg⟩,hS.grow hg,(hg.stepped e σ).toLater⟩
theorem ZBJ {w w':World} (h:RowKit.Below w.heap.size w w'):Grows w w':=⟨h.os,h.tape,h.output,h.size,h.block⟩
section
variable {G:GE} {e:Env} {σ:St} {w:World} {vs:Array Value}
theorem Zhb {x:PV} (h:ArgsRel G e σ w [x] vs):∃u,vs=#[u]/\VRel G e σ w x u:=by
 obtain ⟨hs,hr⟩:=h;obtain ⟨l⟩:=vs
 match l,hs with
 | [u],_=>exact ⟨u,rfl,hr 0 x u rfl rfl⟩
theorem Zhc {x y:PV} (h:ArgsRel G e σ w [x,y] vs):∃u v,vs=#[u,v]/\VRel G e σ w x u/\VRel G e σ w y v:=by
 obtain ⟨hs,hr⟩:=h;obtain ⟨l⟩:=vs
 match l,hs with
 | [u,v],_=>exact ⟨u,v,rfl,hr 0 x u rfl rfl,hr 1 y v rfl rfl⟩
end
end Go.PM
namespace Go.PM.Lex
open Go.Proofs
variable {w0:World} {nG:Nat}
theorem VA:PC w0 nG 214 Wd:=Y5 (Zn Tryz.func214 kR rfl) fun args σ K h e w vs hS ha=>by
 unfold Wd at h
 split at h
 ·obtain ⟨u,v,rfl,hu,hv⟩:=Zhc ha
  cases hu.dstr;cases hv.dstr
  exact ⟨_,h,_,fun _ _=>.mkbool,(Tryz.strings_HasPrefix _ _ w).mono fun en w' ⟨h1,h2⟩=>⟨h1,by rw [h2];exact Grows.refl _⟩⟩
 exact h.elim
theorem U0:PC w0 nG 181 Vc:=Y5 (Zn Tryz.func181 kR rfl) fun args σ K h e w vs hS ha=>by
 unfold Vc at h
 split at h
 ·obtain ⟨u,v,rfl,hu,hv⟩:=Zhc ha
  cases hu.dstr;cases hv.dint
  exact ⟨_,h,_,fun _ _=>.mkint,(Tryz.strings_IndexByte _ _ w).mono fun en w' ⟨h1,h2⟩=>⟨h1,by rw [h2];exact Grows.refl _⟩⟩
 exact h.elim
theorem ZlB:PC w0 nG 213 Zdn:=Y5 (Zn Tryz.func213 kR rfl) fun args σ K h e w vs hS ha=>by
 unfold Zdn at h
 split at h
 ·obtain ⟨u,rfl,hu⟩:=Zhb ha
  cases hu.dint
  exact ⟨_,h,_,fun _ _=>.mkint,(Tryz.utf8_RuneLen _ w).mono fun en w' ⟨h1,h2⟩=>⟨h1,by rw [h2];exact Grows.refl _⟩⟩
 exact h.elim
theorem ZqO (h2:2<nG) (hm:∃m,w0.cell? ⟨2,0,none⟩=some (.int .i64 m)):PC w0 nG 251 Zix:=Y5 (Zn Tryz.func251 kR rfl) fun args σ K h e w vs hS ha=>by
 unfold Zix at h
 split at h
 ·rename_i s p
  obtain ⟨u,v,rfl,hu,hv⟩:=Zhc ha
  cases hu.dstr;cases hv.dstr
  obtain ⟨m,hm⟩:=hm;have zg:w.cell? ⟨2,0,none⟩=some (.int .i64 m):=by
   have:=hS.glob 2 h2;simpa [World.cell?,this] using hm
  exact ⟨_,h.2,_,fun _ _=>.mkint,(Tryz.strings_Index ⟨s.toArray⟩ ⟨p.toArray⟩ m w (show s.toArray.size<_ by simpa using h.1) zg).mono fun en w' ⟨h1,h2⟩=>⟨h1,by rw [h2];exact Grows.refl _⟩⟩
 exact h.elim
theorem ZiD:PC w0 nG 250 ZbC:=Y5 (Zn Tryz.func250 kR rfl) fun args σ K h e w vs hS ha=>by
 unfold ZbC at h
 split at h
 ·rename_i s p
  obtain ⟨u,v,rfl,hu,hv⟩:=Zhc ha
  cases hu.dstr;cases hv.dstr
  refine ⟨_,h.2,_,fun _ _=>.mkstr,(Any.strings_TrimLeft_laid Tryz.lays161 kR ⟨s.toArray⟩ ⟨p.toArray⟩ w (show p.toArray.size<_ by simpa using h.1.1) h.1.2).mono fun en w' ⟨h1,h2⟩=>⟨h1,ZBJ h2⟩⟩
 exact h.elim
end Go.PM.Lex
end
end

section
namespace Go.PM.Lex
open Go.Proofs
variable {w0:World} {nG:Nat}
noncomputable def ZiE:Zt:=fun args σ K=>match args with
 | [.d (.str s)]=>s.length<=9223372036854775807/\K (.ret (.d (.bool (Lib.validD s)))) σ
 | _=>False
theorem ZqP (h1:1<nG) (hT:Lib.Utf8Tabs 0 1 w0):PC w0 nG 124 ZiE:=Y5 (Zn Tryz.func124 kR rfl) fun args σ K h e w vs hS ha=>by
 unfold ZiE at h
 split at h
 ·rename_i s
  obtain ⟨u,rfl,hu⟩:=Zhb ha
  cases hu.dstr
  have hT':Lib.Utf8Tabs 0 1 w:=by
   have g0:=hS.glob 0 (show 0<nG by omega);have g1:=hS.glob 1 h1;obtain ⟨a,b⟩:=hT;refine ⟨fun c hc=>?_,fun i hi=>?_⟩
   ·have:=a c hc;simpa [World.cell?,g0] using this
   have:=b i hi;simpa [World.cell?,g1] using this
  exact ⟨_,h.2,_,fun _ _=>.mkbool,(Any.utf8_ValidString Tryz.laysValid ⟨s.toArray⟩ w (show s.toArray.size<=_ by simpa using h.1) hT').mono fun en w' ⟨h1,h2⟩=>⟨h1,ZBJ h2⟩⟩
 exact h.elim
theorem ZqQ {n:Nat} (h:ZbF n=none):Zdo [10,9,34,92] n=-1:=by
 unfold ZbF at h
 split at h;· cases h
 split at h;· cases h
 split at h;· cases h
 split at h;· cases h
 rename_i h1 h2 h3 h4
 unfold Zdo
 split
 ·rename_i h5
  have hc:([10,9,34,92]:Bs).contains ((n:Int).toNat.toUInt8)=false:=by
   have b1:=UZ (n:=n) (k:=10) oM oM h1;have b2:=UZ (n:=n) (k:=9) oM oM h2;exact m146
  rw [Lib.contains_iff_indexByte,decide_eq_false_iff_not] at hc;have:=Lib.indexByte_ge [10,9,34,92] ((n:Int).toNat.toUInt8);omega
 rfl
theorem ZqR {n:Nat} {b:UInt8} (h:ZbF n=some b):(Zdo [10,9,34,92] n=0/\b=110)\/(Zdo [10,9,34,92] n=1/\b=116)\/(Zdo [10,9,34,92] n=2/\b=34)\/(Zdo [10,9,34,92] n=3/\b=92):=by
 unfold ZbF at h
 exact m83
noncomputable def Vh:Zt:=fun args σ K=>match args,σ with
 | [.d (.str s)],⟨[],[],0⟩=>s.length<4294967281/\(WC s=none->K (.ret (.tuple [.d (.str []),.d (.bool false)])) ⟨[],[],0⟩)/\(∀q,WC s=some q->K (.ret (.tuple [.d (.str q),.d (.bool true)])) ⟨[],[],0⟩)
 | _,_=>False
theorem Zhd:Yb Vh:=fun args σ K K' hK h=>by
 unfold Vh at h |-
 split at h
 ·exact ⟨h.1,fun g=>hK _ _ (h.2.1 g),fun q g=>hK _ _ (h.2.2 q g)⟩
 exact h.elim
def ZA2 (B:Nat):List PV->St->Nat:=fun _ σ=>match σ.bx with | [_,.iter _ p]=>B - p | _=>0
theorem ZqT (ht:TO w0 nG [(124,ZiE),(125,Uu),(126,Ve),(127,Uv),(17,ZcE)]):PC w0 nG 64 Vh:=by
 refine Zd Zb mixed ht Tryz.func64 rfl kR kR ?_;intro args σ K h
 unfold Vh at h
 split at h
 ·rename_i s
  obtain ⟨hs,dk,dj⟩:=h;refine ⟨Za [(6,⟨[],[4,13],fun vs σ=>vs=[]/\∃(out:Bs) (i f:Nat),σ=⟨[.cells 58 [.ptr 0 0,.sl 0 5 (Zj out)],.iter s i],[0],1⟩/\(i<=s.length/\s.length<i+f/\out.length<=4 * i+1)/\WM f (s.drop i) out=WM (s.length+1) s [34],ZA2 s.length⟩)],0,false,sM,Ta rfl,wN ?_⟩;refine ⟨oM,wN ?_⟩;refine ZBF (fun h1=>wN ?_) (fun h1=>wN ?_)
  ·have hv:Lib.validD s=false:=by simpa using h1
   exact dk (by unfold WC;rw [Tc (by rw [hv];simp)])
  have hv:Lib.validD s=true:=by simpa using h1
  have hq:WC s=(WM (s.length+1) s [34]).map (·++[34]):=by unfold WC;rw [Tg hv]
  refine ⟨⟨.inl rfl,rfl,rfl,sM,sM⟩,wN ?_⟩;refine ⟨⟨rfl,[34],0,s.length+1,rfl,⟨oM,oM,sM⟩,by rw [Sl]⟩,?_⟩;intro vs σ1 hI
  obtain ⟨rfl,out,i,f,rfl,⟨wx,aa,vp⟩,fh⟩:=hI;obtain ⟨f,rfl⟩:∃g,f=g+1:=⟨f - 1,oM⟩
  have aj:=Jp out;have cu:=Yy out;have bv:=Zdm s i;have kh:=Zaf (s.drop i);have kg:=Lib.decodeL_le (s.drop i);rw [Tp] at kg;(conv=>whnf);refine ZBC (fun h2=>wN ?_) (fun h2=>wN ?_)
  ·have an:s.drop i≠[]:=fun g=>by have:=congrArg List.length g;rw [Tp] at this;simp at this;omega
   have g3:i+(decodeL s i).2<=s.length:=by rw [bv];have:=kg an;omega
   have rm:1<=(decodeL s i).2:=by rw [bv];omega
   refine ⟨⟨.inr rfl,oM,by rw [bv];omega⟩,wN ?_⟩;generalize hk:Zdo _ _=k;have mz:Zdo [10,9,34,92] ((Lib.decodeL (s.drop i)).1:Int)=k:=by rw [<- bv];exact hk
   cases hE:ZbF (Lib.decodeL (s.drop i)).1 with
   | some b =>
    have g1:WM f (s.drop (i+(decodeL s i).2)) (out++[92,b])=WM (s.length+1) s [34]:=by rw [<- fh,bv];simp [WM,an,hE,Tw]
    rcases ZqR hE with ⟨e1,rfl⟩ | ⟨e1,rfl⟩ | ⟨e1,rfl⟩ | ⟨e1,rfl⟩
    all_goals (rw [e1] at mz;subst mz)
    all_goals (conv=>whnf)
    all_goals (refine ⟨⟨.inr rfl,rfl,rfl,aj,oM⟩,?_⟩)
    all_goals (conv=>whnf)
    all_goals (refine ⟨oM,by first | omega | (simp;done) | (simp;omega),?_⟩)
    all_goals (conv=>whnf)
    all_goals (refine ⟨⟨.inr rfl,rfl,rfl,fun r hr=>by (rcases TZ.1 hr with hr | hr;exact aj r hr;simp at hr;subst hr;rfl),by rw [Tb];simp;omega⟩,?_⟩)
    all_goals (conv=>whnf)
    all_goals (refine ⟨⟨rfl,_,_,f,?_,⟨g3,oM,?_⟩,g1⟩,?_⟩)
    all_goals (first | (rw [Yx,Th];rfl) | (rw [Tb];simp;omega) | exact (show s.length - (i+(decodeL s i).2)<s.length - i by omega))
   | none =>
   rw [ZqQ hE] at mz;subst mz;(conv=>whnf);refine ZBC (fun h5=>wN ?_) (fun h5=>wN ?_)
   ·have ga:(Lib.decodeL (s.drop i)).1<32:=by rw [bv] at h5;omega
    refine dk ?_;rw [hq,<- fh];simp [WM,an,hE,ga]
   have ga:¬(Lib.decodeL (s.drop i)).1<32:=by rw [bv] at h5;omega
   have g1:WM f (s.drop (i+(decodeL s i).2)) (out++Lib.encodeRune ((decodeL s i).1:Int))=WM (s.length+1) s [34]:=by rw [<- fh,bv];simp [WM,an,hE,ga,Tw]
   have hen:=Ziz ((decodeL s i).1:Int);refine ⟨⟨.inr rfl,rfl,rfl,aj,oM,oM,by rw [bv];omega⟩,wN ?_⟩;refine ⟨⟨rfl,_,_,f,?_,⟨g3,oM,?_⟩,g1⟩,?_⟩
   ·rw [Yx];rfl
   ·rw [Tb];omega
   exact (show s.length - (i+(decodeL s i).2)<s.length - i by omega)
  have d8:s.drop i=[]:=Tz oM;have g1:WM (s.length+1) s [34]=some out:=by rw [<- fh];simp [WM,d8]
  refine ⟨⟨.inr rfl,rfl,rfl,aj,oM⟩,wN ?_⟩;refine ⟨out++[34],⟨by rw [Uw];rfl,rfl,rfl,.inr rfl,by rw [Tb];simp;omega⟩,wN ?_⟩;exact dj _ (by rw [hq,g1];rfl)
 exact h.elim
def WN:Nat->Bs->Bs->Option Bs
 | 0,_,_=>none
 | f+1,r,out=>if r=[] then some out
  else if (pk r).1=10 then WN f (r.drop (pk r).2) (out++[92,110])
  else if (pk r).1=9 then WN f (r.drop (pk r).2) (out++[92,116])
  else if (pk r).1=34\/(pk r).1=92 then WN f (r.drop (pk r).2) (out++[92,r.getD 0 0])
  else if (pk r).1<32 then none
  else WN f (r.drop (pk r).2) (out++r.take (pk r).2)
theorem Jr (f:Nat) (r out:Bs):WN (f+1) r out=if r=[] then some out
  else if (pk r).1=10 then WN f (r.drop (pk r).2) (out++[92,110])
  else if (pk r).1=9 then WN f (r.drop (pk r).2) (out++[92,116])
  else if (pk r).1=34\/(pk r).1=92 then WN f (r.drop (pk r).2) (out++[92,r.getD 0 0])
  else if (pk r).1<32 then none
  else WN f (r.drop (pk r).2) (out++r.take (pk r).2):=rfl
theorem ZsH:∀(f:Nat) (r out:Bs),r.length<f->WN f r out=if Lib.validGoD (f - 1) r=true then WM f r out else none
 | 0,r,out,hf=>oM
 | f+1,r,out,hf=>by
  simp only [Nat.add_sub_cancel]
  by_cases hr:r=[]
  ·subst hr;have:Lib.validGoD f []=true:=by cases f <;> simp [Lib.validGoD]
   simp [WN,WM,this]
  have ay:=SB.2 hr;have kg:=Lib.decodeL_le r hr;have zl:=Zaf r;obtain ⟨g,rfl⟩:∃g,f=g+1:=⟨f - 1,oM⟩
  unfold WN
  rw [Tc hr]
  by_cases hv:(Lib.decodeL r).1=65533/\(Lib.decodeL r).2=1
  ·have jf:pk r=(-1,1):=by unfold pk;rw [Tg (.inr (Prod.ext hv.1 hv.2))]
   have hvf:Lib.validGoD (g+1) r=false:=by unfold Lib.validGoD;rw [Tc hr,Tg hv]
   rw [jf,hvf];simp
  have jf:pk r=(((Lib.decodeL r).1:Int),(Lib.decodeL r).2):=by
   unfold pk;rw [Tc];simp only [not_or];exact ⟨hr,fun g=>hv ⟨by rw [g],by rw [g]⟩⟩
  have hvf:Lib.validGoD (g+1) r=Lib.validGoD g (r.drop (Lib.decodeL r).2):=by conv=>lhs;unfold Lib.validGoD;rw [Tc hr,Tc hv]
  have ih:=fun out=>ZsH (g+1) (r.drop (Lib.decodeL r).2) out hD
  simp only [Nat.add_sub_cancel] at ih;have vq:=Lib.encode_decode r hr hv;rw [hvf,jf];simp only;have hq:WM (g+1+1) r out=match ZbF (Lib.decodeL r).1 with
    | some b=>WM (g+1) (r.drop (Lib.decodeL r).2) (out++[92,b])
    | none=>if (Lib.decodeL r).1<32 then none else WM (g+1) (r.drop (Lib.decodeL r).2) (out++Lib.encodeRune (Lib.decodeL r).1):=by
   conv=>lhs;unfold WM
   rw [Tc hr]<;>rfl
  have lowb:(Lib.decodeL r).1<128->r.getD 0 0=UInt8.ofNat (Lib.decodeL r).1:=fun h=>by
   have e:=(Zg7 r (by rw [jf];simp only;omega) (by rw [jf];simp only;omega)).2.1;rw [jf] at e;simp only at e;have e':(Lib.decodeL r).1=(r.getD 0 0).toNat:=oM;rw [e',UInt8.ofNat_toNat]
  rw [hq]
  by_cases h1:(Lib.decodeL r).1=10
  ·rw [Tg oM,ih,show ZbF (Lib.decodeL r).1=some 110 by rw [h1];rfl]
  rw [Tc oM]
  by_cases h2:(Lib.decodeL r).1=9
  ·rw [Tg oM,ih,show ZbF (Lib.decodeL r).1=some 116 by rw [h2];rfl]
  rw [Tc oM]
  by_cases h3:(Lib.decodeL r).1=34
  ·rw [Tg oM,ih,show ZbF (Lib.decodeL r).1=some 34 by rw [h3];rfl,lowb oM,h3];rfl
  by_cases h4:(Lib.decodeL r).1=92
  ·rw [Tg oM,ih,show ZbF (Lib.decodeL r).1=some 92 by rw [h4];rfl,lowb oM,h4];rfl
  rw [Tc oM,show ZbF (Lib.decodeL r).1=none by unfold ZbF;rw [Tc h1,Tc h2,Tc h3,Tc h4]];simp only
  by_cases h5:(Lib.decodeL r).1<32
  ·rw [Tg oM,Tg h5];simp
  rw [Tc oM,Tc h5,ih,vq]
theorem Znn (s:Bs):WC s=(WN (s.length+1) s [34]).map (·++[34]):=by
 rw [ZsH _ _ _ oM,Nat.add_sub_cancel];unfold WC Lib.validD
 split <;> rfl
noncomputable def Zt1:Tbl:=[(193,Ze1)]
theorem ZfR:PC w0 nG 197 Vh:=by
 refine Zd Zb mixed (tbl:=Zt1) ⟨ZfP,trivial⟩ Tryz.func197 rfl kR kR ?_;intro args σ K h
 unfold Vh at h
 split at h
 ·rename_i s
  obtain ⟨hs,dk,dj⟩:=h;refine ⟨Za [(4,⟨[4,5],[0],fun vs σ=>∃(out:Bs) (i f:Nat),vs=[.sl 0 5 (Zj out),.d (.int .i64 i)]/\σ=⟨[],[0],1⟩/\(i<=s.length/\s.length<i+f/\out.length<=4 * i+1)/\WN f (s.drop i) out=WN (s.length+1) s [34],fun vs _=>match vs with | [_,.d (.int _ n)]=>((s.length:Int) - n).toNat | _=>0⟩)],0,false,sM,Ta rfl,wN ?_⟩;refine ⟨fun r hr=>by (simp at hr;rcases hr with rfl <;> rfl),(show (0+1) * 1<=2 ^ 47 by omega),sM,?_⟩;(conv=>whnf);refine ⟨⟨[34],0,s.length+1,rfl,rfl,⟨oM,oM,sM⟩,by rw [Sl]⟩,?_⟩;intro vs σ1 hI
  obtain ⟨out,i,f,rfl,rfl,⟨wx,aa,vp⟩,fh⟩:=hI;obtain ⟨f,rfl⟩:∃g,f=g+1:=⟨f - 1,oM⟩
  have cu:=Yy out;have hq:=Znn s;have jx:=Zg6 (s.drop i);have eg:=Ww (s.drop i);have lv:=Zm9 (s.drop i);(conv=>whnf);refine ZBC (fun h2=>wN ?_) (fun h2=>wN ?_)
  ·have cq:i<s.length:=by omega
   have an:¬s.drop i=[]:=fun g=>by have:=congrArg List.length g;rw [Tp] at this;simp at this;omega
   refine ⟨⟨oM,oM,hs⟩,wN ?_⟩;generalize gi:(pk (s.drop ((i:Int)).toNat)).1=c;have hc:(pk (s.drop i)).1=c:=gi;have iv:c≠-1->i+(pk (s.drop i)).2<=s.length:=fun g=>by
    have:=(lv (by rw [hc];exact g)).2.1;rw [Tp] at this;omega
   refine ZBC (fun h3=>wN ?_) (fun h3=>wN ?_)
   ·have g1:WN (f+1) (s.drop i) out=WN f ((s.drop i).drop (pk (s.drop i)).2) (out++[92,110]):=by rw [Jr,Tc an,Tg (by rw [hc];exact h3)]
    have g3:=iv oM;refine ⟨fun r hr=>by (simp at hr;rcases hr with rfl | rfl <;> rfl),(show ((Zj out).length+2) * 1<=2 ^ 47 by omega),(show (Zj out).length+2<=2 ^ 47 by omega),?_⟩;(conv=>whnf);refine Or.inl ⟨InR.i64 tN tN,wN ?_⟩;refine ⟨⟨out++[92,110],i+(pk (s.drop i)).2,f,?_,rfl,⟨g3,oM,by rw [Tb];simp;omega⟩,by rw [<- Tw];exact g1.symm.trans fh⟩,?_⟩
    ·rw [Yx];rfl
    exact m60
   refine ZBC (fun h4=>wN ?_) (fun h4=>wN ?_)
   ·have g1:WN (f+1) (s.drop i) out=WN f ((s.drop i).drop (pk (s.drop i)).2) (out++[92,116]):=by rw [Jr,Tc an,Tc (by rw [hc];exact h3),Tg (by rw [hc];exact h4)]
    have g3:=iv oM;refine ⟨fun r hr=>by (simp at hr;rcases hr with rfl | rfl <;> rfl),(show ((Zj out).length+2) * 1<=2 ^ 47 by omega),(show (Zj out).length+2<=2 ^ 47 by omega),?_⟩;(conv=>whnf);refine Or.inl ⟨InR.i64 tN tN,wN ?_⟩;refine ⟨⟨out++[92,116],i+(pk (s.drop i)).2,f,?_,rfl,⟨g3,oM,by rw [Tb];simp;omega⟩,by rw [<- Tw];exact g1.symm.trans fh⟩,?_⟩
    ·rw [Yx];rfl
    exact m60
   have esc:(c=34\/c=92)->WN (f+1) (s.drop i) out=WN f ((s.drop i).drop (pk (s.drop i)).2) (out++[92,s.getD i 0]):=fun g=>by
    rw [Jr,Tc an,Tc (by rw [hc];exact h3),Tc (by rw [hc];exact h4),Tg (by rw [hc];exact g),Lib.getD_dropU,Se]
   refine ZBC (fun h5=>wN ?_) (fun h5=>wN ?_)
   ·have g1:=esc (.inl h5);exact m57
   refine ZBC (fun h6=>wN ?_) (fun h6=>wN ?_)
   ·have g1:=esc (.inr h6);exact m57
   have tail:WN (f+1) (s.drop i) out=if c<32 then none else WN f ((s.drop i).drop (pk (s.drop i)).2) (out++(s.drop i).take (pk (s.drop i)).2):=by
    rw [Jr,Tc an,Tc (by rw [hc];exact h3),Tc (by rw [hc];exact h4),Tc (by rw [hc];simp only [not_or];exact ⟨h5,h6⟩),hc]
   refine ZBC (fun h7=>wN ?_) (fun h7=>wN ?_)
   ·exact dk (by rw [hq,<- fh,tail,Tg h7];rfl)
   have g3:=iv oM;rw [Tc h7] at tail;have ec:cut s ((i:Int)).toNat ((i:Int)+((pk (s.drop ((i:Int)).toNat)).2:Int)).toNat=(s.drop i).take (pk (s.drop i)).2:=by
    rw [X4];congr 1;simp only [Tu];omega
   have n6:((s.drop i).take (pk (s.drop i)).2).length=(pk (s.drop i)).2:=by rw [Sn,Tp];omega
   refine Or.inl ⟨InR.i64 tN tN,wN ?_⟩;refine ⟨oM,tN,tN,wN ?_⟩;rw [ec];refine ⟨fun r hr=>Jp _ r hr,(show ((Zj out).length+(Zj ((s.drop i).take (pk (s.drop i)).2)).length) * 1<=2 ^ 47 by rw [Yy,Yy];omega),(show (Zj out).length+(Zj ((s.drop i).take (pk (s.drop i)).2)).length<=2 ^ 47 by rw [Yy,Yy];omega),wN ?_⟩;refine Or.inl ⟨InR.i64 tN tN,wN ?_⟩;refine ⟨⟨out++(s.drop i).take (pk (s.drop i)).2,i+(pk (s.drop i)).2,f,?_,rfl,⟨g3,oM,by rw [Tb];omega⟩,by rw [<- Tw];exact tail.symm.trans fh⟩,?_⟩
   ·rw [Yx];rfl
   exact m60
  have d8:s.drop i=[]:=Tz oM;have g1:WN (s.length+1) s [34]=some out:=by rw [<- fh];simp [WN,d8]
  refine ⟨fun r hr=>by (simp at hr;rcases hr with rfl <;> rfl),(show ((Zj out).length+1) * 1<=2 ^ 47 by omega),(show (Zj out).length+1<=2 ^ 47 by omega),?_⟩;(conv=>whnf);refine ⟨out++[34],by rw [<- Zj,Yx];rfl,wN ?_⟩;exact dj _ (by rw [hq,g1];rfl)
 exact h.elim
end Go.PM.Lex
end
