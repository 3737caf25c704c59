/- A part of the proof: plain logic, contracts and laws over the given program. -/
import Derived.Test.YtcifacgjebbdbaaGreatDoorProg
import Derived.Lib.MapLaws
import Derived.Lib.Strings
import Derived.Lib.Bytealg
import Derived.Lib.Index
import Derived.Lib.SlTrimSet
import Derived.Lib.Small
import Derived.Lib.IndexAny
import Derived.Test.YtcifacgjebbdbaaGreatDoorShelf
import Derived.Shelf.Strings.SlTrimAscii
import Derived.Test.YtcifacgjebbdbaaGreatDoorB05
set_option linter.unusedVariables false
set_option linter.unusedSimpArgs false
set_option linter.all false
set_option maxRecDepth 100000
set_option maxHeartbeats 16000000
noncomputable section
section
namespace Go.PM.Lex
open Go.Proofs
abbrev yi:PV:=.d (.int .i64 0)
abbrev yb:PV:=.d (.int .u8 0)
abbrev ys:PV:=.d (.str [])
abbrev yf:PV:=.d (.bool false)
abbrev yp:PV:=.d .nilp
abbrev ya (a b:Nat) (k:TK) (z:D):TI:=⟨a,b,k,[.d z],false⟩
abbrev yr (n:Nat):TI:=⟨1,8,.ptr n,[yp],false⟩
abbrev yl (n:Nat):TI:=⟨1,24,.slice n,[.nils n],false⟩
abbrev yn (n:Nat) (t:TI):Tab:=.node .leaf n t .leaf
def Zaf:Tab:=(.node (.node (.node (.node (.node (.node (.node (yn 2 ⟨1,8,.int .i64,[yi],true⟩) 3 ⟨1,8,.int .i64,[yi],true⟩ .leaf) 4 ⟨1,1,.bool,[yf],false⟩ (yn 5 ⟨1,1,.int .u8,[yb],true⟩)) 6 ⟨1,1,.int .u8,[yb],true⟩ (.node (.node (yn 7 ⟨4,24,.struct [(0,2),(1,3),(2,4),(3,6)],[yi,yi,yf,yb],false⟩) 8 ⟨4,24,.struct [(0,2),(1,3),(2,4),(3,6)],[yi,yi,yf,yb],false⟩ .leaf) 9 ⟨1,16,.string,[ys],false⟩ (yn 10 ⟨1,16,.string,[ys],false⟩))) 11 ⟨1,16,.string,[ys],false⟩ (.node (.node (.node (yn 12 ⟨1,8,.int .u64,[.d (.int .u64 (0))],true⟩) 13 ⟨2,24,.struct [(0,9),(1,12)],[ys,.d (.int .u64 (0))],false⟩ .leaf) 14 ⟨2,24,.struct [(0,9),(1,12)],[ys,.d (.int .u64 (0))],false⟩ (yn 15 (yr 376))) 16 (yr 379) (.node (yn 17 (yr 386)) 18 ⟨1,8,.struct [(0,17)],[yp],false⟩ (yn 19 ⟨1,8,.struct [(0,17)],[yp],false⟩)))) 20 ⟨1,16,.iface,[.d .nili],false⟩ (.node (.node (.node (.node (yn 21 ⟨1,4,.int .i32,[.d (.int .i32 (0))],true⟩) 23 ⟨1,8,.int .i64,[yi],true⟩ .leaf) 24 (yl 36) (yn 27 (yl 56))) 28 (yl 109) (.node (.node (yn 29 (yl 74)) 30 ⟨3,72,.struct [(0,27),(1,28),(2,29)],[.nils 56,.nils 109,.nils 74],false⟩ .leaf) 31 ⟨3,72,.struct [(0,27),(1,28),(2,29)],[.nils 56,.nils 109,.nils 74],false⟩ (yn 33 (yl 3)))) 34 (yl 33) (.node (.node (.node (yn 35 ⟨3,56,.struct [(0,5),(1,33),(2,34)],[yb,.nils 3,.nils 33],false⟩) 36 ⟨3,56,.struct [(0,5),(1,33),(2,34)],[yb,.nils 3,.nils 33],false⟩ .leaf) 40 (yl 9) (yn 48 (yr 98))) 49 ⟨2,16,.struct [(0,3),(1,23)],[yi,yi],false⟩ (.node (yn 50 ⟨2,16,.struct [(0,3),(1,23)],[yi,yi],true⟩) 53 (yl 89) (yn 54 (yl 59)))))) 55 ⟨6,96,.struct [(0,5),(1,9),(2,9),(3,53),(4,54),(5,3)],[yb,ys,ys,.nils 89,.nils 59,yi],false⟩ (.node (.node (.node (.node (.node (yn 56 ⟨6,96,.struct [(0,5),(1,9),(2,9),(3,53),(4,54),(5,3)],[yb,ys,ys,.nils 89,.nils 59,yi],false⟩) 58 ⟨2,40,.struct [(0,9),(1,53)],[ys,.nils 89],false⟩ .leaf) 59 ⟨2,40,.struct [(0,9),(1,53)],[ys,.nils 89],false⟩ (yn 60 (yl 158))) 61 (yl 163) (.node (.node (yn 62 (yl 167)) 63 ⟨6,144,.struct [(0,27),(1,28),(2,29),(3,60),(4,61),(5,62)],[.nils 56,.nils 109,.nils 74,.nils 158,.nils 163,.nils 167],false⟩ .leaf) 64 ⟨6,144,.struct [(0,27),(1,28),(2,29),(3,60),(4,61),(5,62)],[.nils 56,.nils 109,.nils 74,.nils 158,.nils 163,.nils 167],false⟩ (yn 67 (ya 1 8 .func .nilf)))) 69 (yr 81) (.node (.node (.node (yn 71 (yl 138)) 72 (yl 142) .leaf) 73 ⟨4,72,.struct [(0,9),(1,71),(2,72),(3,3)],[ys,.nils 138,.nils 142,yi],false⟩ (yn 74 ⟨4,72,.struct [(0,9),(1,71),(2,72),(3,3)],[ys,.nils 138,.nils 142,yi],false⟩)) 79 ⟨1,8,.map 9 3,[.nilm],false⟩ (.node (yn 80 ⟨7,96,.struct [(0,48),(1,74),(5,79),(6,4)],[yp,ys,.nils 138,.nils 142,yi,.nilm,yf],false⟩) 81 ⟨7,96,.struct [(0,48),(1,74),(5,79),(6,4)],[yp,ys,.nils 138,.nils 142,yi,.nilm,yf],false⟩ (yn 84 (yl 5))))) 88 ⟨2,32,.struct [(0,9),(1,9)],[ys,ys],false⟩ (.node (.node (.node (.node (yn 89 ⟨2,32,.struct [(0,9),(1,9)],[ys,ys],true⟩) 90 (yr 133) .leaf) 96 ⟨1,8,.map 9 111,[.nilm],false⟩ (yn 97 ⟨7,104,.struct [(0,79),(1,79),(2,79),(3,96),(4,31)],[.nilm,.nilm,.nilm,.nilm,.nils 56,.nils 109,.nils 74],false⟩)) 98 ⟨7,104,.struct [(0,79),(1,79),(2,79),(3,96),(4,31)],[.nilm,.nilm,.nilm,.nilm,.nils 56,.nils 109,.nils 74],false⟩ (.node (.node (yn 108 ⟨6,56,.struct [(0,9),(1,53),(2,4),(3,4),(4,4),(5,3)],[ys,.nils 89,yf,yf,yf,yi],false⟩) 109 ⟨6,56,.struct [(0,9),(1,53),(2,4),(3,4),(4,4),(5,3)],[ys,.nils 89,yf,yf,yf,yi],false⟩ .leaf) 111 ⟨2,16,.array 2 3,[yi,yi],false⟩ (yn 114 (yr 119)))) 115 (yr 117) (.node (.node (.node (yn 116 ⟨2,32,.struct [(0,115),(1,84)],[yp,.nils 5],false⟩) 117 ⟨2,32,.struct [(0,115),(1,84)],[yp,.nils 5],false⟩ .leaf) 118 ⟨2,32,.struct [(0,117)],[yp,.nils 5],false⟩ (yn 119 ⟨2,32,.struct [(0,117)],[yp,.nils 5],false⟩)) 123 ⟨1,8,.map 9 4,[.nilm],false⟩ (.node (yn 126 (ya 1 8 .func .nilf)) 129 (yl 186) (yn 132 ⟨6,64,.struct [(0,129),(1,3),(2,3),(3,3),(4,23),(5,3)],[.nils 186,yi,yi,yi,yi,yi],false⟩)))))) 133 ⟨6,64,.struct [(0,129),(1,3),(2,3),(3,3),(4,23),(5,3)],[.nils 186,yi,yi,yi,yi,yi],false⟩ (.node (.node (.node (.node (.node (.node (yn 137 ⟨5,64,.struct [(0,5),(1,9),(2,2),(3,71),(4,3)],[yb,ys,yi,.nils 138,yi],false⟩) 138 ⟨5,64,.struct [(0,5),(1,9),(2,2),(3,71),(4,3)],[yb,ys,yi,.nils 138,yi],false⟩ .leaf) 141 ⟨5,80,.struct [(0,5),(1,9),(2,71),(3,72),(4,3)],[yb,ys,.nils 138,.nils 142,yi],false⟩ (yn 142 ⟨5,80,.struct [(0,5),(1,9),(2,71),(3,72),(4,3)],[yb,ys,.nils 138,.nils 142,yi],false⟩)) 147 ⟨1,8,.int .u64,[.d (.int .u64 (0))],true⟩ (.node (.node (yn 149 (ya 1 8 .func .nilf)) 152 (ya 1 8 .func .nilf) .leaf) 153 (ya 1 8 .func .nilf) (yn 155 (ya 1 8 .func .nilf)))) 157 ⟨11,232,.struct [(0,9),(1,40),(2,9),(3,40),(4,64),(10,3)],[ys,.nils 9,ys,.nils 9,.nils 56,.nils 109,.nils 74,.nils 158,.nils 163,.nils 167,yi],false⟩ (.node (.node (.node (yn 158 ⟨11,232,.struct [(0,9),(1,40),(2,9),(3,40),(4,64),(10,3)],[ys,.nils 9,ys,.nils 9,.nils 56,.nils 109,.nils 74,.nils 158,.nils 163,.nils 167,yi],false⟩) 160 (ya 1 8 .func .nilf) .leaf) 162 ⟨4,64,.struct [(0,9),(1,9),(2,40),(3,3)],[ys,ys,.nils 9,yi],false⟩ (yn 163 ⟨4,64,.struct [(0,9),(1,9),(2,40),(3,3)],[ys,ys,.nils 9,yi],false⟩)) 164 (ya 1 8 .func .nilf) (.node (yn 166 ⟨2,24,.struct [(0,9),(1,3)],[ys,yi],false⟩) 167 ⟨2,24,.struct [(0,9),(1,3)],[ys,yi],true⟩ (yn 168 (ya 1 8 .func .nilf))))) 173 ⟨3,3,.array 3 4,[yf,yf,yf],false⟩ (.node (.node (.node (.node (yn 174 ⟨3,48,.array 3 9,[ys,ys,ys],false⟩) 178 (yr 229) .leaf) 180 (yr 5) (yn 182 ⟨1,8,.map 9 40,[.nilm],false⟩)) 185 ⟨5,48,.struct [(0,5),(1,9),(2,2),(3,3),(4,3)],[yb,ys,yi,yi,yi],false⟩ (.node (.node (yn 186 ⟨5,48,.struct [(0,5),(1,9),(2,2),(3,3),(4,3)],[yb,ys,yi,yi,yi],true⟩) 199 ⟨1,8,.int .i64,[yi],true⟩ .leaf) 206 ⟨1,4,.int .u32,[.d (.int .u32 (0))],true⟩ (yn 208 ⟨1,8,.int .u64,[.d (.int .u64 (0))],true⟩))) 210 (ya 1 8 .func .nilf) (.node (.node (.node (yn 212 (ya 1 8 .func .nilf)) 213 ⟨1,16,.iface,[.d .nili],false⟩ .leaf) 214 ⟨1,16,.iface,[.d .nili],false⟩ (yn 223 ⟨2,16,.struct [(0,3),(1,23)],[yi,yi],false⟩)) 224 ⟨2,16,.struct [(0,3),(1,23)],[yi,yi],true⟩ (.node (yn 226 ⟨3,40,.struct [(0,129),(1,3),(2,3)],[.nils 186,yi,yi],false⟩) 227 ⟨3,40,.struct [(0,129),(1,3),(2,3)],[.nils 186,yi,yi],false⟩ (yn 228 ⟨4,48,.struct [(0,227),(3,3)],[.nils 186,yi,yi,yi],false⟩))))) 229 ⟨4,48,.struct [(0,227),(3,3)],[.nils 186,yi,yi,yi],false⟩ (.node (.node (.node (.node (.node (yn 244 ⟨1,8,.int .u64,[.d (.int .u64 (0))],true⟩) 248 (yr 3) .leaf) 252 (yr 254) (yn 253 ⟨2,24,.struct [(0,9),(1,3)],[ys,yi],false⟩)) 254 ⟨2,24,.struct [(0,9),(1,3)],[ys,yi],true⟩ (.node (.node (yn 261 ⟨3,32,.struct [(0,3),(1,9),(2,3)],[yi,ys,yi],false⟩) 262 ⟨3,32,.struct [(0,3),(1,9),(2,3)],[yi,ys,yi],true⟩ .leaf) 270 ⟨6,96,.array 6 9,[ys,ys,ys,ys,ys,ys],false⟩ (yn 271 ⟨4,64,.array 4 9,[ys,ys,ys,ys],false⟩))) 275 ⟨2,16,.struct [(0,3),(1,23)],[yi,yi],false⟩ (.node (.node (.node (yn 276 ⟨2,16,.struct [(0,3),(1,23)],[yi,yi],true⟩) 277 (yr 227) .leaf) 293 (yr 244) (yn 322 ⟨2,2,.struct [(0,5),(1,5)],[yb,yb],false⟩)) 323 ⟨2,2,.struct [(0,5),(1,5)],[yb,yb],false⟩ (.node (yn 324 ⟨32,32,.array 16 323,(.replicate 32 yb),false⟩) 333 ⟨24,24,.array 24 5,(.replicate 24 yb),false⟩ (yn 343 (yr 339))))) 344 ⟨5,80,.array 5 9,[ys,ys,ys,ys,ys],false⟩ (.node (.node (.node (.node (yn 351 ⟨20,160,.array 20 208,[.d (.int .u64 (0)),.d (.int .u64 (0)),.d (.int .u64 (0)),.d (.int .u64 (0)),.d (.int .u64 (0)),.d (.int .u64 (0)),.d (.int .u64 (0)),.d (.int .u64 (0)),.d (.int .u64 (0)),.d (.int .u64 (0)),.d (.int .u64 (0)),.d (.int .u64 (0)),.d (.int .u64 (0)),.d (.int .u64 (0)),.d (.int .u64 (0)),.d (.int .u64 (0)),.d (.int .u64 (0)),.d (.int .u64 (0)),.d (.int .u64 (0)),.d (.int .u64 (0))],false⟩) 357 ⟨2,24,.struct [(0,9),(1,5)],[ys,yb],false⟩ .leaf) 358 ⟨4,48,.array 2 357,[ys,yb,ys,yb],false⟩ (yn 361 ⟨1,8,.int .i64,[yi],true⟩)) 363 (yr 370) (.node (yn 366 ⟨32,32,.array 32 5,(.replicate 32 yb),false⟩) 367 ⟨64,64,.array 64 5,(.replicate 64 yb),false⟩ (yn 370 ⟨3,48,.struct [(0,9),(1,9),(2,214)],[ys,ys,.d .nili],false⟩))) 372 (yr 374) (.node (.node (.node (yn 374 ⟨1,16,.struct [(0,9)],[ys],false⟩) 376 ⟨4,40,.struct [(0,17),(1,17),(2,17),(3,9)],[yp,yp,yp,ys],false⟩ .leaf) 380 ⟨1,1,.int .u8,[yb],true⟩ (yn 381 ⟨1,1,.int .u8,[yb],true⟩)) 382 (ya 1 8 .func .nilf) (.node (yn 383 ⟨1,4,.int .i32,[.d (.int .i32 (0))],true⟩) 384 ⟨1,4,.int .i32,[.d (.int .i32 (0))],true⟩ (yn 386 ⟨11,48,.struct [(0,12),(1,12),(2,206),(3,380),(4,5),(5,5),(6,381),(7,382),(8,180),(9,383),(10,384)],[.d (.int .u64 (0)),.d (.int .u64 (0)),.d (.int .u32 (0)),yb,yb,yb,yb,.d .nilf,yp,.d (.int .i32 (0)),.d (.int .i32 (0))],false⟩)))))))
def ZC:TabOK Zaf Tryz.prog:=by unfold TabOK;kernel_rfl
def mixed:Tryz.prog.follows .mixedOrders=true:=by kernel_rfl
abbrev Bs:=List UInt8
def Zf (c:Int):Bool:=decide (48<=c/\c<=57)
def Zd (c:Int):Bool:=decide (c=95\/128<=c\/(97<=c/\c<=122)\/(65<=c/\c<=90))
def pk (r:Bs):Int×Nat:=if r=[]\/Lib.decodeL r=(65533,1) then (-1,1) else ((Lib.decodeL r).1,(Lib.decodeL r).2)
def Yk:Nat->Bs->Nat
 | 0,_=>0
 | f+1,r=>if (pk r).1=46 then (if Zd (pk (r.drop 1)).1=true then (pk r).2+Yk f (r.drop (pk r).2) else 0)
   else if Zd (pk r).1=true\/Zf (pk r).1=true then (pk r).2+Yk f (r.drop (pk r).2) else 0
def Y2 (r:Bs):Nat:=Yk (r.length+1) r
def Zs:Nat->Bs->Bool×Nat
 | 0,_=>(false,0)
 | f+1,r =>
  let rest:=Lib.trimLeftS r [32,9,13,10]
  let k:=r.length - rest.length
  if Lib.hasPrefix rest [47,47]=true then
   let n:=if Lib.indexByte rest 10<0 then rest.length else (Lib.indexByte rest 10).toNat
   let t:=Zs f (rest.drop n)
   (t.1,k+n+t.2)
  else if Lib.hasPrefix rest [47,42]=true then
   if Lib.index (rest.drop 2) [42,47]<0 then (false,k) else
   let n:=(Lib.index (rest.drop 2) [42,47]).toNat+4
   let t:=Zs f (rest.drop n)
   (t.1,k+n+t.2)
  else (true,k)
def Zr (r:Bs):Bool×Nat:=Zs (r.length+1) r
def YR (gh:Bool) (b:UInt8):Bool:=Zf b.toNat || (gh && decide ((97<=b.toNat/\b.toNat<=102)\/(65<=b.toNat/\b.toNat<=70)))
def J1 (b:UInt8):Nat:=if b.toNat<=57 then b.toNat - 48 else if b.toNat<=70 then b.toNat - 55 else b.toNat - 87
def YY (base:Nat) (l:Bs):Nat:=l.foldl (fun n b=>n * base+J1 b) 0
def YG (r:Bs):Bool:=Lib.hasPrefix r [48,120]
def Zc (r:Bs):Bs:=(r.drop (if YG r then 2 else 0)).takeWhile (YR (YG r))
def Zu (r:Bs):Nat:=(if YG r then 2 else 0)+(Zc r).length
def ZI (r:Bs):Option Nat :=
 if Zc r=[] then none
 else if (if YG r then 18446744073709551616 else 9223372036854775808)<=YY (if YG r then 16 else 10) (Zc r) then none
 else if Zd (pk (r.drop (Zu r))).1=true\/Zf (pk (r.drop (Zu r))).1=true\/(YG r=true/\16<(Zc r).length) then none
 else some (YY (if YG r then 16 else 10) (Zc r))
def ZiU (c:Nat):Option UInt8:=if c=110 then some 10 else if c=116 then some 9 else if c=34 then some 34 else if c=92 then some 92 else none
inductive TR where
 | err (at':Nat) | ok (txt:Bs) (len:Nat)
 deriving DecidableEq
def ZH:Nat->Bs->Bool->Bs->Nat->TR
 | 0,_,_,_,_=>.err 0
 | f+1,r,esc,acc,p =>
  if r=[] then .err 0
  else if esc=true then (match ZiU (Lib.decodeL r).1 with
   | none=>.err (p - 1)
   | some b=>ZH f (r.drop (Lib.decodeL r).2) false (acc++[b]) (p+(Lib.decodeL r).2))
  else if (Lib.decodeL r).1=34 then .ok acc (p+1)
  else if (Lib.decodeL r).1=92 then ZH f (r.drop (Lib.decodeL r).2) true acc (p+(Lib.decodeL r).2)
  else if (pk r).1<32 then .err p
  else ZH f (r.drop (Lib.decodeL r).2) false (acc++Lib.encodeRune (Lib.decodeL r).1) (p+(Lib.decodeL r).2)
def Y3 (r:Bs):TR:=ZH (r.length+1) (r.drop 1) false [] 1
def twos:List Bs:=[[58,45],[33,61],[60,61],[62,61],[60,58]]
def ones:Bs:=[40,41,91,93,123,125,44,46,58,33,61,60,62,43,45,42,47,37,124,36,126]
def Z9 (r:Bs):Nat:=if twos.any (Lib.hasPrefix r) then 2 else if ones.contains (r.getD 0 0) then 1 else 0
structure Tok where
 kind:Nat
 text:Bs
 n:Int
 at':Nat
 fin:Nat
 deriving DecidableEq
inductive NR where
 | bad (at':Nat) (e:Nat) | tok (t:Tok)
 deriving DecidableEq
def XW (a:Nat) (r:Bs):NR:=match ZI r with | none=>.bad a 142 | some n=>.tok ⟨2,[],IntKind.i64.wrap n,a,a+Zu r⟩
def Zce (a:Nat) (r:Bs):NR:=match Y3 r with | .err p=>.bad (a+p) 141 | .ok t l=>.tok ⟨3,t,0,a,a+l⟩
def Xd (a:Nat) (r:Bs) (room:Bool):NR :=
 let c:=(pk r).1
 let n:=Z9 r
 if n=0/\c≠34/\Zd c=false/\Zf c=false then .bad a 140
 else if room=false then .bad a 3
 else if 0<n then .tok ⟨4,r.take n,0,a,a+n⟩
 else if c=34 then Zce a r
 else if Zf c=true then XW a r
 else .tok ⟨1,r.take (Y2 r),0,a,a+Y2 r⟩
def XP:Nat->Int->Nat->Bs->List Tok×(Nat×Nat)
 | 0,_,_,_=>([],(0,0))
 | f+1,cm,a,r =>
  if (Zr r).1=false then ([],(a+(Zr r).2,140))
  else
   let a:=a+(Zr r).2
   let r:=r.drop (Zr r).2
   if r=[] then ([],(0,0))
   else match Xd a r (decide (0<cm)) with
    | .bad p e=>([],(p,e))
    | .tok t=>let u:=XP f (cm - 1) t.fin (r.drop (t.fin - a));(t::u.1,u.2)
def J2 (s:Bs) (cm:Int):List Tok×(Nat×Nat):=XP (s.length+1) cm 0 s
end Go.PM.Lex
end

section
noncomputable section
namespace Go.PM.Lex
open Go.Proofs
def kR {P:Prop} (h:P:=by kernel_rfl):P:=h
abbrev GG (w0:World) (nG:Nat):GE:=⟨Tryz.prog,w0,nG⟩
def pc {w0:World} {nG:Nat} {tbl:Tbl} {sp:Zm} {g:FuncId} {fn:Func} {c:Code} (ht:TblOK (GG w0 nG) tbl) (hf:Tryz.prog.funcs[g]?=some fn) (h:∀args σ K,sp args σ K->∃loops keep own,σ.bx.length<=keep/\args.length<=fn.ntmps/\WF (ctx Zaf tbl loops) fn keep own args σ K) (hb:fn.body=some c:=by rfl) (hn:(fn.name == "runtime.NumGoroutine") = false:=by kernel_rfl) (hk:ZJ fn.ntmps c=true:=by kernel_rfl):PCalls (GG w0 nG) g sp:=ZhS ZC mixed ht hf hb hn hk h
abbrev PC (w0:World) (nG:Nat):=PCalls (GG w0 nG)
abbrev TO (w0:World) (nG:Nat):=TblOK (GG w0 nG)
abbrev OKw (w0:World) (nG:Nat) (T:Tbl) (g:FuncId) (sp:Zm):Prop:=TO w0 nG T->PC w0 nG g sp
def pwt {w0:World} {nG:Nat} {tbl:Tbl} (ht:TO w0 nG tbl) {g:FuncId} {fn:Func} {sp:Zm} (hf:Tryz.prog.funcs[g]?=some fn) (h:∀args σ K,sp args σ K->∃loops keep own,σ.bx.length<=keep/\args.length<=fn.ntmps/\WF (ctx Zaf tbl loops) fn keep own args σ K) (hb:fn.body=some (Xs fn):=by rfl) (hn:(fn.name=="runtime.NumGoroutine")=false:=by kernel_rfl) (ho:ZJ fn.ntmps (Xs fn)=true:=by kernel_rfl):PC w0 nG g sp:=ZhS ZC mixed ht hf hb hn ho h
def pwo {w0:World} {nG:Nat} {tbl:Tbl} {g:FuncId} {fn:Func} {sp:Zm} (hf:Tryz.prog.funcs[g]?=some fn) (h:∀args σ K,sp args σ K->∃loops keep own,σ.bx.length<=keep/\args.length<=fn.ntmps/\WF (ctx Zaf tbl loops) fn keep own args σ K) (hb:fn.body=some (Xs fn):=by rfl) (hn:(fn.name=="runtime.NumGoroutine")=false:=by kernel_rfl) (ho:ZJ fn.ntmps (Xs fn)=true:=by kernel_rfl):OKw w0 nG tbl g sp:=fun ht=>pwt ht hf h hb hn ho
def pwe {w0:World} {nG:Nat} {g:FuncId} {fn:Func} {sp:Zm} (hf:Tryz.prog.funcs[g]?=some fn) (h:∀args σ K,sp args σ K->∃loops keep own,σ.bx.length<=keep/\args.length<=fn.ntmps/\WF (ctx Zaf [] loops) fn keep own args σ K) (hb:fn.body=some (Xs fn):=by rfl) (hn:(fn.name=="runtime.NumGoroutine")=false:=by kernel_rfl) (ho:ZJ fn.ntmps (Xs fn)=true:=by kernel_rfl):PC w0 nG g sp:=pwt (tbl:=[]) trivial hf h hb hn ho
def pwv {T:Tab} {tbl:Tbl} {fn:Func} {args:List PV} {σ:St} {K:PEnd->St->Prop} {Q:Prop} (l:List (Nat×LoopAnn)) (k:Nat) (b:Bool) (q:Q) (h:Q->WF (ctx T tbl (Zk l)) fn k b args σ K:=by intro k;(conv=>whnf);exact k) (h1:σ.bx.length<=k:=by simp) (h2:args.length<=fn.ntmps:=by exact Tc rfl):∃loops keep own,σ.bx.length<=keep/\args.length<=fn.ntmps/\WF (ctx T tbl loops) fn keep own args σ K:=⟨Zk l,k,b,h1,h2,h q⟩
def pwu {T:Tab} {tbl:Tbl} {fn:Func} {args:List PV} {σ:St} {K:PEnd->St->Prop} (l:List (Nat×LoopAnn)) (k:Nat) (b:Bool) (q:WF (ctx T tbl (Zk l)) fn k b args σ K) (h1:σ.bx.length<=k:=by simp) (h2:args.length<=fn.ntmps:=by exact Tc rfl):∃loops keep own,σ.bx.length<=keep/\args.length<=fn.ntmps/\WF (ctx T tbl loops) fn keep own args σ K:=⟨Zk l,k,b,h1,h2,q⟩
def lzI {i n m:Nat} (e:n=m) (h:(i:Int)<(n:Int)):i<m:=by omega
def lzE {i n m:Nat} (e:n=m) (hi:i<=m) (h:¬(i:Int)<(n:Int)):i=m:=by omega
def lzG {i n m:Nat} (e:n=m) (h:¬(i:Int)<(n:Int)):m<=i:=by omega
def lzM {i n:Nat} (h:i<n):((n:Int) - ((i:Int)+1)).toNat<((n:Int) - (i:Int)).toNat:=by omega
def mu1 (n:Nat):List PV->St->Nat:=fun vs _=>match vs with | [.d (.int _ i)]=>((n:Int) - i).toNat | _=>0
def mu2 (n:Nat):List PV->St->Nat:=fun vs _=>match vs with | [_,.d (.int _ i)]=>((n:Int) - i).toNat | _=>0
def Zdh (s:Bs) (pos:Nat):decodeL s pos=Lib.decodeL (s.drop pos):=by
 have:=Lib.decodeL_drop ⟨s.toArray⟩ pos;simpa [decodeL] using this.symm
def Xx:Zm:=fun args σ K=>match args with
 | [.d (.str s),.d (.str p)]=>K (.ret (.d (.bool (Lib.hasPrefix s p)))) σ
 | _=>False
def Wx:Zm:=fun args σ K=>match args with
 | [.d (.str s),.d (.int .u8 c)]=>K (.ret (.d (.int .i64 (Lib.indexByte s c.toNat.toUInt8)))) σ
 | _=>False
def Zjr:Zm:=fun args σ K=>match args with
 | [.d (.str s),.d (.str p)]=>s.length<4294967281/\K (.ret (.d (.int .i64 (Lib.index s p)))) σ
 | _=>False
def Zdi:Zm:=fun args σ K=>match args with
 | [.d (.int .i32 c)]=>K (.ret (.d (.int .i64 (Lib.runeLen c)))) σ
 | _=>False
def Zbd:Zm:=fun args σ K=>match args with
 | [.d (.str s),.d (.str p)]=>(p.length<4294967281/\∀(j:Nat) b,p[j]?=some b->b.toNat<128)/\K (.ret (.d (.str (Lib.trimLeftS s p)))) σ
 | _=>False
abbrev WQ (k:Int) (x:Bs) (n a f:Int):PV:=.agg [.d (.int .u8 k),.d (.str x),.d (.int .i64 n),.d (.int .i64 a),.d (.int .i64 f)]
abbrev ZhT (a e:Int):PV:=.agg [.d (.int .i64 a),.d (.int .i64 e)]
def NR.t:NR->Tok | .bad _ _=>⟨0,[],0,0,0⟩ | .tok t=>t
def NR.p:NR->Nat | .bad p _=>p | .tok _=>0
def NR.e:NR->Nat | .bad _ e=>e | .tok _=>0
abbrev ZBX (x:NR):PV:=.tuple [WQ x.t.kind x.t.text x.t.n x.t.at' x.t.fin,ZhT x.p x.e]
def US:Zm:=fun args σ K=>match args,σ with
 | [.d (.int .i32 c)],⟨[],[],0⟩=>(-1<=c/\c<2147483648)/\K (.ret (.d (.bool (Zd c)))) ⟨[],[],0⟩
 | _,_=>False
def Wy:Zm:=fun args σ K=>match args,σ with
 | [.d (.int .i32 c)],⟨[],[],0⟩=>K (.ret (.d (.bool (Zf c)))) ⟨[],[],0⟩
 | _,_=>False
def ZbV:Zm:=fun args σ K=>match args,σ with
 | [.ptr 0 0,.d (.int .i64 at')],⟨[.cells t [.d (.str s),.d (.int .i64 a)]],[],0⟩=>(0<=at'/\s.length<4611686018427387904) /\
   K (.ret (.tuple [.d (.int .i32 (pk (s.drop at'.toNat)).1),.d (.int .i64 (pk (s.drop at'.toNat)).2)])) ⟨[.cells t [.d (.str s),.d (.int .i64 a)]],[],0⟩
 | _,_=>False
def ZhU:Zm:=fun args σ K=>match args,σ with
 | [.ptr 0 0],⟨[.cells t [.d (.str s),.d (.int .i64 a)]],[],0⟩=>(0<=a/\a<=s.length/\s.length<4294967281) /\
   K (.ret (WQ 1 ((s.drop a.toNat).take (Y2 (s.drop a.toNat))) 0 a (a+Y2 (s.drop a.toNat)))) ⟨[.cells t [.d (.str s),.d (.int .i64 a)]],[],0⟩
 | _,_=>False
def Zbe:Zm:=fun args σ K=>match args,σ with
 | [.ptr 0 0],⟨[.cells t [.d (.str s),.d (.int .i64 a)]],[],0⟩=>(0<=a/\a<=s.length/\s.length<4294967281) /\
   K (.ret (.d (.bool (Zr (s.drop a.toNat)).1))) ⟨[.cells t [.d (.str s),.d (.int .i64 (a+(Zr (s.drop a.toNat)).2))]],[],0⟩
 | _,_=>False
def ZkQ:Zm:=fun args σ K=>match args,σ with
 | [.ptr 0 0],⟨[.cells t [.d (.str s),.d (.int .i64 a)]],[],0⟩=>(0<=a/\a<s.length/\s.length<4294967281) /\
   K (.ret (.d (.int .i64 (Z9 (s.drop a.toNat))))) ⟨[.cells t [.d (.str s),.d (.int .i64 a)]],[],0⟩
 | _,_=>False
def ZhV:ZL Zbe:=fun args σ K K' hK h=>by
 unfold Zbe at h |-;split at h <;> first | exact ⟨h.1,hK _ _ h.2⟩ | exact h.elim
end Go.PM.Lex
end
end

section
namespace Go.PM.Lex
open Go.Proofs
variable {w0:World} {nG:Nat}
def orB (n:Fin 128):Zh .or .i32 (n.val:Int) 32=((n.val ||| 32:Nat):Int):=by rw [Yb];revert n;decide +kernel
def orM:Zh .or .i32 (-1) 32=-1:=by rw [Yb];decide +kernel
def orL:∀n:Fin 128,(97<=(n.val ||| 32)/\(n.val ||| 32)<=122)↔((97<=n.val/\n.val<=122)\/(65<=n.val/\n.val<=90)):=by decide +kernel
def Zos {c:Int} (h0:-1<=c) (h1:c<128):(97<=Zh .or .i32 c 32/\Zh .or .i32 c 32<=122)↔((97<=c/\c<=122)\/(65<=c/\c<=90)):=by
 by_cases hc:c=-1
 ·subst hc;rw [orM];omega
 obtain ⟨n,rfl⟩:∃n:Nat,c=n:=⟨c.toNat,oM⟩
 have hn:n<128:=oM;have h2:=orB ⟨n,hn⟩;have h3:=orL ⟨n,hn⟩;simp only at h2 h3;rw [h2];omega
def ZbW {K:PEnd->St->Prop} {b b':Bool} {σ:St} (h:K (.ret (.d (.bool b))) σ) (h1:b=b'):K (.ret (.d (.bool b'))) σ:=by subst h1;exact h
def Zgs:PC w0 nG 230 Wy:=by
 refine ZhS ZC mixed (tbl:=[]) trivial Tryz.func230 rfl kR kR ?_;intro args σ K h
 unfold Wy at h
 split at h
 ·rename_i c
  refine ⟨Zk [],0,false,dM,Tc rfl,?_⟩;exact mq105
 exact h.elim
def Zag:PC w0 nG 188 US:=by
 refine ZhS ZC mixed (tbl:=[]) trivial Tryz.func188 rfl kR kR ?_;intro args σ K h
 unfold US at h
 split at h
 ·rename_i c
  obtain ⟨⟨h0,_⟩,h⟩:=h;refine ⟨Zk [],0,false,dM,Tc rfl,?_⟩
  repeat' ((conv=>whnf);refine ZEw (fun h1=>?_) (fun h1=>?_))
  all_goals (conv=>whnf)
  all_goals (try (have hl:=Zos (c:=c) h0 oM))
  all_goals (refine ZbW h ?_;simp only [Zd,TQ,decide_eq_false_iff_not,decide_eq_decide];omega)
 exact h.elim
def ZC4 (r:Bs):Lib.hasPrefix r [239,191,189]=true↔2<r.length/\(r.getD 0 0).toNat=239/\(r.getD 1 0).toNat=191/\(r.getD 2 0).toNat=189:=by
 unfold Lib.hasPrefix
 match r with
 | []=>simp
 | [a]=>simp [List.isPrefixOf]
 | [a,b]=>simp [List.isPrefixOf]
 | a::b::c::l =>
  have ha:=UInt8.toNat_inj (a:=239) (b:=a);have hb:=UInt8.toNat_inj (a:=191) (b:=b);have hc:=UInt8.toNat_inj (a:=189) (b:=c);simp only [List.isPrefixOf,Bool.and_true,Tm,beq_iff_eq,Td,Sq,SC];rw [<- ha,<- hb,<- hc];have e1:(239:UInt8).toNat=239:=rfl;have e2:(191:UInt8).toNat=191:=rfl;have e3:(189:UInt8).toNat=189:=rfl;rw [e1,e2,e3];omega
def ZBY (r:Bs) (hv:(Lib.decodeL r).1=65533):(Lib.hasPrefix r [239,191,189]=true/\(Lib.decodeL r).2=3)\/(¬Lib.hasPrefix r [239,191,189]=true/\(Lib.decodeL r).2=1):=by
 rw [ZC4];rw [Lib.decodeL_N] at hv |-;have k0:=(r.getD 0 0).toNat_lt;have k1:=(r.getD 1 0).toNat_lt;have k2:=(r.getD 2 0).toNat_lt;have k3:=(r.getD 3 0).toNat_lt
 by_cases hp:2<r.length/\(r.getD 0 0).toNat=239/\(r.getD 1 0).toNat=191/\(r.getD 2 0).toNat=189
 ·left
  refine ⟨hp,?_⟩;obtain ⟨p0,p1,p2,p3⟩:=hp;rw [p1,p2,p3];unfold Lib.decodeN
  have hl:1<r.length:=oM;simp [p0,hl]
 right
 refine ⟨hp,?_⟩;rcases Lib.decodeN_shape r.length (r.getD 0 0).toNat (r.getD 1 0).toNat (r.getD 2 0).toNat (r.getD 3 0).toNat with ⟨c,e⟩ | ⟨c1,c2,c3,cv,e⟩ | ⟨c1,c2,c3,c4,cv,cs,e⟩ | ⟨c1,c2,c3,c4,c5,cv,cw,e⟩ | e
 all_goals (rw [e] at hv)
 all_goals (dsimp only at hv)
 ·omega
 ·omega
 ·exact absurd ⟨c2,oM,oM,oM⟩ hp
 ·omega
 rw [e]
def Zfj:pk []=(-1,1):=by simp [pk]
def ZkR (r:Bs) (h0:0<r.length) (hv:¬(Lib.decodeL r).1=65533):pk r=(((Lib.decodeL r).1:Int),(Lib.decodeL r).2):=by
 have ai:r≠[]:=fun h=>by subst h;simp at h0
 have:Lib.decodeL r≠(65533,1):=fun h=>hv (by rw [h])
 simp [pk,ai,this]
def Zot (r:Bs) (h0:0<r.length) (hp:Lib.hasPrefix r [239,191,189]=true) (hv:(Lib.decodeL r).1=65533):pk r=(65533,3):=by
 have ai:r≠[]:=fun h=>by subst h;simp at h0
 rcases ZBY r hv with ⟨_,h2⟩ | ⟨h1,_⟩
 ·have:Lib.decodeL r≠(65533,1):=fun h=>by rw [h] at h2;simp at h2
  simp [pk,ai,this,hv,h2]
 exact absurd hp h1
def Zum (r:Bs) (hp:¬Lib.hasPrefix r [239,191,189]=true) (hv:(Lib.decodeL r).1=65533):pk r=(-1,1):=by
 rcases ZBY r hv with ⟨h1,h2⟩ | ⟨_,h2⟩
 ·exact absurd h1 hp
 have:Lib.decodeL r=(65533,1):=Prod.ext hv h2;simp [pk,this]
def ZkS (r:Bs):1<=(pk r).2/\(pk r).2<=4:=by
 unfold pk
 split
 ·simp
 rename_i h
 simp only [not_or] at h;simp only;rw [Lib.decodeL_N];rcases Lib.decodeN_shape r.length (r.getD 0 0).toNat (r.getD 1 0).toNat (r.getD 2 0).toNat (r.getD 3 0).toNat with ⟨c,e⟩ | ⟨c1,c2,c3,cv,e⟩ | ⟨c1,c2,c3,c4,cv,cs,e⟩ | ⟨c1,c2,c3,c4,c5,cv,cw,e⟩ | e
 all_goals (rw [e];simp)
def X3 (r:Bs):-1<=(pk r).1/\(pk r).1<=1114111:=by
 unfold pk
 split
 ·simp
 simp only;exact mq64
def ZrO (r:Bs) (h:(pk r).1≠-1):1<=(pk r).2/\(pk r).2<=r.length/\r≠[]:=by
 have hl:=ZkS r;unfold pk at h hl |-
 split at h
 ·exact absurd rfl h
 rename_i h1
 simp only [not_or] at h1;rw [Tf (by simp only [not_or];exact h1)] at hl |-;exact ⟨hl.1,Lib.decodeL_le r h1.1,h1.1⟩
def Uo {s:Bs} {n:Nat}:cut s n s.length=s.drop n:=by simp [cut]
def Zvd:OKw w0 nG [(228,Zdi),(229,Xx)] 187 ZbV:=by
 refine pwo Tryz.func187 fun args σ K h=>?_
 unfold ZbV at h
 split at h
 ·rename_i at' t s a
  obtain ⟨⟨h0,hs⟩,h⟩:=h;refine pwv [(2,⟨[],[0,1,21],fun vs σ=>vs=[]/\σ=⟨[.cells t [.d (.str s),.d (.int .i64 a)],.iter (s.drop at'.toNat) 0],[],0⟩,fun _ _=>0⟩)] 1 false ?_;have gk:cut s (min at' (s.length:Int)).toNat s.length=s.drop at'.toNat:=by
   rw [Uo]
   by_cases hl:at'<=s.length
   ·rw [Int.min_eq_left hl]
   rw [Int.min_eq_right oM,Tr oM,Tr oM]
  refine ⟨oM,wN ?_⟩;refine ⟨oM,wN ?_⟩;refine ⟨⟨rfl,?_⟩,?_⟩
  ·rw [gk];rfl
  intro vs σ1 hI
  obtain ⟨rfl,rfl⟩:=hI;refine ZEw (fun h1=>wN ?_) (fun h1=>wN ?_)
  ·refine ZEy (fun h2=>wN ?_) (fun h2=>wN ?_)
   ·rw [Zdh] at h2;have hl:0<(s.drop at'.toNat).length:=by simpa using h1
    rw [Sn] at h2;have ai:¬(Lib.decodeL (s.drop at'.toNat)).1=65533:=oM;rw [ZkR _ hl ai] at h;rw [Zdh,Sn];have hr:=Lib.runeLen_decode _ ai;rw [hr];exact h
   rw [Zdh] at h2;have hl:0<(s.drop at'.toNat).length:=by simpa using h1
   have hd:(Lib.decodeL (s.drop at'.toNat)).1=65533:=by rw [Sn] at h2;omega
   refine ⟨h0,by simp at hl;omega,wN ?_⟩;refine ZEz (fun h3=>wN ?_) (fun h3=>wN ?_)
   ·rw [Uo] at h3;rw [Zot _ hl h3 hd] at h;rw [Zdh,Sn,hd];exact h
   rw [Uo] at h3;rw [Zum _ (by rw [h3];simp) hd] at h;exact h
  have:s.drop at'.toNat=[]:=by simp at h1;exact Tr oM
  rw [this,Zfj] at h;exact h
 exact h.elim
def muI (B:Int):List PV->St->Nat:=fun vs _=>match vs with | .d (.int _ n)::_=>(B - n).toNat | _=>0
def Zvf:OKw w0 nG [(229,Xx),(264,Wx)] 274 ZkQ:=by
 refine pwo Tryz.func274 fun args σ K h=>?_
 unfold ZkQ at h
 split at h
 ·rename_i t s a
  obtain ⟨⟨h0,h1,hs⟩,h⟩:=h;refine pwv [(3,⟨[16],[0,3,15],fun vs σ=>σ=⟨[.cells t [.d (.str s),.d (.int .i64 a)]],[],0⟩/\∃i:Nat,i<=5/\vs=[.d (.int .i64 i)]/\(twos.take i).any (Lib.hasPrefix (s.drop a.toNat))=false,muI 5⟩)] 1 false ?_;refine ⟨h0,oM,wN ?_⟩;rw [Uo];refine ⟨⟨rfl,0,oM,rfl,rfl⟩,?_⟩;intro vs σ1 hI
  obtain ⟨rfl,i,hi,rfl,hn⟩:=hI
  match i,hi,hn with
  | 0,hi,hn =>
   conv=>whnf
   refine ⟨oM,oM,wN ?_⟩;refine ZEz (fun h2=>wN ?_) (fun h2=>wN ?_)
   ·exact mq37
   refine Zj ?_;refine ⟨⟨rfl,1,oM,rfl,?_⟩,?_⟩
   ·have bz:Lib.hasPrefix (s.drop a.toNat) (twos.getD 0 [])=false:=h2;exact mq58
   exact (show (5 - (((0:Nat):Int)+1)).toNat<(5 - ((0:Nat):Int)).toNat by omega)
  | 1,hi,hn =>
   conv=>whnf
   refine ⟨oM,oM,wN ?_⟩;refine ZEz (fun h2=>wN ?_) (fun h2=>wN ?_)
   ·exact mq37
   refine Zj ?_;refine ⟨⟨rfl,2,oM,rfl,?_⟩,?_⟩
   ·have bz:Lib.hasPrefix (s.drop a.toNat) (twos.getD 1 [])=false:=h2;exact mq58
   exact (show (5 - (((1:Nat):Int)+1)).toNat<(5 - ((1:Nat):Int)).toNat by omega)
  | 2,hi,hn =>
   conv=>whnf
   refine ⟨oM,oM,wN ?_⟩;refine ZEz (fun h2=>wN ?_) (fun h2=>wN ?_)
   ·exact mq37
   refine Zj ?_;refine ⟨⟨rfl,3,oM,rfl,?_⟩,?_⟩
   ·have bz:Lib.hasPrefix (s.drop a.toNat) (twos.getD 2 [])=false:=h2;exact mq58
   exact (show (5 - (((2:Nat):Int)+1)).toNat<(5 - ((2:Nat):Int)).toNat by omega)
  | 3,hi,hn =>
   conv=>whnf
   refine ⟨oM,oM,wN ?_⟩;refine ZEz (fun h2=>wN ?_) (fun h2=>wN ?_)
   ·exact mq37
   refine Zj ?_;refine ⟨⟨rfl,4,oM,rfl,?_⟩,?_⟩
   ·have bz:Lib.hasPrefix (s.drop a.toNat) (twos.getD 3 [])=false:=h2;exact mq58
   exact (show (5 - (((3:Nat):Int)+1)).toNat<(5 - ((3:Nat):Int)).toNat by omega)
  | 4,hi,hn =>
   conv=>whnf
   refine ⟨oM,oM,wN ?_⟩;refine ZEz (fun h2=>wN ?_) (fun h2=>wN ?_)
   ·exact mq37
   refine Zj ?_;refine ⟨⟨rfl,5,oM,rfl,?_⟩,?_⟩
   ·have bz:Lib.hasPrefix (s.drop a.toNat) (twos.getD 4 [])=false:=h2;exact mq58
   exact (show (5 - (((4:Nat):Int)+1)).toNat<(5 - ((4:Nat):Int)).toNat by omega)
  | 5,hi,hn =>
   conv=>whnf
   refine ⟨oM,sO,wN ?_⟩;refine ZEw (fun h2=>wN ?_) (fun h2=>wN ?_)
   ·have e:Z9 (s.drop a.toNat)=1:=by
     have hc:ones.contains ((s.drop a.toNat).getD 0 0)=true:=by
      rw [Lib.contains_iff_indexByte];simpa [ones] using h2
     rw [Z9,Tf (by simpa [twos] using hn),Th hc]
    rw [e] at h;exact h
   have e:Z9 (s.drop a.toNat)=0:=by
    have hc:ones.contains ((s.drop a.toNat).getD 0 0)=false:=by
     rw [Lib.contains_iff_indexByte];simpa [ones] using h2
    rw [Z9,Tf (by simpa [twos] using hn),Tf (by rw [hc];simp)]
   rw [e] at h;exact h
 exact h.elim
def WZ:Zd (-1)=false:=dM
def JG:Zf (-1)=false:=dM
def Zfk {f:Nat} {r:Bs} (h1:(pk r).1=46) (h2:Zd (pk (r.drop 1)).1=true):Yk (f+1) r=(pk r).2+Yk f (r.drop (pk r).2):=by rw [Yk,Th h1,Th h2]
def Zah {f:Nat} {r:Bs} (h1:(pk r).1=46) (h2:Zd (pk (r.drop 1)).1=false):Yk (f+1) r=0:=by rw [Yk,Th h1,Tf (by rw [h2];simp)]
def Zdj {f:Nat} {r:Bs} (h1:¬(pk r).1=46) (h2:Zd (pk r).1=true\/Zf (pk r).1=true):Yk (f+1) r=(pk r).2+Yk f (r.drop (pk r).2):=by rw [Yk,Tf h1,Th h2]
def Zbf {f:Nat} {r:Bs} (h1:¬(pk r).1=46) (h2:Zd (pk r).1=false) (h3:Zf (pk r).1=false):Yk (f+1) r=0:=by rw [Yk,Tf h1,Tf (by simp [h2,h3])]
def Xy {s:Bs} {a b:Nat}:cut s a b=(s.drop a).take (b - a):=by simp [cut,List.drop_take]
def Zvh:OKw w0 nG [(187,ZbV),(188,US),(230,Wy)] 189 ZhU:=by
 refine pwo Tryz.func189 fun args σ K h=>?_
 unfold ZhU at h
 split at h
 ·rename_i t s a
  obtain ⟨⟨h0,h1,hs⟩,h⟩:=h;obtain ⟨a,rfl⟩:∃n:Nat,a=n:=⟨a.toNat,oM⟩
  simp only [Ti] at h;refine pwu [(2,⟨[3],[0,2],fun vs σ=>σ=⟨[.cells t [.d (.str s),.d (.int .i64 a)],.cells 186 [.d (.int .u8 0),.d (.str []),.d (.int .i64 0),.d (.int .i64 0),.d (.int .i64 0)]],[],0⟩ /\
   ∃e f:Nat,a<=e/\e<=s.length/\vs=[.d (.int .i64 e)]/\s.length<e+f/\e+Yk f (s.drop e)=a+Y2 (s.drop a),muI s.length⟩)] 1 false ?_
  conv=>whnf
  refine ⟨⟨rfl,a,s.length - a+1,oM,oM,rfl,oM,by simp [Y2]⟩,?_⟩;intro vs σ1 hI
  obtain ⟨rfl,e,f,vt,oe,rfl,hf,hn⟩:=hI;obtain ⟨f,rfl⟩:∃g,f=g+1:=⟨f - 1,oM⟩
  have qy:=X3 (s.drop e);have ff:=ZkS (s.drop e);have nv:=ZrO (s.drop e);have jq:=X3 (s.drop ((e:Int)+1).toNat);have ce:Yk (f+1) (s.drop e)=0->K (.ret (WQ 1 (cut s a e) 0 a e)) ⟨[.cells t [.d (.str s),.d (.int .i64 a)]],[],0⟩:=fun h3=>by
   have e2:Y2 (s.drop a)=e - a:=by rw [h3] at hn;omega
   rw [e2,show (a:Int)+((e - a:Nat):Int)=(e:Int) by omega,<- Xy] at h;exact h
  have fk:∀n:Nat,1<=n->e+n<=s.length->Yk (f+1) (s.drop e)=n+Yk f ((s.drop e).drop n)->a<=e+n/\e+n<=s.length/\s.length<(e+n)+f/\(e+n)+Yk f (s.drop (e+n))=a+Y2 (s.drop a):=fun n h1 h2 h3=>by
   rw [TC] at h3;exact ⟨oM,h2,oM,by rw [<- hn,h3];omega⟩
  conv=>whnf
  refine ⟨⟨oM,oM⟩,wN ?_⟩;refine ZEw (fun h2=>wN ?_) (fun h2=>wN ?_)
  ·refine Zj ?_;refine ⟨⟨oM,oM⟩,wN ?_⟩;refine ⟨⟨oM,oM⟩,wN ?_⟩;have hw:((e:Int)+1).toNat=e+1:=oM;refine ZEz (fun h3=>wN ?_) (fun h3=>wN ?_)
   ·rw [hw] at h3;refine ⟨oM,oM,oM,wN ?_⟩;exact ce (Zah h2 (by rw [TC];simpa using h3))
   rw [hw] at h3;have ai:(pk (s.drop e)).1≠-1:=by have:(pk (s.drop e)).1=46:=h2;omega
   obtain ⟨g1,g2,g3⟩:=nv ai;have g2':e+(pk (s.drop e)).2<=s.length:=by rw [Tu] at g2;omega
   refine Or.inl ⟨InR.i64 tN tN,wN ?_⟩;obtain ⟨k1,k2,k3,k4⟩:=fk _ g1 g2' (Zfk h2 (by rw [TC];simpa using h3));exact mq33
  have bz:¬(pk (s.drop e)).1=46:=h2;have fin:∀(h4:Zd (pk (s.drop e)).1=true\/Zf (pk (s.drop e)).1=true),a<=e+(pk (s.drop e)).2/\e+(pk (s.drop e)).2<=s.length/\s.length<(e+(pk (s.drop e)).2)+f/\(e+(pk (s.drop e)).2)+Yk f (s.drop (e+(pk (s.drop e)).2))=a+Y2 (s.drop a):=fun h4=>by
   have ai:(pk (s.drop e)).1≠-1:=fun h5=>by rw [h5,WZ,JG] at h4;simp at h4
   obtain ⟨g1,g2,g3⟩:=nv ai;have g2':e+(pk (s.drop e)).2<=s.length:=by rw [Tu] at g2;omega
   exact fk _ g1 g2' (Zdj bz h4)
  refine ⟨⟨qy.1,tN⟩,wN ?_⟩;refine ZEz (fun h3=>wN ?_) (fun h3=>wN ?_)
  ·have dg:Zd (pk (s.drop e)).1=false:=by simpa using h3
   refine ZEz (fun h4=>wN ?_) (fun h4=>wN ?_)
   ·have gq:Zf (pk (s.drop e)).1=false:=by simpa using h4
    refine ⟨oM,oM,oM,wN ?_⟩;exact ce (Zbf bz dg gq)
   have gq:Zf (pk (s.drop e)).1=true:=by simpa using h4
   obtain ⟨k1,k2,k3,k4⟩:=fin (.inr gq);exact mq198
  have dg:Zd (pk (s.drop e)).1=true:=by simpa using h3
  obtain ⟨k1,k2,k3,k4⟩:=fin (.inl dg);exact mq198
 exact h.elim
def ZDy (B:Int):List PV->St->Nat:=fun _ σ=>match σ.bx with | .cells _ (_::.d (.int _ n)::_)::_=>(B - n).toNat | _=>0
def W0 (p:UInt8->Bool):∀r:Bs,r.dropWhile p=r.drop (r.length - (r.dropWhile p).length)/\(r.dropWhile p).length<=r.length
 | []=>sM
 | x::r=>by
  have ih:=W0 p r
  by_cases hx:p x=true
  ·simp only [List.dropWhile_cons,hx,if_true,Td];refine ⟨?_,oM⟩;rw [show r.length+1 - (r.dropWhile p).length=(r.length - (r.dropWhile p).length)+1 by omega,List.drop_succ_cons];exact ih.1
  simp [List.dropWhile_cons,hx]
def W1 (c:UInt8):∀l:Bs,Lib.indexByte l c<l.length\/Lib.indexByte l c=-1
 | []=>.inr rfl
 | b::l=>by
  have ih:=W1 c l;unfold Lib.indexByte
  split
  ·left;simp
  split
  ·exact .inr rfl
  rename_i h1 h2
  rcases ih with h | h
  ·left;simp;omega
  rw [h] at h2;simp at h2
def Zgt (p:Bs):∀l:Bs,0<=Lib.index l p->Lib.index l p+p.length<=l.length
 | [],h=>by
  unfold Lib.index at h |-
  split at h
  ·rename_i hp
   simp at hp;subst hp;simp
  omega
 | b::l,h=>by
  have ih:=Zgt p l;unfold Lib.index at h |-
  split at h
  ·rename_i hp
   have:=List.IsPrefix.length_le (List.isPrefixOf_iff_prefix.1 hp);simp only [hp,if_true];simp only [Td] at this |-;omega
  split at h
  ·omega
  rename_i h1 h2
  have:=Lib.index_ge l p;have h3:Lib.index l p≠-1:=by simpa using h2
  simp only [h1,h2,Tt,if_false];have:=ih oM;simp only [Td];omega
def Zv {r:Bs} {a b:UInt8} (h:Lib.hasPrefix r [a,b]=true):2<=r.length/\r=a::b::r.drop 2:=by
 obtain ⟨t,rfl⟩:=List.isPrefixOf_iff_prefix.1 h;simp
def Zai {r:Bs} {a b c:UInt8} (h:Lib.hasPrefix r [a,b]=true) (ha:a≠c) (hb:b≠c) (h0:0<=Lib.indexByte r c):2<=Lib.indexByte r c:=by
 rw [(Zv h).2] at h0 |-;have h1:(a == c)=false:=by simpa using ha
 have h2:(b == c)=false:=by simpa using hb
 have hg:=Lib.indexByte_ge (r.drop 2) c;simp only [Lib.indexByte,h1,h2,Tt,if_false] at h0 |-
 by_cases hm:Lib.indexByte (r.drop 2) c=-1
 ·rw [hm] at h0;simp at h0
 have zg:(Lib.indexByte (r.drop 2) c == -1)=false:=by simpa using hm
 simp only [zg,Tt,if_false] at h0 |-;have:(Lib.indexByte (r.drop 2) c+1 == -1)=false:=sO;simp only [this,Tt,if_false];omega
def Zzj:∀(j:Nat) (b:UInt8),([32,9,13,10]:Bs)[j]?=some b->b.toNat<128
 | 0,b,h=>by simp at h;subst h;decide
 | 1,b,h=>by simp at h;subst h;decide
 | 2,b,h=>by simp at h;subst h;decide
 | 3,b,h=>by simp at h;subst h;decide
 | j+4,b,h=>by simp at h
def ZrQ:OKw w0 nG [(272,Zbd),(229,Xx),(264,Wx),(273,Zjr)] 242 Zbe:=by
 refine pwo Tryz.func242 fun args σ K h=>?_
 unfold Zbe at h
 split at h
 ·rename_i t s a
  obtain ⟨⟨h0,h1,hs⟩,h⟩:=h;obtain ⟨a,rfl⟩:∃n:Nat,a=n:=⟨a.toNat,oM⟩
  simp only [Ti] at h;refine pwu [(1,⟨[],[0],fun vs σ=>vs=[] /\
   ∃e f:Nat,σ=⟨[.cells t [.d (.str s),.d (.int .i64 e)]],[],0⟩/\a<=e/\e<=s.length/\s.length<e+f/\(Zs f (s.drop e)).1=(Zr (s.drop a)).1/\e+(Zs f (s.drop e)).2=a+(Zr (s.drop a)).2,ZDy s.length⟩)] 1 false ?_
  conv=>whnf
  refine ⟨⟨rfl,a,s.length - a+1,rfl,oM,oM,oM,by simp [Zr],by simp [Zr]⟩,?_⟩;intro vs σ1 hI
  obtain ⟨rfl,e,f,rfl,vt,oe,hf,jf,lm⟩:=hI;obtain ⟨f,rfl⟩:∃g,f=g+1:=⟨f - 1,oM⟩
  conv=>whnf
  refine ⟨oM,oM,wN ?_⟩;refine ⟨⟨dM,Zzj⟩,wN ?_⟩;generalize o9:Lib.trimLeftS (cut s _ _) _=rest;have au:Lib.trimLeftS (s.drop e) [32,9,13,10]=rest:=by rw [Uo] at o9;exact o9
  have hdw:=W0 (([32,9,13,10]:Bs).contains ·) (s.drop e)
  have cn:rest=(s.drop e).drop ((s.drop e).length - rest.length):=by rw [<- au];exact hdw.1
  have dz:rest.length<=(s.drop e).length:=by rw [<- au];exact hdw.2
  rw [Tu] at dz;have hr3:rest=s.drop (s.length - rest.length):=by
   rw [TC,Tu,show e+(s.length - e - rest.length)=s.length - rest.length by omega] at cn;exact cn
  have hk:(s.drop e).length - rest.length=s.length - rest.length - e:=hD;have fk:∀n:Nat,1<=n->n<=rest.length->Zs (f+1) (s.drop e)=((Zs f (rest.drop n)).1,(s.drop e).length - rest.length+n+(Zs f (rest.drop n)).2) ->
    a<=s.length - rest.length+n/\s.length - rest.length+n<=s.length/\s.length<(s.length - rest.length+n)+f/\(Zs f (s.drop (s.length - rest.length+n))).1=(Zr (s.drop a)).1/\(s.length - rest.length+n)+(Zs f (s.drop (s.length - rest.length+n))).2=a+(Zr (s.drop a)).2:=fun n g1 g2 g3=>by
   have g4:rest.drop n=s.drop (s.length - rest.length+n):=by rw [<- TC,<- hr3]
   rw [g3,g4] at jf lm;simp only at jf lm;exact ⟨oM,oM,oM,jf,oM⟩
  have ce:∀b:Bool,Zs (f+1) (s.drop e)=(b,(s.drop e).length - rest.length)->K (.ret (.d (.bool b))) ⟨[.cells t [.d (.str s),.d (.int .i64 ((s.length:Int) - rest.length))]],[],0⟩:=fun b g=>by
   rw [g] at jf lm;simp only at jf lm;rw [<- jf,show (a:Int)+((Zr (s.drop a)).2:Int)=(s.length:Int) - rest.length by omega] at h;exact h
  have bg1:Lib.hasPrefix rest [47,47]=true->Zs (f+1) (s.drop e)=((Zs f (rest.drop (if Lib.indexByte rest 10<0 then rest.length else (Lib.indexByte rest 10).toNat))).1,(s.drop e).length - rest.length+(if Lib.indexByte rest 10<0 then rest.length else (Lib.indexByte rest 10).toNat)+(Zs f (rest.drop (if Lib.indexByte rest 10<0 then rest.length else (Lib.indexByte rest 10).toNat))).2):=fun g=>by
   simp only [Zs,au,g,if_true]
  have bg2:Lib.hasPrefix rest [47,47]=false->Lib.hasPrefix rest [47,42]=true->Lib.index (rest.drop 2) [42,47]<0->Zs (f+1) (s.drop e)=(false,(s.drop e).length - rest.length):=fun g1 g2 g3=>by
   simp only [Zs,au,g1,g2,g3,if_true,Tt,if_false]
  have bg3:Lib.hasPrefix rest [47,47]=false->Lib.hasPrefix rest [47,42]=true->¬Lib.index (rest.drop 2) [42,47]<0->Zs (f+1) (s.drop e)=((Zs f (rest.drop ((Lib.index (rest.drop 2) [42,47]).toNat+4))).1,(s.drop e).length - rest.length+((Lib.index (rest.drop 2) [42,47]).toNat+4)+(Zs f (rest.drop ((Lib.index (rest.drop 2) [42,47]).toNat+4))).2):=fun g1 g2 g3=>by
   simp only [Zs,au,g1,g2,g3,if_true,Tt,if_false]
  have bg4:Lib.hasPrefix rest [47,47]=false->Lib.hasPrefix rest [47,42]=false->Zs (f+1) (s.drop e)=(true,(s.drop e).length - rest.length):=fun g1 g2=>by
   simp only [Zs,au,g1,g2,Tt,if_false]
  refine Zj ?_;refine ZEz (fun h2=>wN ?_) (fun h2=>wN ?_)
  ·have bz:Lib.hasPrefix rest [47,47]=true:=h2;have qe:=(Zv bz).1;have bg:=bg1 bz;have jn:=Lib.indexByte_ge rest 10;have ab:=W1 10 rest;have h22:=Zai (c:=10) bz dM dM;refine ZEw (fun h3=>wN ?_) (fun h3=>wN ?_)
   ·have dg:Lib.indexByte rest 10<0:=h3;simp only [dg,if_true] at bg;refine Zj ?_;obtain ⟨k1,k2,k3,k4,k5⟩:=fk _ oM oM bg;refine ⟨⟨rfl,_,f,?_,k1,k2,k3,k4,k5⟩,?_⟩
    ·rw [show (s.length:Int) - (rest.length:Int)+(rest.length:Int)=((s.length - rest.length+rest.length:Nat):Int) by omega];rfl
    exact (show ((s.length:Int) - ((s.length:Int) - (rest.length:Int)+(rest.length:Int))).toNat<((s.length:Int) - (e:Int)).toNat by omega)
   have dg:¬Lib.indexByte rest 10<0:=h3;simp only [dg,if_false] at bg;obtain ⟨n,hn⟩:∃n:Nat,Lib.indexByte rest 10=n:=⟨(Lib.indexByte rest 10).toNat,oM⟩
   have ud:Lib.indexByte rest ((10:Int).toNat.toUInt8)=n:=hn;rw [ud];rw [hn] at h22 ab;rw [hn,Ti] at bg;refine Zj ?_;obtain ⟨k1,k2,k3,k4,k5⟩:=fk _ oM oM bg;refine ⟨⟨rfl,_,f,?_,k1,k2,k3,k4,k5⟩,?_⟩
   ·rw [show (s.length:Int) - (rest.length:Int)+(n:Int)=((s.length - rest.length+n:Nat):Int) by omega];rfl
   exact (show ((s.length:Int) - ((s.length:Int) - (rest.length:Int)+(n:Int))).toNat<((s.length:Int) - (e:Int)).toNat by omega)
  have bz:Lib.hasPrefix rest [47,47]=false:=h2;refine ZEz (fun h3=>wN ?_) (fun h3=>wN ?_)
  ·have dg:Lib.hasPrefix rest [47,42]=true:=h3;have qe:=(Zv dg).1;refine ⟨oM,oM,wN ?_⟩;rw [Uo];have je:(rest.drop 2).length=rest.length - 2:=sM;refine ⟨by have:(rest.drop ((2:Int).toNat)).length=rest.length - 2:=je;omega,wN ?_⟩;have jn:=Lib.index_ge (rest.drop 2) [42,47];have ar:=Zgt [42,47] (rest.drop 2);simp only [Td,Tg,je] at ar;refine ZEw (fun h4=>wN ?_) (fun h4=>wN ?_)
   ·exact ce _ (bg2 bz dg h4)
   have gq:¬Lib.index (rest.drop 2) [42,47]<0:=h4;have bg:=bg3 bz dg gq;obtain ⟨n,hn⟩:∃n:Nat,Lib.index (rest.drop 2) [42,47]=n:=⟨(Lib.index (rest.drop 2) [42,47]).toNat,oM⟩
   generalize hi:Lib.index _ _=i;have fj:i=n:=by rw [<- hi];exact hn
   subst fj;rw [hn] at ar;rw [hn,Ti] at bg;refine Zj ?_;refine Zj ?_;obtain ⟨k1,k2,k3,k4,k5⟩:=fk _ oM oM bg;refine ⟨⟨rfl,_,f,?_,k1,k2,k3,k4,k5⟩,?_⟩
   ·rw [show (s.length:Int) - (rest.length:Int)+((n:Int)+4)=((s.length - rest.length+(n+4):Nat):Int) by omega];rfl
   exact (show ((s.length:Int) - ((s.length:Int) - (rest.length:Int)+((n:Int)+4))).toNat<((s.length:Int) - (e:Int)).toNat by omega)
  exact ce _ (bg4 bz h3)
 exact h.elim
end Go.PM.Lex
end

section
noncomputable section
namespace Go.PM.Lex
open Go.Proofs
def Zg (l:Bs):List (List D):=l.map fun b=>[.int .u8 b.toNat]
def JH:Zm:=fun args σ K=>match args,σ with
 | [.d (.str l),.d (.int .i64 base),.d (.int .i64 bits)],⟨[],[],0⟩=>∃gh:Bool,((l.all (YR gh)=true/\l.length<4294967281)/\base=(if gh then 16 else 10)/\bits=(if gh then 64 else 63)) /\
   ((l=[]\/(if gh then 18446744073709551616 else 9223372036854775808)<=YY (if gh then 16 else 10) l)->∀n,K (.ret (.tuple [.d (.int .u64 n),.iface 363 .undef])) ⟨[],[],0⟩) /\
   (¬(l=[]\/(if gh then 18446744073709551616 else 9223372036854775808)<=YY (if gh then 16 else 10) l)->K (.ret (.tuple [.d (.int .u64 (YY (if gh then 16 else 10) l)),.d .nili])) ⟨[],[],0⟩)
 | _,_=>False
def VJ:Zm:=fun args σ K=>match args,σ with
 | [.ptr 0 0,.d (.int .u8 c)],⟨[.cells t [p,.sl 0 e rows]],[0],1⟩=>((p=.d .nilp\/p=.ptr 0 0)/\t=117/\e=5/\(∀r∈rows,r.length=1)/\rows.length<70368744177664) /\
   K (.ret (.d .nili)) ⟨[.cells t [.ptr 0 0,.sl 0 e (rows++[[.int .u8 c]])]],[0],1⟩
 | _,_=>False
def VK:Zm:=fun args σ K=>match args,σ with
 | [.ptr 0 0,.d (.int .i32 c)],⟨[.cells t [p,.sl 0 e rows]],[0],1⟩=>((p=.d .nilp\/p=.ptr 0 0)/\t=117/\e=5/\(∀r∈rows,r.length=1)/\rows.length<70368744177664/\0<=c/\c<=1114111) /\
   K (.ret (.tuple [.d (.int .i64 (((rows++Zg (Lib.encodeRune c)).length:Int) - (rows.length:Int))),.d .nili])) ⟨[.cells t [.ptr 0 0,.sl 0 e (rows++Zg (Lib.encodeRune c))]],[0],1⟩
 | _,_=>False
def Zcu:Zm:=fun args σ K=>match args,σ with
 | [.ptr 0 0],⟨[.cells t [p,.sl 0 e rows]],[0],1⟩=>∃l:Bs,(rows=Zg l/\t=117/\e=5/\(p=.d .nilp\/p=.ptr 0 0)/\l.length<70368744177664)/\K (.ret (.d (.str l))) ⟨[.cells t [p,.d (.sl rows)]],[],0⟩
 | _,_=>False
def Zdk (s:Bs) (c:Int):Int:=if c<128 then Lib.indexByte s c.toNat.toUInt8 else -1
def Wz:Zm:=fun args σ K=>match args,σ with
 | [.d (.str s),.d (.int .i32 c)],⟨[],[],0⟩=>((s=[110,116,34,92]\/s=[10,9,34,92])/\0<=c/\c<=1114111)/\K (.ret (.d (.int .i64 (Zdk s c)))) ⟨[],[],0⟩
 | _,_=>False
def Zcv:Zm:=fun args σ K=>match args,σ with
 | [.ptr 0 0],⟨[.cells t [.d (.str s),.d (.int .i64 a)]],[],0⟩=>(0<=a/\a<s.length/\s.length<4294967281) /\
   K (.ret (ZBX (XW a.toNat (s.drop a.toNat)))) ⟨[.cells t [.d (.str s),.d (.int .i64 a)]],[],0⟩
 | _,_=>False
def ZkT:Zm:=fun args σ K=>match args,σ with
 | [.ptr 0 0],⟨[.cells t [.d (.str s),.d (.int .i64 a)]],[],0⟩=>(0<=a/\a<s.length/\s.length<4294967281) /\
   K (.ret (ZBX (Zce a.toNat (s.drop a.toNat)))) ⟨[.cells t [.d (.str s),.d (.int .i64 a)]],[],0⟩
 | _,_=>False
def Zfl:Zm:=fun args σ K=>match args,σ with
 | [.ptr 0 0,.d (.bool room)],⟨[.cells t [.d (.str s),.d (.int .i64 a)]],[],0⟩=>(0<=a/\a<s.length/\s.length<4294967281) /\
   K (.ret (ZBX (Xd a.toNat (s.drop a.toNat) room))) ⟨[.cells t [.d (.str s),.d (.int .i64 a)]],[],0⟩
 | _,_=>False
def Zjs:ZL Zfl:=fun args σ K K' hK h=>by
 unfold Zfl at h |-;split at h <;> first | exact ⟨h.1,hK _ _ h.2⟩ | exact h.elim
end Go.PM.Lex
end
end

section
namespace Go.PM.Lex
open Go.Proofs
variable {w0:World} {nG:Nat}
def orU (n:Fin 256):Zh .or .u8 (n.val:Int) 32=((n.val ||| 32:Nat):Int):=by rw [Yb];revert n;decide +kernel
def orH:∀n:Fin 256,(97<=(n.val ||| 32)/\(n.val ||| 32)<=102)↔((97<=n.val/\n.val<=102)\/(65<=n.val/\n.val<=70)):=by decide +kernel
def Zzk (b:UInt8):(97<=Zh .or .u8 (b.toNat:Int) 32/\Zh .or .u8 (b.toNat:Int) 32<=102)↔((97<=b.toNat/\b.toNat<=102)\/(65<=b.toNat/\b.toNat<=70)):=by
 have h2:=orU ⟨b.toNat,b.toNat_lt⟩;have h3:=orH ⟨b.toNat,b.toNat_lt⟩;simp only at h2 h3;rw [h2];omega
def W8 (p:UInt8->Bool):∀l:Bs,l.takeWhile p=l.take (l.takeWhile p).length
 | []=>rfl
 | x::l=>by
  by_cases h:p x=true
  ·simp only [Sy,h,if_true,Td,List.take_succ_cons];rw [<- W8 p l]
  simp [Sy,h]
def Wc (p:UInt8->Bool):∀l:Bs,(l.takeWhile p).all p=true
 | []=>rfl
 | x::l=>by
  by_cases h:p x=true
  ·simp only [Sy,h,if_true,List.all_cons,Wc p l,Bool.and_self]
  simp [Sy,h]
def XQ (p:UInt8->Bool) (l:Bs):(l.takeWhile p).length<=l.length:=List.Sublist.length_le (List.takeWhile_sublist p)
def Zou {s:Bs} {e:Nat} (h:e<s.length):s.drop e=s.getD e 0::s.drop (e+1):=by
 rw [Tl h];simp [List.getD,h]
def Zow:OKw w0 nG [(229,Xx),(230,Wy),(294,JH),(187,ZbV),(188,US)] 276 Zcv:=by
 refine pwo Tryz.func276 fun args σ K h=>?_
 unfold Zcv at h
 split at h
 ·rename_i t s a
  obtain ⟨⟨h0,h1,hs⟩,h⟩:=h;obtain ⟨a,rfl⟩:∃n:Nat,a=n:=⟨a.toNat,oM⟩
  simp only [Ti] at h;refine pwu [(5,⟨[5],[0,2,3,4,6],fun vs σ=>σ=⟨[.cells t [.d (.str s),.d (.int .i64 a)],.cells 186 [.d (.int .u8 0),.d (.str []),.d (.int .i64 0),.d (.int .i64 0),.d (.int .i64 0)],.cells 276 [.d (.int .i64 0),.d (.int .i64 0)]],[],0⟩ /\
   ∃e:Nat,vs=[.d (.int .i64 e)]/\a+(if YG (s.drop a) then 2 else 0)<=e/\e<=s.length/\e - (a+(if YG (s.drop a) then 2 else 0))+((s.drop e).takeWhile (YR (YG (s.drop a)))).length=(Zc (s.drop a)).length,muI s.length⟩)] 1 false ?_
  have ct:ZI (s.drop a)=none->K (.ret (.tuple [WQ 0 [] 0 0 0,ZhT a 142])) ⟨[.cells t [.d (.str s),.d (.int .i64 a)]],[],0⟩:=fun g=>by
   have e1:XW a (s.drop a)=.bad a 142:=by rw [XW,g]
   rw [e1] at h;exact h
  have cz:∀n:Nat,ZI (s.drop a)=some n->K (.ret (.tuple [WQ 2 [] (IntKind.i64.wrap n) a ((a+Zu (s.drop a):Nat):Int),ZhT 0 0])) ⟨[.cells t [.d (.str s),.d (.int .i64 a)]],[],0⟩:=fun n g=>by
   have e1:XW a (s.drop a)=.tok ⟨2,[],IntKind.i64.wrap n,a,a+Zu (s.drop a)⟩:=by rw [XW,g]
   rw [e1] at h;exact h
  conv=>whnf
  refine ⟨oM,oM,wN ?_⟩;rw [Uo];refine ZEz (fun hx=>?_) (fun hx=>?_)
  ·have f5:YG (s.drop a)=true:=hx;simp only [f5,if_true,Tt,if_false];have im:Zc (s.drop a)=(s.drop (a+2)).takeWhile (YR true):=by simp [Zc,f5,TC]
   have qb:Zu (s.drop a)=2+(Zc (s.drop a)).length:=by simp [Zu,f5]
   have dl:=(Zv hx).1;rw [Tu] at dl;(conv=>whnf);refine Zj ?_;refine ⟨⟨rfl,(a+2),rfl,oM,oM,by rw [im];simp⟩,?_⟩;intro vs σ1 hI
   obtain ⟨rfl,e,rfl,vt,oe,hn⟩:=hI;have gg:∀(g:((s.drop e).takeWhile (YR true)).length=0),e=a+Zu (s.drop a)/\Zc (s.drop a)=cut s (a+2) e:=fun g=>by
    rw [g] at hn;refine ⟨oM,?_⟩;rw [Xy,show e - (a+2)=(Zc (s.drop a)).length by omega,im];exact W8 _ _
   have cd:(Zc (s.drop a)).all (YR true)=true:=by rw [im];exact Wc _ _
   have zh:(Zc (s.drop a)).length<=s.length:=by
    rw [im];have:=XQ (YR true) (s.drop (a+2));rw [Tu] at this;omega
   conv=>whnf
   refine ZEw (fun h2=>wN ?_) (fun h2=>wN ?_)
   ·have bz:e<s.length:=by omega
    have io:=Zou bz;have hb:=(s.getD e 0).toNat_lt;have bi:YR true (s.getD e 0)=true->e+1 - (a+2)+((s.drop (e+1)).takeWhile (YR true)).length=(Zc (s.drop a)).length:=fun g=>by
     rw [<- hn,io,Sy,Th g,Td];omega
    have m9:YR true (s.getD e 0)=false->((s.drop e).takeWhile (YR true)).length=0:=fun g=>by
     rw [io,Sy,Tf (by rw [g];simp)];rfl
    refine ⟨oM,oM,wN ?_⟩;refine Or.inl ⟨InR.i32 oM tN,wN ?_⟩;refine ZEz (fun h3=>wN ?_) (fun h3=>wN ?_)
    ·exact mq80
    have dg:Zf ((s.getD e 0).toNat:Int)=false:=h3;have hoh:=Zzk (s.getD e 0);refine ZEw (fun h4=>wN ?_) (fun h4=>wN ?_)
    ·refine ZEw (fun h5=>wN ?_) (fun h5=>wN ?_)
     ·have hd:YR true (s.getD e 0)=true:=by
       have:=hoh.1 ⟨h4,h5⟩;simp only [YR,dg,SL,TX,TQ];omega
      refine Zj ?_;refine ⟨⟨rfl,e+1,rfl,oM,oM,bi hd⟩,?_⟩;exact mq189
     have hd:YR true (s.getD e 0)=false:=by
      have:¬((97<=(s.getD e 0).toNat/\(s.getD e 0).toNat<=102)\/(65<=(s.getD e 0).toNat/\(s.getD e 0).toNat<=70)):=fun g=>h5 (hoh.2 g).2
      simp only [YR,dg,SL,TX,decide_eq_false_iff_not];exact this
     have hst:=gg (m9 hd);exact mq2
    have hd:YR true (s.getD e 0)=false:=by
     have:¬((97<=(s.getD e 0).toNat/\(s.getD e 0).toNat<=102)\/(65<=(s.getD e 0).toNat/\(s.getD e 0).toNat<=70)):=fun g=>h4 (hoh.2 g).1
     simp only [YR,dg,SL,TX,decide_eq_false_iff_not];exact this
    have hst:=gg (m9 hd);exact mq2
   have ey:((s.drop e).takeWhile (YR true)).length=0:=by rw [Tr oM];rfl
   have hst:=gg (ey);exact mq2
  have f5:YG (s.drop a)=false:=hx;simp only [f5,if_true,Tt,if_false];have im:Zc (s.drop a)=(s.drop (a+0)).takeWhile (YR false):=by simp [Zc,f5,TC]
  have qb:Zu (s.drop a)=0+(Zc (s.drop a)).length:=by simp [Zu,f5]
  conv=>whnf
  refine ⟨⟨rfl,a,rfl,oM,oM,by rw [im];simp⟩,?_⟩;intro vs σ1 hI
  obtain ⟨rfl,e,rfl,vt,oe,hn⟩:=hI;have gg:∀(g:((s.drop e).takeWhile (YR false)).length=0),e=a+Zu (s.drop a)/\Zc (s.drop a)=cut s (a+0) e:=fun g=>by
   rw [g] at hn;refine ⟨oM,?_⟩;rw [Xy,show e - (a+0)=(Zc (s.drop a)).length by omega,im];exact W8 _ _
  have cd:(Zc (s.drop a)).all (YR false)=true:=by rw [im];exact Wc _ _
  have zh:(Zc (s.drop a)).length<=s.length:=by
   rw [im];have:=XQ (YR false) (s.drop (a+0));rw [Tu] at this;omega
  conv=>whnf
  refine ZEw (fun h2=>wN ?_) (fun h2=>wN ?_)
  ·have bz:e<s.length:=by omega
   have io:=Zou bz;have hb:=(s.getD e 0).toNat_lt;have bi:YR false (s.getD e 0)=true->e+1 - (a+0)+((s.drop (e+1)).takeWhile (YR false)).length=(Zc (s.drop a)).length:=fun g=>by
    rw [<- hn,io,Sy,Th g,Td];omega
   have m9:YR false (s.getD e 0)=false->((s.drop e).takeWhile (YR false)).length=0:=fun g=>by
    rw [io,Sy,Tf (by rw [g];simp)];rfl
   refine ⟨oM,oM,wN ?_⟩;refine Or.inl ⟨InR.i32 oM tN,wN ?_⟩;refine ZEz (fun h3=>wN ?_) (fun h3=>wN ?_)
   ·exact mq80
   have dg:Zf ((s.getD e 0).toNat:Int)=false:=h3;have hd:YR false (s.getD e 0)=false:=by simp only [YR,dg,TT,So]
   have hst:=gg (m9 hd);(conv=>whnf);exact mq5
  have ey:((s.drop e).takeWhile (YR false)).length=0:=by rw [Tr oM];rfl
  have hst:=gg (ey);exact mq5
 exact h.elim
def Zbg (r:Bs):(Lib.decodeL r).1<=1114111/\1<=(Lib.decodeL r).2/\(Lib.decodeL r).2<=4:=by
 exact mq64
def Zjt (c:Int):(Lib.encodeRune c).length<=4:=by
 unfold Lib.encodeRune Lib.encodeRuneZ
 rw [Te]
 repeat' split
 all_goals simp
def Up {n k:Nat} (h:n<128) (hk:k<128) (ai:n≠k):(n:Int).toNat.toUInt8≠UInt8.ofNat k:=by
 intro h1
 have h2:=congrArg UInt8.toNat h1;simp [UInt8.toNat_ofNat'] at h2;omega
def ZkU {n:Nat} (h:ZiU n=none):Zdk [110,116,34,92] n=-1:=by
 unfold ZiU at h
 split at h;· cases h
 split at h;· cases h
 split at h;· cases h
 split at h;· cases h
 rename_i h1 h2 h3 h4
 unfold Zdk
 split
 ·rename_i h5
  have hc:([110,116,34,92]:Bs).contains ((n:Int).toNat.toUInt8)=false:=by
   have b1:=Up (n:=n) (k:=110) oM oM h1;have b2:=Up (n:=n) (k:=116) oM oM h2;exact mq107
  rw [Lib.contains_iff_indexByte,decide_eq_false_iff_not] at hc;have:=Lib.indexByte_ge [110,116,34,92] ((n:Int).toNat.toUInt8);omega
 rfl
def ZkV {n:Nat} {b:UInt8} (h:ZiU n=some b):(Zdk [110,116,34,92] n=0/\b=10)\/(Zdk [110,116,34,92] n=1/\b=9)\/(Zdk [110,116,34,92] n=2/\b=34)\/(Zdk [110,116,34,92] n=3/\b=92):=by
 unfold ZiU at h
 exact mq61
def VL (l:Bs) (b:UInt8):Zg (l++[b])=Zg l++[[.int .u8 b.toNat]]:=by simp [Zg]
def Wj (l m:Bs):Zg (l++m)=Zg l++Zg m:=by simp [Zg]
def Zbh (l:Bs):∀r∈Zg l,r.length=1:=by
 intro r hr
 simp only [Zg,Ss] at hr;obtain ⟨b,_,rfl⟩:=hr;rfl
def Xz (l:Bs):(Zg l).length=l.length:=by simp [Zg]
def ZDz (B:Nat):List PV->St->Nat:=fun _ σ=>match σ.bx with | [_,_,_,_,.iter _ p]=>B - p | _=>0
def Zvj:OKw w0 nG [(234,Wz),(233,VJ),(187,ZbV),(235,VK),(47,Zcu)] 275 ZkT:=by
 refine pwo Tryz.func275 fun args σ K h=>?_
 unfold ZkT at h
 split at h
 ·rename_i t s a
  obtain ⟨⟨h0,h1,hs⟩,h⟩:=h;obtain ⟨a,rfl⟩:∃n:Nat,a=n:=⟨a.toNat,oM⟩
  simp only [Ti] at h;obtain ⟨u,hu⟩:∃u,u=s.drop (a+1):=⟨_,rfl⟩
  have yd:u.length=s.length - (a+1):=by rw [hu,Tu]
  refine pwu [(4,⟨[5],[0,2,3,4,22],fun vs σ=>∃(esc:Bool) (l:Bs) (i f:Nat) (p:PV),vs=[.d (.bool esc)] /\
   σ=⟨[.cells t [.d (.str s),.d (.int .i64 a)],.cells 186 [.d (.int .u8 0),.d (.str []),.d (.int .i64 0),.d (.int .i64 0),.d (.int .i64 0)],.cells 276 [.d (.int .i64 0),.d (.int .i64 0)],.cells 117 [p,.sl 0 5 (Zg l)],.iter u i],[0],1⟩ /\
   (p=.d .nilp\/p=.ptr 3 0)/\(i<=u.length/\u.length<i+f/\l.length<=4 * i)/\ZH f (u.drop i) esc l (1+i)=Y3 (s.drop a),ZDz u.length⟩)] 1 false ?_
  have ct:∀n:Nat,Y3 (s.drop a)=.err n->K (.ret (.tuple [WQ 0 [] 0 0 0,ZhT ((a+n:Nat):Int) 141])) ⟨[.cells t [.d (.str s),.d (.int .i64 a)]],[],0⟩:=fun n g=>by
   have e1:Zce a (s.drop a)=.bad (a+n) 141:=by rw [Zce,g]
   rw [e1] at h;exact h
  have cz:∀(l:Bs) (n:Nat),Y3 (s.drop a)=.ok l n->K (.ret (.tuple [WQ 3 l 0 a ((a+n:Nat):Int),ZhT 0 0])) ⟨[.cells t [.d (.str s),.d (.int .i64 a)]],[],0⟩:=fun l n g=>by
   have e1:Zce a (s.drop a)=.tok ⟨3,l,0,a,a+n⟩:=by rw [Zce,g]
   rw [e1] at h;exact h
  have iu:((a:Int)+1).toNat=a+1:=oM;(conv=>whnf);refine Zj ?_;refine ⟨oM,oM,wN ?_⟩;rw [Uo,iu,<- hu];refine ⟨⟨false,[],0,(s.drop a).length+1,.d .nilp,rfl,rfl,.inl rfl,⟨oM,hD,sM⟩,?_⟩,?_⟩
  ·rw [Y3,TC,<- hu];rfl
  intro vs σ1 hI
  obtain ⟨esc,l,i,f,p,rfl,rfl,hp,⟨yk,ac,eu⟩,fk⟩:=hI;obtain ⟨f,rfl⟩:∃g,f=g+1:=⟨f - 1,oM⟩
  have bu:=Zbh l;have cp:=Xz l;have bl:=Zdh u i;have io:=Zbg (u.drop i);have je:=Lib.decodeL_le (u.drop i);rw [Tu] at je
  cases esc with
  | true =>
   rcases hp with rfl | rfl
   ·conv=>whnf
    refine ZEw (fun h2=>wN ?_) (fun h2=>wN ?_)
    ·have ai:u.drop i≠[]:=fun g=>by have:=congrArg List.length g;rw [Tu] at this;simp at this;omega
     refine Zj ?_;refine Zj ?_;refine ⟨⟨.inl rfl,oM,by rw [bl];omega⟩,wN ?_⟩;generalize hk:Zdk _ _=k;have my:Zdk [110,116,34,92] ((Lib.decodeL (u.drop i)).1:Int)=k:=by rw [<- bl];exact hk
     cases hE:ZiU (Lib.decodeL (u.drop i)).1 with
     | none =>
      exact mq75
     | some b =>
     have g1:Y3 (s.drop a)=ZH f (u.drop (i+(decodeL u i).2)) false (l++[b]) (1+(i+(decodeL u i).2)):=by rw [<- fk,bl];simp [ZH,ai,hE,TC,Sk]
     have g3:i+(decodeL u i).2<=u.length:=by rw [bl];have:=je ai;omega
     have qz:1<=(decodeL u i).2:=by rw [bl];omega
     rcases ZkV hE with ⟨e1,rfl⟩ | ⟨e1,rfl⟩ | ⟨e1,rfl⟩ | ⟨e1,rfl⟩
     all_goals (rw [e1] at my;subst my)
     all_goals (conv=>whnf)
     all_goals (refine ⟨oM,by first | omega | (simp;done) | (simp;omega),?_⟩)
     all_goals (conv=>whnf)
     all_goals (refine ⟨⟨.inl rfl,rfl,rfl,bu,oM⟩,?_⟩)
     all_goals (conv=>whnf)
     all_goals (refine ⟨⟨false,_,_,f,_,rfl,?_,.inr rfl,⟨g3,oM,?_⟩,g1.symm⟩,?_⟩)
     all_goals (first | (rw [VL];rfl) | (rw [Ta];simp;omega) | exact (show u.length - (i+(decodeL u i).2)<u.length - i by omega))
    exact mq42
   conv=>whnf
   refine ZEw (fun h2=>wN ?_) (fun h2=>wN ?_)
   ·have ai:u.drop i≠[]:=fun g=>by have:=congrArg List.length g;rw [Tu] at this;simp at this;omega
    refine Zj ?_;refine Zj ?_;refine ⟨⟨.inl rfl,oM,by rw [bl];omega⟩,wN ?_⟩;generalize hk:Zdk _ _=k;have my:Zdk [110,116,34,92] ((Lib.decodeL (u.drop i)).1:Int)=k:=by rw [<- bl];exact hk
    cases hE:ZiU (Lib.decodeL (u.drop i)).1 with
    | none =>
     exact mq75
    | some b =>
    have g1:Y3 (s.drop a)=ZH f (u.drop (i+(decodeL u i).2)) false (l++[b]) (1+(i+(decodeL u i).2)):=by rw [<- fk,bl];simp [ZH,ai,hE,TC,Sk]
    have g3:i+(decodeL u i).2<=u.length:=by rw [bl];have:=je ai;omega
    have qz:1<=(decodeL u i).2:=by rw [bl];omega
    rcases ZkV hE with ⟨e1,rfl⟩ | ⟨e1,rfl⟩ | ⟨e1,rfl⟩ | ⟨e1,rfl⟩
    all_goals (rw [e1] at my;subst my)
    all_goals (conv=>whnf)
    all_goals (refine ⟨oM,by first | omega | (simp;done) | (simp;omega),?_⟩)
    all_goals (conv=>whnf)
    all_goals (refine ⟨⟨.inr rfl,rfl,rfl,bu,oM⟩,?_⟩)
    all_goals (conv=>whnf)
    all_goals (refine ⟨⟨false,_,_,f,_,rfl,?_,.inr rfl,⟨g3,oM,?_⟩,g1.symm⟩,?_⟩)
    all_goals (first | (rw [VL];rfl) | (rw [Ta];simp;omega) | exact (show u.length - (i+(decodeL u i).2)<u.length - i by omega))
   exact mq42
  | false =>
  rcases hp with rfl | rfl
  ·conv=>whnf
   refine ZEw (fun h2=>wN ?_) (fun h2=>wN ?_)
   ·have ai:u.drop i≠[]:=fun g=>by have:=congrArg List.length g;rw [Tu] at this;simp at this;omega
    have g3:i+(decodeL u i).2<=u.length:=by rw [bl];have:=je ai;omega
    have qz:1<=(decodeL u i).2:=by rw [bl];omega
    have ql:((a:Int)+1+(i:Int)).toNat=a+1+i:=oM;have w8:s.drop (a+1+i)=u.drop i:=by rw [hu,TC]
    refine Zj ?_;refine Zj ?_;refine ⟨⟨oM,oM⟩,wN ?_⟩;refine ZEw (fun h3=>wN ?_) (fun h3=>wN ?_)
    ·have dg:(Lib.decodeL (u.drop i)).1=34:=by rw [bl] at h3;omega
     have g1:Y3 (s.drop a)=.ok l (1+i+1):=by rw [<- fk];simp [ZH,ai,dg]
     refine Zj ?_;refine ⟨l,⟨rfl,rfl,rfl,.inl rfl,oM⟩,wN ?_⟩;exact mq108
    have dg:¬(Lib.decodeL (u.drop i)).1=34:=by rw [bl] at h3;omega
    refine ZEw (fun h4=>wN ?_) (fun h4=>wN ?_)
    ·have gq:(Lib.decodeL (u.drop i)).1=92:=by rw [bl] at h4;omega
     have g1:Y3 (s.drop a)=ZH f (u.drop (i+(decodeL u i).2)) true l (1+(i+(decodeL u i).2)):=by rw [<- fk,bl];simp [ZH,ai,dg,gq,TC,Sk]
     refine ⟨⟨true,_,_,f,_,rfl,rfl,.inl rfl,⟨g3,oM,oM⟩,g1.symm⟩,?_⟩;exact mq203
    have gq:¬(Lib.decodeL (u.drop i)).1=92:=by rw [bl] at h4;omega
    refine ZEw (fun h5=>wN ?_) (fun h5=>wN ?_)
    ·exact mq81
    have fe:¬(pk (u.drop i)).1<32:=by rw [ql,w8] at h5;exact h5
    have g1:Y3 (s.drop a)=ZH f (u.drop (i+(decodeL u i).2)) false (l++Lib.encodeRune ((decodeL u i).1:Int)) (1+(i+(decodeL u i).2)):=by rw [<- fk,bl];simp [ZH,ai,dg,gq,fe,TC,Sk]
    have hen:=Zjt ((decodeL u i).1:Int);refine ⟨⟨.inl rfl,rfl,rfl,bu,oM,oM,by rw [bl];omega⟩,wN ?_⟩;exact mq106
   exact mq42
  conv=>whnf
  refine ZEw (fun h2=>wN ?_) (fun h2=>wN ?_)
  ·have ai:u.drop i≠[]:=fun g=>by have:=congrArg List.length g;rw [Tu] at this;simp at this;omega
   have g3:i+(decodeL u i).2<=u.length:=by rw [bl];have:=je ai;omega
   have qz:1<=(decodeL u i).2:=by rw [bl];omega
   have ql:((a:Int)+1+(i:Int)).toNat=a+1+i:=oM;have w8:s.drop (a+1+i)=u.drop i:=by rw [hu,TC]
   refine Zj ?_;refine Zj ?_;refine ⟨⟨oM,oM⟩,wN ?_⟩;refine ZEw (fun h3=>wN ?_) (fun h3=>wN ?_)
   ·have dg:(Lib.decodeL (u.drop i)).1=34:=by rw [bl] at h3;omega
    have g1:Y3 (s.drop a)=.ok l (1+i+1):=by rw [<- fk];simp [ZH,ai,dg]
    refine Zj ?_;refine ⟨l,⟨rfl,rfl,rfl,.inr rfl,oM⟩,wN ?_⟩;exact mq108
   have dg:¬(Lib.decodeL (u.drop i)).1=34:=by rw [bl] at h3;omega
   refine ZEw (fun h4=>wN ?_) (fun h4=>wN ?_)
   ·have gq:(Lib.decodeL (u.drop i)).1=92:=by rw [bl] at h4;omega
    have g1:Y3 (s.drop a)=ZH f (u.drop (i+(decodeL u i).2)) true l (1+(i+(decodeL u i).2)):=by rw [<- fk,bl];simp [ZH,ai,dg,gq,TC,Sk]
    refine ⟨⟨true,_,_,f,_,rfl,rfl,.inr rfl,⟨g3,oM,oM⟩,g1.symm⟩,?_⟩;exact mq203
   have gq:¬(Lib.decodeL (u.drop i)).1=92:=by rw [bl] at h4;omega
   refine ZEw (fun h5=>wN ?_) (fun h5=>wN ?_)
   ·exact mq81
   have fe:¬(pk (u.drop i)).1<32:=by rw [ql,w8] at h5;exact h5
   have g1:Y3 (s.drop a)=ZH f (u.drop (i+(decodeL u i).2)) false (l++Lib.encodeRune ((decodeL u i).1:Int)) (1+(i+(decodeL u i).2)):=by rw [<- fk,bl];simp [ZH,ai,dg,gq,fe,TC,Sk]
   have hen:=Zjt ((decodeL u i).1:Int);refine ⟨⟨.inr rfl,rfl,rfl,bu,oM,oM,by rw [bl];omega⟩,wN ?_⟩;exact mq106
  exact mq42
 exact h.elim
def Zox (r:Bs) (h:0<r.length):Z9 r<=r.length/\Z9 r<=2:=by
 unfold Z9
 split
 ·rename_i h1
  simp only [twos,SK,List.any_nil,So,Sm] at h1;rcases h1 with h1 | h1 | h1 | h1 | h1
  all_goals (have:=(Zv h1).1;omega)
 split <;> omega
def Xh (a:Nat) (r:Bs) (room:Bool):Xd a r room=if Z9 r=0/\(pk r).1≠34/\Zd (pk r).1=false/\Zf (pk r).1=false then .bad a 140
 else if room=false then .bad a 3
 else if 0<Z9 r then .tok ⟨4,r.take (Z9 r),0,a,a+Z9 r⟩
 else if (pk r).1=34 then Zce a r
 else if Zf (pk r).1=true then XW a r
 else .tok ⟨1,r.take (Y2 r),0,a,a+Y2 r⟩:=rfl
def Zvl:OKw w0 nG [(187,ZbV),(274,ZkQ),(188,US),(230,Wy),(275,ZkT),(276,Zcv),(189,ZhU)] 243 Zfl:=by
 refine pwo Tryz.func243 fun args σ K h=>?_
 unfold Zfl at h
 split at h
 ·rename_i room t s a
  obtain ⟨⟨h0,h1,hs⟩,h⟩:=h;obtain ⟨a,rfl⟩:∃n:Nat,a=n:=⟨a.toNat,oM⟩
  simp only [Ti] at h;have qy:-1<=(pk (s.drop ((a:Int)).toNat)).1/\(pk (s.drop ((a:Int)).toNat)).1<=1114111:=X3 (s.drop a);have ei:=Zox (s.drop a) hD;rw [Tu] at ei;have ct:∀e:Nat,Xd a (s.drop a) room=.bad a e->K (.ret (.tuple [WQ 0 [] 0 0 0,ZhT a e])) ⟨[.cells t [.d (.str s),.d (.int .i64 a)]],[],0⟩:=fun e g=>by
   rw [g] at h;exact h
  have zi:∀n:Nat,Z9 (s.drop a)=n->Xd a (s.drop a) room=.tok ⟨4,(s.drop a).take n,0,a,a+n⟩->K (.ret (.tuple [WQ 4 (cut s ((a:Int)).toNat ((a:Int)+(n:Int)).toNat) 0 a ((a:Int)+(n:Int)),ZhT 0 0])) ⟨[.cells t [.d (.str s),.d (.int .i64 a)]],[],0⟩:=fun n g1 g2=>by
   rw [g2] at h;rw [Xy,show ((a:Int)+(n:Int)).toNat - ((a:Int)).toNat=n by omega];exact h
  have lm:Xd a (s.drop a) room=.tok ⟨1,(s.drop a).take (Y2 (s.drop a)),0,a,a+Y2 (s.drop a)⟩->K (.ret (.tuple [WQ 1 ((s.drop a).take (Y2 (s.drop a))) 0 a ((a:Int)+(Y2 (s.drop a):Int)),ZhT 0 0])) ⟨[.cells t [.d (.str s),.d (.int .i64 a)]],[],0⟩:=fun g=>by
   rw [g] at h;exact h
  refine pwv [] 1 false ?_;refine ⟨⟨oM,oM⟩,wN ?_⟩;refine ⟨⟨oM,oM,oM⟩,wN ?_⟩;generalize iv:(pk (s.drop ((a:Int)).toNat)).1=c at qy |-;have hc:(pk (s.drop a)).1=c:=iv;generalize ek:Z9 (s.drop ((a:Int)).toNat)=n;have hn:Z9 (s.drop a)=n:=ek;rw [hn] at ei;refine ZEw (fun h2=>?_) (fun h2=>?_)
  ·obtain rfl:n=0:=by omega
   conv=>whnf
   refine ZEy (fun h3=>wN ?_) (fun h3=>?_)
   ·refine ⟨⟨oM,oM⟩,wN ?_⟩;refine ZEz (fun h4=>wN ?_) (fun h4=>?_)
    ·have gq:Zd c=false:=by simpa using h4
     refine ZEz (fun h5=>wN ?_) (fun h5=>?_)
     ·have fe:Zf c=false:=by simpa using h5
      (try (refine ⟨rfl,?_⟩;conv=>whnf))
      (try (refine ⟨rfl,?_⟩;conv=>whnf))
      exact ct 140 (by rw [Xh,hn,hc,Th ⟨rfl,h3,gq,fe⟩])
     have fe:Zf c=true:=by simpa using h5
     have jp:¬(0=0/\c≠34/\Zd c=false/\Zf c=false):=fun g=>by rw [fe] at g;simp at g
     cases room with
     | false =>
      exact mq49
     | true =>
     conv=>whnf
     refine ZEw (fun h6=>?_) (fun h6=>wN ?_)
     ·exact absurd h6 (by simpa using h3)
     refine ZEz (fun h7=>wN ?_) (fun h7=>?_)
     ·refine ⟨⟨oM,oM,oM⟩,wN ?_⟩;have g:Xd a (s.drop a) true=XW a (s.drop a):=by
       rw [Xh,hn,hc,Tf jp,Tf sM,Tf oM,Tf h3,Th fe]
      rw [g] at h;exact h
     rw [fe] at h7;cases h7
    have gq:Zd c=true:=by simpa using h4
    have fe:Zf c=false:=by
     have ag8:(c=95\/128<=c\/(97<=c/\c<=122)\/(65<=c/\c<=90)):=by simpa [Zd] using gq
     simp only [Zf,decide_eq_false_iff_not];omega
    have jp:¬(0=0/\c≠34/\Zd c=false/\Zf c=false):=fun g=>by rw [gq] at g;simp at g
    cases room with
    | false =>
     exact mq49
    | true =>
    conv=>whnf
    refine ZEw (fun h6=>?_) (fun h6=>wN ?_)
    ·exact absurd h6 (by simpa using h3)
    refine ZEz (fun h7=>?_) (fun h7=>wN ?_)
    ·rw [fe] at h7;cases h7
    refine ⟨⟨oM,oM,oM⟩,wN ?_⟩;exact lm (by rw [Xh,hn,hc,Tf jp,Tf sM,Tf oM,Tf h3,Tf (by rw [fe];simp)])
   obtain rfl:c=34:=h3;have jp:¬(0=0/\(34:Int)≠34/\Zd 34=false/\Zf 34=false):=fun g=>g.2.1 rfl
   cases room with
   | false =>
    exact mq49
   | true =>
   conv=>whnf
   refine ⟨⟨oM,oM,oM⟩,wN ?_⟩;have g:Xd a (s.drop a) true=Zce a (s.drop a):=by
    rw [Xh,hn,hc,Tf jp,Tf sM,Tf oM,Th rfl]
   rw [g] at h;exact h
  have jp:¬(n=0/\c≠34/\Zd c=false/\Zf c=false):=fun g=>by omega
  cases room with
  | false =>
   exact mq49
  | true =>
  conv=>whnf
  refine ZEw (fun h6=>wN ?_) (fun h6=>?_)
  ·refine Zj ?_;refine ⟨oM,oM,oM,wN ?_⟩;refine Zj ?_
   (try (refine ⟨rfl,?_⟩;conv=>whnf))
   (try (refine ⟨rfl,?_⟩;conv=>whnf))
   exact zi n hn (by rw [Xh,hn,hc,Tf jp,Tf sM,Th oM])
  omega
 exact h.elim
def ZkW (r:Bs) (h0:0<=(pk r).1) (h:(pk r).1<128):0<r.length/\(pk r).1=((r.getD 0 0).toNat:Int)/\(pk r).2=1:=by
 unfold pk at h h0 |-
 split at h
 ·rename_i g;rw [Th g] at h0;simp at h0
 rename_i g
 simp only [not_or] at g;rw [Tf (by simp only [not_or];exact g)] at h0 |-;have hl:0<r.length:=List.length_pos_iff.2 g.1;refine ⟨hl,?_⟩;rw [Lib.decodeL_N] at h |-;rcases Lib.decodeN_shape r.length (r.getD 0 0).toNat (r.getD 1 0).toNat (r.getD 2 0).toNat (r.getD 3 0).toNat with ⟨c,e⟩ | ⟨c1,c2,c3,cv,e⟩ | ⟨c1,c2,c3,c4,cv,cs,e⟩ | ⟨c1,c2,c3,c4,c5,cv,cw,e⟩ | e
 ·rw [e];exact ⟨rfl,rfl⟩
 all_goals (rw [e] at h;dsimp only at h;omega)
def ZhW {c:Int}:Zd c=true↔(c=95\/128<=c\/(97<=c/\c<=122)\/(65<=c/\c<=90)):=by simp [Zd]
def isDigit_iff {c:Int}:Zf c=true↔(48<=c/\c<=57):=by simp [Zf]
def ZhX:∀(f:Nat) (r:Bs),Yk f r<=r.length
 | 0,r=>Se _
 | f+1,r=>by
  have ih:=ZhX f (r.drop (pk r).2);rw [Tu] at ih;have hl:(pk r).1≠-1->(pk r).2<=r.length:=fun h=>(ZrO r h).2.1
  unfold Yk
  split
  ·rename_i h;have:=hl oM;split <;> omega
  split
  ·rename_i h
   have:=hl (fun h1=>by rw [h1,WZ,JG] at h;simp at h);omega
  omega
def Zoy (r:Bs) (h:Zd (pk r).1=true):1<=Y2 r/\Y2 r<=r.length:=by
 refine ⟨?_,ZhX _ _⟩;have:=ZkS r;have sk:¬(pk r).1=46:=fun g=>by rw [g] at h;revert h;decide
 rw [Y2,Zdj sk (.inl h)];omega
def UT:∀(f:Nat) (r:Bs) (esc:Bool) (acc:Bs) (p:Nat) (t:Bs) (l:Nat),ZH f r esc acc p=.ok t l->p<l/\l<=p+r.length
 | 0,r,esc,acc,p,t,l,h=>by simp [ZH] at h
 | f+1,r,esc,acc,p,t,l,h=>by
  unfold ZH at h
  split at h
  ·cases h
  rename_i ai
  have hd:=Lib.decodeL_le r ai;have hr:=Zbg r;split at h
  ·split at h
   ·cases h
   have:=UT f _ _ _ _ _ _ h;rw [Tu] at this;omega
  split at h
  ·cases h;have:=List.length_pos_iff.2 ai;omega
  split at h
  ·have:=UT f _ _ _ _ _ _ h;rw [Tu] at this;omega
  split at h
  ·cases h
  have:=UT f _ _ _ _ _ _ h;rw [Tu] at this;omega
def Zoz (r:Bs):Zu r<=r.length:=by
 unfold Zu Zc
 have:=XQ (YR (YG r)) (r.drop (if YG r then 2 else 0));rw [Tu] at this
 by_cases h:YG r=true
 ·have:=(Zv h).1;simp only [h,if_true] at *;omega
 simp only [h,Tt,if_false] at *;omega
def Zdl {a:Nat} {r:Bs} {room:Bool} {t:Tok} (h0:0<r.length) (h:Xd a r room=.tok t):t.at'=a/\a<t.fin/\t.fin<=a+r.length:=by
 rw [Xh] at h;split at h
 ·cases h
 rename_i g0
 split at h
 ·cases h
 split at h
 ·cases h;rename_i g1;have:=Zox r h0;exact ⟨rfl,by simp only;omega,by simp only;omega⟩
 rename_i g1
 split at h
 ·unfold Zce at h
  split at h
  ·cases h
  rename_i t' l hx
  cases h
  have:=UT _ _ _ _ _ _ _ hx;rw [Tu] at this;exact ⟨rfl,by simp only;omega,by simp only;omega⟩
 rename_i g2
 split at h
 ·rename_i g3
  unfold XW at h
  split at h
  ·cases h
  rename_i n hx
  cases h
  have ar:=Zoz r;refine ⟨rfl,?_,by simp only;omega⟩;simp only;have ai:Zc r≠[]:=fun g=>by rw [ZI,Th g] at hx;cases hx
  have:=List.length_pos_iff.2 ai;unfold Zu;omega
 rename_i g3
 cases h
 have h4:Zd (pk r).1=true:=by
  cases hb:Zd (pk r).1 with
  | true=>rfl
  | false=>exact absurd ⟨oM,g2,hb,by simpa using g3⟩ g0
 have:=Zoy r h4;exact ⟨rfl,by simp only;omega,by simp only;omega⟩
def ZhY {a:Nat} {r:Bs} {room:Bool} {p e:Nat} (h:Xd a r room=.bad p e):e≠0/\e<=142:=by
 rw [Xh] at h
 repeat' split at h
 all_goals first | (cases h;done) | (cases h;omega) | (cases h;decide) | skip
 ·unfold Zce at h;split at h <;> cases h;decide
 unfold XW at h;split at h <;> cases h;decide
def Zaj:∀(f:Nat) (r:Bs),(Zs f r).2<=r.length
 | 0,r=>Se _
 | f+1,r=>by
  have hdw:=W0 (([32,9,13,10]:Bs).contains ·) r
  obtain ⟨rest,au⟩:∃x,x=Lib.trimLeftS r [32,9,13,10]:=⟨_,rfl⟩
  have dz:rest.length<=r.length:=by rw [au];exact hdw.2
  simp only [Zs,<- au];split
  ·rename_i h1
   have ih:=fun n=>Zaj f (rest.drop n)
   have ab:=W1 10 rest;have jn:=Lib.indexByte_ge rest 10;have ih2:=ih (if Lib.indexByte rest 10<0 then rest.length else (Lib.indexByte rest 10).toNat);rw [Tu] at ih2;simp only;have:(if Lib.indexByte rest 10<0 then rest.length else (Lib.indexByte rest 10).toNat)<=rest.length:=by split <;> omega
   omega
  split
  ·rename_i h1 h2
   have hl:=(Zv h2).1;split
   ·simp only;omega
   rename_i h3
   have ar:=Zgt [42,47] (rest.drop 2) oM;simp only [Tu,Td,Tg] at ar;have ih2:=Zaj f (rest.drop ((Lib.index (rest.drop 2) [42,47]).toNat+4));rw [Tu] at ih2;simp only;omega
  simp only;omega
def Zvm {n len b0 b1 b2 b3 b1' b2' b3':Nat} (h1:1<n->b1'=b1) (h2:2<n->b2'=b2) (h3:3<n->b3'=b3) (hn:1<=n) (hd:(Lib.decodeN len b0 b1 b2 b3).2<=n) :
  Lib.decodeN (min n len) b0 b1' b2' b3'=Lib.decodeN len b0 b1 b2 b3:=by
 rcases Lib.decodeN_shape len b0 b1 b2 b3 with ⟨c,e⟩ | ⟨c1,c2,c3,cv,e⟩ | ⟨c1,c2,c3,c4,cv,cs,e⟩ | ⟨c1,c2,c3,c4,c5,cv,cw,e⟩ | e
 ·rw [e];unfold Lib.decodeN;rw [Th c]
 ·rw [e] at hd |-;simp only at hd;rw [h1 (by omega)];unfold Lib.decodeN
  rw [Tf (by omega),Th ⟨c1,by omega,c3⟩,Th (by omega)]
 ·rw [e] at hd |-;simp only at hd;rw [h1 (by omega),h2 (by omega)];unfold Lib.decodeN
  rw [Tf (by omega),Tf (by omega),Th ⟨c1,⟨by omega,c3⟩,by omega,c4⟩,Th ⟨by omega,by omega⟩]
 ·rw [e] at hd |-;simp only at hd;rw [h1 (by omega),h2 (by omega),h3 (by omega)];unfold Lib.decodeN
  rw [Tf (by omega),Tf (by omega),Tf (by omega),Th ⟨c1,⟨by omega,c3⟩,⟨by omega,c4⟩,by omega,c5⟩,Th ⟨by omega,by omega⟩]
 rw [e];rcases Lib.decodeN_shape (min n len) b0 b1' b2' b3' with ⟨c,e'⟩ | ⟨c1,c2,c3,cv,e'⟩ | ⟨c1,c2,c3,c4,cv,cs,e'⟩ | ⟨c1,c2,c3,c4,c5,cv,cw,e'⟩ | e'
 ·unfold Lib.decodeN at e;rw [Th c] at e;rw [e',<- e]
 ·rw [h1 (by omega)] at c3 cv;unfold Lib.decodeN at e
  rw [Tf (by omega),Th ⟨c1,by omega,c3⟩,Th (by omega)] at e;simp at e
 ·rw [h1 (by omega),h2 (by omega)] at *;unfold Lib.decodeN at e
  rw [Tf (by omega),Tf (by omega),Th ⟨c1,⟨by omega,c3⟩,by omega,c4⟩,Th ⟨by omega,by omega⟩] at e;simp at e
 ·rw [h1 (by omega),h2 (by omega),h3 (by omega)] at *;unfold Lib.decodeN at e
  rw [Tf (by omega),Tf (by omega),Tf (by omega),Th ⟨c1,⟨by omega,c3⟩,⟨by omega,c4⟩,by omega,c5⟩,Th ⟨by omega,by omega⟩] at e;simp at e
 exact e'
def Zak (r:Bs) (n k:Nat):(r.take n).getD k 0=if k<n then r.getD k 0 else 0:=by
 simp only [TS,SN];split <;> simp
def ZrR {r:Bs} {n:Nat} (hn:1<=n) (hd:(Lib.decodeL r).2<=n):Lib.decodeL (r.take n)=Lib.decodeL r:=by
 rw [Lib.decodeL_N] at hd |-;rw [Lib.decodeL_N,Si,Zak,Zak,Zak,Zak,Th (by omega)];exact Zvm (fun h=>by rw [Th h]) (fun h=>by rw [Th h]) (fun h=>by rw [Th h]) hn hd
def Zmy (f:Nat):Yk f []=0:=by
 cases f with
 | zero=>rfl
 | succ f=>exact Zbf (by simp [Zfj]) (by simp [Zfj];decide) (by simp [Zfj];decide)
def ZoA {c:Int} (h:Zd c=true\/Zf c=true):c≠-1:=fun h1=>by rw [h1,WZ,JG] at h;simp at h
def ZkX:Zm:=fun args σ K=>match args,σ with
 | [.d (.int .i32 c)],⟨[],[],0⟩=>K (.ret (.d (.bool (Zd c)))) ⟨[],[],0⟩
 | _,_=>False
def Zal:PC w0 nG 219 Wy:=by
 refine pwe Tryz.func219 fun args σ K h=>?_
 unfold Wy at h
 split at h
 ·rename_i c
  refine pwu [] 0 false ?_;exact mq105
 exact h.elim
def Zfm:PC w0 nG 255 ZkX:=by
 refine pwe Tryz.func255 fun args σ K h=>?_
 unfold ZkX at h
 split at h
 ·rename_i c
  refine pwu [] 0 false ?_
  repeat' ((conv=>whnf);refine ZEw (fun h1=>?_) (fun h1=>?_))
  all_goals (conv=>whnf)
  all_goals (refine ZbW h ?_;simp only [Zd,TQ,decide_eq_false_iff_not,decide_eq_decide];omega)
 exact h.elim
def Zju:Zm:=fun args σ K=>match args,σ with
 | [.d (.str s),.d (.int .i64 a),.d (.int .i64 e)],⟨[],[],0⟩=>(0<=a/\a<=e/\e<=s.length/\s.length<4294967281) /\
   (3<=e - a/\cut s a.toNat (a.toNat+3)=[239,191,189]->K (.ret (.tuple [.d (.int .i32 65533),.d (.int .i64 3)])) ⟨[],[],0⟩) /\
   (¬(3<=e - a/\cut s a.toNat (a.toNat+3)=[239,191,189])->K (.ret (.tuple [.d (.int .i32 (-1)),.d (.int .i64 1)])) ⟨[],[],0⟩)
 | _,_=>False
def ZrS:PC w0 nG 281 Zju:=by
 refine pwe Tryz.func281 fun args σ K h=>?_
 unfold Zju at h
 split at h
 ·rename_i s a e
  obtain ⟨⟨h0,h1,h2,h3⟩,hA,hB⟩:=h;refine pwv [] 0 false ?_;refine Zj ?_;refine ZEw (fun h4=>wN ?_) (fun h4=>wN ?_)
  ·refine Zj ?_;refine ⟨h0,oM,oM,wN ?_⟩;have ec:cut s a.toNat (a+3).toNat=cut s a.toNat (a.toNat+3):=by rw [show (a+3).toNat=a.toNat+3 by omega]
   refine ZEw (fun h5=>wN ?_) (fun h5=>wN ?_)
   ·exact hA ⟨h4,by rw [<- ec];exact h5⟩
   exact hB (fun g=>h5 (by rw [ec];exact g.2))
  exact hB (fun g=>h4 g.1)
 exact h.elim
def ZhZ:Zm:=fun args σ K=>match args,σ with
 | [.d (.str s),.d (.int .i64 a)],⟨[],[],0⟩=>(0<=a/\a<=s.length/\s.length<4294967281) /\
   K (.ret (.tuple [.d (.int .i32 (pk (s.drop a.toNat)).1),.d (.int .i64 (pk (s.drop a.toNat)).2)])) ⟨[],[],0⟩
 | _,_=>False
def ZrT (r:Bs) (h:(Lib.decodeL r).1≠65533):(Lib.decodeL r).2=if (Lib.decodeL r).1<128 then 1 else if (Lib.decodeL r).1<2048 then 2 else if (Lib.decodeL r).1<65536 then 3 else 4:=by
 rw [Lib.decodeL_N] at h |-;have k0:=(r.getD 0 0).toNat_lt;rcases Lib.decodeN_shape r.length (r.getD 0 0).toNat (r.getD 1 0).toNat (r.getD 2 0).toNat (r.getD 3 0).toNat with ⟨c,e⟩ | ⟨c1,c2,c3,cv,e⟩ | ⟨c1,c2,c3,c4,cv,cs,e⟩ | ⟨c1,c2,c3,c4,c5,cv,cw,e⟩ | e
 all_goals (rw [e] at h |-;dsimp only at h |-)
 ·rw [Th c]
 ·rw [Tf oM,Th oM]
 ·rw [Tf oM,Tf oM,Th oM]
 ·rw [Tf oM,Tf oM,Tf oM]
 exact absurd rfl h
def ZDA (s:Bs) (a:Nat) (h:3<=s.length - a):cut s a (a+3)=[239,191,189]↔Lib.hasPrefix (s.drop a) [239,191,189]=true:=by
 rw [Xy,Nat.add_sub_cancel_left];unfold Lib.hasPrefix
 rw [List.isPrefixOf_iff_prefix,List.prefix_iff_eq_take];exact ⟨fun g=>by rw [<- g];simp,fun g=>g.symm⟩
def ZDB (B:Nat):List PV->St->Nat:=fun _ σ=>match σ.bx with | [.iter _ p]=>B - p | _=>0
def Zvn:Tbl:=[(281,Zju)]
def Zjv:PC w0 nG 254 ZhZ:=by
 refine pwt (tbl:=Zvn) ⟨ZrS,trivial⟩ Tryz.func254 fun args σ K h=>?_
 unfold ZhZ at h
 split at h
 ·rename_i s a
  obtain ⟨⟨h0,h1,hs⟩,h⟩:=h;obtain ⟨a,rfl⟩:∃n:Nat,a=n:=⟨a.toNat,oM⟩
  simp only [Ti] at h;obtain ⟨u,hu⟩:∃u,u=(s.drop a).take 4:=⟨_,rfl⟩
  have yd:u.length=min 4 (s.length - a):=by rw [hu,Si,Tu]
  have ey:s.length≠a->decodeL u 0=Lib.decodeL (s.drop a):=fun ai=>by
   rw [Zdh,Sn,hu];exact ZrR oM (Zbg _).2.2
  have io:=Zbg (s.drop a);have je:=Lib.decodeL_le (s.drop a);rw [Tu] at je;have ada:=ZBY (s.drop a);have sm:=ZDA s a;refine pwv [(2,⟨[],[0,1,16],fun vs σ=>vs=[]/\∃p:Nat,σ=⟨[.iter u p],[],0⟩/\(p=0\/(s.length≠a/\p=(Lib.decodeL (s.drop a)).2/\(Lib.decodeL (s.drop a)).1=65533)),ZDB u.length⟩)] 0 false ?_;have so:cut s ((a:Int)).toNat (min ((a:Int)+4) (s.length:Int)).toNat=u:=by
   rw [Xy,hu]
   by_cases h4:(a:Int)+4<=s.length
   ·rw [Int.min_eq_left h4];congr 1;omega
   exact mq127
  have fin:∀e:Int,((Lib.decodeL (s.drop a)).1=65533/\s.length≠a/\(e=a+(Lib.decodeL (s.drop a)).2\/((Lib.decodeL (s.drop a)).2>=u.length/\e=a+u.length)))\/(s.length=a/\e=a) ->
    (3<=e - a/\cut s ((a:Int)).toNat (((a:Int)).toNat+3)=[239,191,189]->K (.ret (.tuple [.d (.int .i32 65533),.d (.int .i64 3)])) ⟨[],[],0⟩) /\
    (¬(3<=e - a/\cut s ((a:Int)).toNat (((a:Int)).toNat+3)=[239,191,189])->K (.ret (.tuple [.d (.int .i32 (-1)),.d (.int .i64 1)])) ⟨[],[],0⟩):=fun e he=>by
   simp only [Ti];rcases he with ⟨hv,ai,he⟩ | ⟨ai,he⟩
   ·have hl:0<(s.drop a).length:=by rw [Tu];omega
    have ag9:=je (fun g=>by rw [g] at hl;simp at hl);refine ⟨fun g=>?_,fun g=>?_⟩
    ·rw [Zot _ hl ((sm oM).1 g.2) hv] at h;exact h
    have:¬Lib.hasPrefix (s.drop a) [239,191,189]=true:=fun gp=>by
     have dx:=(ZC4 _).1 gp;rw [Tu] at dx;rcases ada hv with ⟨_,g2⟩ | ⟨g1,_⟩
     ·exact g ⟨oM,(sm oM).2 gp⟩
     exact g1 gp
    rw [Zum _ this hv] at h;exact h
   refine ⟨fun g=>oM,fun g=>?_⟩;rw [Tr oM,Zfj] at h;exact h
  refine Zj ?_;refine ⟨oM,oM,oM,wN ?_⟩;rw [so];refine ⟨⟨rfl,0,rfl,.inl rfl⟩,?_⟩;intro vs σ1 hI
  obtain ⟨rfl,p,rfl,hp⟩:=hI;(conv=>whnf);refine ZEw (fun h2=>?_) (fun h2=>wN ?_)
  ·rcases hp with rfl | ⟨mb,rfl,jq⟩
   ·have hd:=ey oM;(conv=>whnf);refine ZEy (fun h3=>?_) (fun h3=>wN ?_)
    ·have hv:(Lib.decodeL (s.drop a)).1≠65533:=by rw [hd] at h3;omega
     have i6:=ZkR (s.drop a) hD hv;have hsz:=ZrT _ hv;rw [i6] at h;rw [<- hd] at h hsz;simp only at h;generalize hc:((decodeL u 0).1:Int)=c at h |-;(conv=>whnf);refine ZEw (fun h4=>wN ?_) (fun h4=>wN ?_)
     ·rw [hsz,Th oM] at h;exact h
     refine ZEw (fun h5=>wN ?_) (fun h5=>wN ?_)
     ·rw [hsz,Tf oM,Th oM] at h;exact h
     refine ZEw (fun h6=>wN ?_) (fun h6=>wN ?_)
     ·rw [hsz,Tf oM,Tf oM,Th oM] at h;exact h
     rw [hsz,Tf oM,Tf oM,Tf oM] at h;exact h
    have hv:(Lib.decodeL (s.drop a)).1=65533:=by rw [hd] at h3;omega
    refine ⟨⟨rfl,0+(decodeL u 0).2,rfl,.inr ⟨oM,by rw [hd,T9],hv⟩⟩,?_⟩;exact (show u.length - (0+(decodeL u 0).2)<u.length - 0 by rw [hd];omega)
   have hl:=je (fun g=>by have:=congrArg List.length g;rw [Tu] at this;simp at this;omega);(conv=>whnf);refine ZEw (fun h3=>wN ?_) (fun h3=>?_)
   ·refine Zj ?_;refine ⟨⟨oM,oM,oM,hs⟩,?_⟩;obtain ⟨f1,f2⟩:=fin ((a:Int)+((Lib.decodeL (s.drop a)).2:Int)) (.inl ⟨jq,mb,.inl rfl⟩);refine ⟨fun g=>wN ?_,fun g=>wN ?_⟩
    ·exact f1 g
    exact f2 g
   omega
  refine Zj ?_;refine ⟨⟨oM,oM,oM,hs⟩,?_⟩;obtain ⟨f1,f2⟩:=fin (min ((a:Int)+4) (s.length:Int)) (by
   rcases hp with rfl | ⟨mb,rfl,jq⟩
   ·exact .inr ⟨oM,oM⟩
   exact .inl ⟨jq,mb,.inr ⟨oM,oM⟩⟩)
  refine ⟨fun g=>wN ?_,fun g=>wN ?_⟩
  ·exact f1 g
  exact f2 g
 exact h.elim
def Zbi:Zm:=fun args σ K=>match args,σ with
 | [.d (.str s),.d (.int .i64 a)],⟨[],[],0⟩=>(0<=a/\s.length<4294967281)/\K (.ret (.d (.bool (Zd (pk (s.drop a.toNat)).1)))) ⟨[],[],0⟩
 | _,_=>False
def ZrU:Tbl:=[(254,ZhZ),(255,ZkX)]
def Zcw:PC w0 nG 218 Zbi:=by
 refine pwt (tbl:=ZrU) ⟨Zjv,Zfm,trivial⟩ Tryz.func218 fun args σ K h=>?_
 unfold Zbi at h
 split at h
 ·rename_i s a
  obtain ⟨⟨h0,hs⟩,h⟩:=h;refine pwv [] 0 false ?_;refine ZEw (fun h1=>wN ?_) (fun h1=>wN ?_)
  ·rw [Tr oM,Zfj,WZ] at h;exact h
  refine ⟨⟨h0,oM,hs⟩,wN ?_⟩;exact h
 exact h.elim
def Zjw:Zm:=fun args σ K=>match args,σ with
 | [.d (.str s),.d (.int .i64 a)],⟨[],[],0⟩=>(0<=a/\a<=s.length/\s.length<4294967281/\Zd (pk (s.drop a.toNat)).1=true) /\
   K (.ret (WQ 1 (cut s a.toNat (a.toNat+Y2 (s.drop a.toNat))) 0 a (a+Y2 (s.drop a.toNat)))) ⟨[],[],0⟩
 | _,_=>False
def ZrV:Tbl:=[(254,ZhZ),(255,ZkX),(219,Wy),(218,Zbi)]
def ZrW:PC w0 nG 221 Zjw:=by
 refine pwt (tbl:=ZrV) ⟨Zjv,Zfm,Zal,Zcw,trivial⟩ Tryz.func221 fun args σ K h=>?_
 unfold Zjw at h
 split at h
 ·rename_i s a
  obtain ⟨⟨h0,h1,hs,zj⟩,h⟩:=h;obtain ⟨a,rfl⟩:∃n:Nat,a=n:=⟨a.toNat,oM⟩
  simp only [Ti] at h zj;refine pwu [(2,⟨[5],[0,1,4],fun vs σ=>σ=⟨[.cells 186 [.d (.int .u8 0),.d (.str []),.d (.int .i64 0),.d (.int .i64 0),.d (.int .i64 0)]],[],0⟩ /\
   ∃e f:Nat,a<=e/\e<=s.length/\vs=[.d (.int .i64 e)]/\s.length<e+f/\e+Yk f (s.drop e)=a+Y2 (s.drop a),muI s.length⟩)] 0 false ?_
  conv=>whnf
  refine ⟨⟨rfl,a,s.length - a+1,oM,oM,rfl,oM,by simp [Y2]⟩,?_⟩;intro vs σ1 hI
  obtain ⟨rfl,e,f,vt,oe,rfl,hf,hn⟩:=hI;obtain ⟨f,rfl⟩:∃g,f=g+1:=⟨f - 1,oM⟩
  have qy:=X3 (s.drop e);have nv:=ZrO (s.drop e);have ce:Yk (f+1) (s.drop e)=0->K (.ret (WQ 1 (cut s a e) 0 a e)) ⟨[],[],0⟩:=fun h3=>by
   have e2:a+Y2 (s.drop a)=e:=by rw [h3] at hn;omega
   have e3:(a:Int)+(Y2 (s.drop a):Int)=(e:Int):=oM;rw [e2,e3] at h;exact h
  have fk:∀n:Nat,1<=n->e+n<=s.length->Yk (f+1) (s.drop e)=n+Yk f ((s.drop e).drop n)->a<=e+n/\e+n<=s.length/\s.length<(e+n)+f/\(e+n)+Yk f (s.drop (e+n))=a+Y2 (s.drop a):=fun n h1 h2 h3=>by
   rw [TC] at h3;exact ⟨oM,h2,oM,by rw [<- hn,h3];omega⟩
  have adb:e=a->Zd (pk (s.drop e)).1=true:=fun g=>by rw [g];exact zj
  conv=>whnf
  refine ZEw (fun h2=>wN ?_) (fun h2=>wN ?_)
  ·refine ⟨⟨oM,oM,hs⟩,wN ?_⟩;generalize iv:(pk (s.drop ((e:Int)).toNat)).1=c;have hc:(pk (s.drop e)).1=c:=iv;have fin:∀(h4:Zd (pk (s.drop e)).1=true\/Zf (pk (s.drop e)).1=true),a<=e+(pk (s.drop e)).2/\e+(pk (s.drop e)).2<=s.length/\s.length<(e+(pk (s.drop e)).2)+f/\(e+(pk (s.drop e)).2)+Yk f (s.drop (e+(pk (s.drop e)).2))=a+Y2 (s.drop a)/\1<=(pk (s.drop e)).2:=fun h4=>by
    obtain ⟨g1,g2,g3⟩:=nv (ZoA h4);have g2':e+(pk (s.drop e)).2<=s.length:=by rw [Tu] at g2;omega
    have sk:¬(pk (s.drop e)).1=46:=fun g=>by rw [g] at h4;revert h4;decide
    obtain ⟨k1,k2,k3,k4⟩:=fk _ g1 g2' (Zdj sk h4);exact ⟨k1,k2,k3,k4,g1⟩
   conv=>whnf
   refine ZEz (fun h3=>wN ?_) (fun h3=>wN ?_)
   ·obtain ⟨k1,k2,k3,k4,k5⟩:=fin (.inl (by rw [hc];exact h3));exact mq198
   have dg:Zd (pk (s.drop e)).1=false:=by rw [hc];exact h3
   have hea:a<e:=by
    rcases Nat.lt_or_ge a e with g | g
    ·exact g
    have:=adb oM;rw [dg] at this;cases this
   refine ZEz (fun h4=>wN ?_) (fun h4=>wN ?_)
   ·obtain ⟨k1,k2,k3,k4,k5⟩:=fin (.inr (by rw [hc];exact h4));refine ZEw (fun h5=>wN ?_) (fun h5=>?_)
    ·exact mq198
    omega
   have gq:Zf (pk (s.drop e)).1=false:=by rw [hc];exact h4
   refine ZEw (fun h5=>wN ?_) (fun h5=>wN ?_)
   ·have sk:(pk (s.drop e)).1=46:=by rw [hc];exact h5
    have ll:=ZkW (s.drop e) oM oM;refine ZEw (fun h6=>wN ?_) (fun h6=>?_)
    ·refine Zj ?_;refine ⟨⟨oM,hs⟩,wN ?_⟩;have ed:s.drop ((e:Int)+1).toNat=(s.drop e).drop 1:=by rw [TC];congr 1
     conv=>whnf
     refine ZEz (fun h7=>wN ?_) (fun h7=>wN ?_)
     ·have zk:Zd (pk ((s.drop e).drop 1)).1=true:=by rw [<- ed];exact h7
      obtain ⟨k1,k2,k3,k4⟩:=fk 1 oM oM (by have:=Zfk (f:=f) sk zk;rw [ll.2.2] at this;exact this);refine Zj ?_;refine ⟨⟨rfl,e+1,f,k1,k2,rfl,k3,k4⟩,?_⟩;exact mq189
     have zk:Zd (pk ((s.drop e).drop 1)).1=false:=by rw [<- ed];exact h7
     refine ⟨oM,oM,oM,wN ?_⟩;exact ce (Zah sk zk)
    omega
   have sk:¬(pk (s.drop e)).1=46:=by rw [hc];exact h5
   refine ⟨oM,oM,oM,wN ?_⟩;exact ce (Zbf sk dg gq)
  have d8:s.drop e=[]:=Tr oM;refine ⟨oM,oM,oM,wN ?_⟩;exact ce (by rw [d8];exact Zmy _)
 exact h.elim
end Go.PM.Lex
end

section
namespace Go.PM
def ZoB (T:Tab) (tbl:Tbl) (it:Zrl) (gid:FuncId) (fn:Func):Zrl:=fun g args raw σ K=>∃loops,Zop T tbl it gid fn loops g args raw σ K
def Zjx {G : GE} {T : Tab} {tbl : Tbl} (hT : TabOK T G.P) (bf : G.P.follows .mixedOrders = true) (ht : TblOK G tbl) (hm : TblM tbl) {it : Zrl} (nk : IterSem G it) {gid : FuncId} {fn : Func} {c : Code} (hf : G.P.funcs[gid]? = some fn) (hb : fn.body = some c) (av : (fn.name == "runtime.NumGoroutine") = false)
  (ao:ZJ fn.ntmps c=true):IterSem G (ZoB T tbl it gid fn):=fun g args raw σ K h=>by
 obtain ⟨loops,h⟩:=h;exact Zmx hT bf ht hm nk hf hb av ao loops g args raw σ K h
end Go.PM
namespace Go.PM.Lex
open Go.Proofs
variable {w0:World} {nG:Nat}
def ZoC:Zm:=fun args σ K=>match args,σ with
 | [.d (.str s),.d (.int .i64 m)],⟨[],[],0⟩=>K (.ret (.func 241 [] [.ptr 0 0,.ptr 1 0])) ⟨[.cells 9 [.d (.str s)],.cells 3 [.d (.int .i64 m)]],[],0⟩
 | _,_=>False
def Zmz:ZL ZoC:=fun args σ K K' hK h=>by
 unfold ZoC at h |-;split at h <;> first | exact hK _ _ h | exact h.elim
def Zzl:PC w0 nG 206 ZoC:=by
 refine pwe Tryz.func206 fun args σ K h=>?_
 unfold ZoC at h
 split at h
 ·rename_i s m
  refine pwv [] 2 false ?_;exact h
 exact h.elim
def Zvo (t:Tok):List D:=[.int .u8 t.kind,.str t.text,.int .i64 t.n,.int .i64 t.at',.int .i64 t.fin]
def Zz (l:List Tok):List (List D):=l.map Zvo
def ZV (l:List Tok):(Zz l).length=l.length:=by simp [Zz]
def Zfn (l:List Tok) (t:Tok):Zz (l++[t])=Zz l++[Zvo t]:=by simp [Zz]
def Zam:Zm:=fun args σ K=>match args,σ with
 | [.d (.str s),.d (.int .i64 m)],⟨[],[],0⟩=>s.length<4294967281 /\
   K (.ret (.tuple [.d (.sl (if (J2 s m).2.2=0 then Zz (J2 s m).1 else [])),.d (.int .i64 (J2 s m).2.1),.d (.int .i64 (J2 s m).2.2)])) ⟨[],[],0⟩
 | _,_=>False
def Zgu:Tbl:=[(242,Zbe),(243,Zfl)]
def ZBZ:Zrl:=ZoB Zaf Zgu Zfi 241 Tryz.f241
def ZoE (ht:TO w0 nG Zgu):IterSem (GG w0 nG) ZBZ:=Zjx ZC mixed ht ⟨ZhV,Zjs,trivial⟩ noIter_sem Tryz.func241 rfl kR kR
def muX (B:Int) (k:Nat):List PV->St->Nat:=fun _ σ=>match σ.bx[k]? with | some (.cells _ (_::.d (.int _ n)::_))=>(B - n).toNat | _=>0
def ZoF (fx:TO w0 nG Zgu) (ht:TO w0 nG [(206,ZoC)]):PC w0 nG 151 Zam:=by
 refine Zvb ZC mixed ht ⟨Zmz,trivial⟩ (ZoE fx) Tryz.func151 rfl kR kR ?_;intro args σ K h
 unfold Zam at h
 split at h
 ·rename_i s m
  obtain ⟨hs,h⟩:=h;refine ⟨Zk [],0,false,sM,Tc rfl,wN ?_⟩;intro y r
  refine ⟨Zk [(3,⟨[5],[0,1,2,4],fun vs σ=>∃(l:List Tok) (e f:Nat),vs=[.d (.int .i64 (l.length:Int))] /\
   σ=⟨[.cells 129 [.sl 0 186 []],.cells 3 [.d (.int .i64 0)],.cells 23 [.d (.int .i64 0)],.cells 129 [.sl 1 186 (Zz l)],.cells 9 [.d (.str s)],.cells 3 [.d (.int .i64 m)],.loop .ready none r,.cells 254 [.d (.str s),.d (.int .i64 e)]],[1,0],2⟩ /\
   (e<=s.length/\s.length<e+f/\l.length<=e)/\J2 s m=(l++(XP f (m - l.length) e (s.drop e)).1,(XP f (m - l.length) e (s.drop e)).2),muX s.length 7⟩)],rfl,?_⟩
  conv=>whnf
  refine ⟨⟨[],0,s.length+1,rfl,rfl,⟨oM,oM,sM⟩,by simp [J2]⟩,?_⟩;intro vs σ1 hI
  obtain ⟨l,e,f,rfl,rfl,⟨vt,oe,ar⟩,cd⟩:=hI;obtain ⟨f,rfl⟩:∃g,f=g+1:=⟨f - 1,oM⟩
  have cp:(Zr (s.drop e)).2<=s.length - e:=by have:(Zr (s.drop e)).2<=(s.drop e).length:=Zaj _ _;rw [Tu] at this;exact this
  have ct:∀p c:Nat,(XP (f+1) (m - l.length) e (s.drop e)).2=(p,c)->c≠0->K (.ret (.tuple [.d (.sl []),.d (.int .i64 p),.d (.int .i64 c)])) ⟨[],[],0⟩:=fun p c g1 g2=>by
   have e1:(J2 s m).2=(p,c):=by rw [cd];exact g1
   rw [e1] at h;simp only at h;rw [Tf g2] at h;exact h
  have ce:XP (f+1) (m - l.length) e (s.drop e)=([],(0,0))->K (.ret (.tuple [.d (.sl (Zz l)),.d (.int .i64 0),.d (.int .i64 0)])) ⟨[],[],0⟩:=fun g=>by
   rw [cd,g] at h;simp only [T2,if_true] at h;exact h
  conv=>whnf
  refine ⟨⟨oM,oM,oM⟩,wN ?_⟩;generalize hk0:(Zr (s.drop ((e:Int)).toNat)).2=k;have hk:(Zr (s.drop e)).2=k:=hk0;rw [hk] at cp;refine ZEz (fun h2=>wN ?_) (fun h2=>wN ?_)
  ·have bz:(Zr (s.drop e)).1=false:=by simpa using h2
   have g1:XP (f+1) (m - l.length) e (s.drop e)=([],(e+k,140)):=by rw [XP,Th bz,hk]
   have g2:=ct _ _ (by rw [g1]) dM;rw [show ((e+k:Nat):Int)=(e:Int)+(k:Int) by omega] at g2;refine ⟨rfl,rfl,rfl,wN ?_⟩;refine ⟨rfl,wN ?_⟩
   iterate 6 (try (refine ⟨rfl,?_⟩;conv=>whnf))
   exact g2
  have bz:(Zr (s.drop e)).1=true:=by simpa using h2
  have bu:¬(Zr (s.drop e)).1=false:=by rw [bz];simp
  refine ZEw (fun h3=>wN ?_) (fun h3=>wN ?_)
  ·have d8:(s.drop e).drop k=[]:=by rw [TC];exact Tr oM
   have g1:XP (f+1) (m - l.length) e (s.drop e)=([],(0,0)):=by rw [XP,Tf bu,hk,Th d8]
   exact ce g1
  have ab:e+k<s.length:=by omega
  have ai:¬(s.drop e).drop k=[]:=fun g=>by have:=congrArg List.length g;rw [TC,Tu] at this;simp at this;omega
  have g1:XP (f+1) (m - l.length) e (s.drop e)=(match Xd (e+k) (s.drop (e+k)) (decide ((l.length:Int)<m)) with
    | .bad p e=>([],(p,e))
    | .tok t=>(t::(XP f (m - l.length - 1) t.fin ((s.drop (e+k)).drop (t.fin - (e+k)))).1,(XP f (m - l.length - 1) t.fin ((s.drop (e+k)).drop (t.fin - (e+k)))).2)):=by
   rw [XP,Tf bu,hk,Tf ai,TC,show (decide (0<m - (l.length:Int)))=decide ((l.length:Int)<m) from by rw [decide_eq_decide];omega] <;> rfl
  refine ⟨⟨oM,oM,oM⟩,wN ?_⟩;generalize ky:Xd ((e:Int)+(k:Int)).toNat (s.drop ((e:Int)+(k:Int)).toNat) _=x;have hx:Xd (e+k) (s.drop (e+k)) (decide ((l.length:Int)<m))=x:=by
   rw [show ((e:Int)+(k:Int)).toNat=e+k by omega] at ky;exact ky
  rw [hx] at g1
  cases x with
  | bad p c =>
   have hc:=ZhY hx;have g2:=ct p c (by rw [g1]) hc.1;(conv=>whnf);refine ⟨rfl,rfl,rfl,wN ?_⟩;refine ⟨rfl,wN ?_⟩;refine ZEy (fun h4=>wN ?_) (fun h4=>?_)
   ·iterate 6 (try (refine ⟨rfl,?_⟩;conv=>whnf))
    exact g2
   exact absurd h4 (by have:((c:Nat):Int)≠0:=oM;exact this)
  | tok t =>
  obtain ⟨fx,la,ht3⟩:=Zdl hD hx;rw [Tu] at ht3;(conv=>whnf);refine ⟨rfl,rfl,rfl,wN ?_⟩;refine ⟨rfl,wN ?_⟩;refine ⟨fun r hr=>by (simp at hr;subst hr;rfl),(show ((Zz l).length+1) * 48<=2 ^ 47 by rw [ZV];omega),(show (Zz l).length+1<=2 ^ 47 by rw [ZV];omega),wN ?_⟩
  iterate 3 (try (refine ⟨rfl,?_⟩;conv=>whnf))
  refine Zj ?_;refine ⟨⟨l++[t],t.fin,f,?_,?_,⟨oM,oM,by rw [Ta];simp;omega⟩,?_⟩,?_⟩
  ·rw [Ta];rfl
  ·rw [Zfn];rfl
  ·exact mq102
  exact (show ((s.length:Int) - (t.fin:Int)).toNat<((s.length:Int) - (e:Int)).toNat by omega)
 exact h.elim
end Go.PM.Lex
end

section
namespace Go.PM.Lex
abbrev ws:Bs:=[32,9,13,10]
def Zvp {a b:UInt8}:Lib.hasPrefix [] [a,b]=false:=rfl
def Zjy (f:Nat):Zs (f+1) []=(true,0):=by simp [Zs,Lib.trimLeftS,Zvp]
def WC {f:Nat} {r:Bs} (h1:Lib.hasPrefix (Lib.trimLeftS r ws) [47,47]=false) (h2:Lib.hasPrefix (Lib.trimLeftS r ws) [47,42]=false):Zs (f+1) r=(true,r.length - (Lib.trimLeftS r ws).length):=by
 simp only [Zs,h1,h2,Tt,if_false]
def XR {f:Nat} {r:Bs} (h1:Lib.hasPrefix (Lib.trimLeftS r ws) [47,47]=true) (n:Nat) (hn:n=if Lib.indexByte (Lib.trimLeftS r ws) 10<0 then (Lib.trimLeftS r ws).length else (Lib.indexByte (Lib.trimLeftS r ws) 10).toNat) :
  Zs (f+1) r=((Zs f ((Lib.trimLeftS r ws).drop n)).1,r.length - (Lib.trimLeftS r ws).length+n+(Zs f ((Lib.trimLeftS r ws).drop n)).2):=by
 subst hn;simp only [Zs,h1,if_true]
def XS {f:Nat} {r:Bs} (h1:Lib.hasPrefix (Lib.trimLeftS r ws) [47,47]=false) (h2:Lib.hasPrefix (Lib.trimLeftS r ws) [47,42]=true) (h3:Lib.index ((Lib.trimLeftS r ws).drop 2) [42,47]<0):Zs (f+1) r=(false,r.length - (Lib.trimLeftS r ws).length):=by
 simp only [Zs,h1,h2,h3,if_true,Tt,if_false]
def WD {f:Nat} {r:Bs} (h1:Lib.hasPrefix (Lib.trimLeftS r ws) [47,47]=false) (h2:Lib.hasPrefix (Lib.trimLeftS r ws) [47,42]=true) (i:Nat) (h3:Lib.index ((Lib.trimLeftS r ws).drop 2) [42,47]=i) :
  Zs (f+1) r=((Zs f ((Lib.trimLeftS r ws).drop (i+4))).1,r.length - (Lib.trimLeftS r ws).length+(i+4)+(Zs f ((Lib.trimLeftS r ws).drop (i+4))).2):=by
 simp only [Zs,h1,h2,h3,if_true,Tt,if_false];rw [Tf oM];simp
def ZoG (r:Bs):(Lib.trimLeftS r ws).length<=r.length:=(W0 (ws.contains ·) r).2
def ZmA:Zr []=(true,0):=Zjy 0
open Go.Proofs
variable {w0:World} {nG:Nat}
def Zvq (c:Int):Int:=if 48<=c/\c<=57 then c - 48 else if 97<=c/\c<=102 then c - 87 else if 65<=c/\c<=70 then c - 55 else -1
def ZoH:Zm:=fun args σ K=>match args,σ with
 | [.d (.int .u8 c)],⟨[],[],0⟩=>(0<=c/\c<256)/\K (.ret (.d (.int .i64 (Zvq c)))) ⟨[],[],0⟩
 | _,_=>False
def Zvr:PC w0 nG 256 ZoH:=by
 refine pwe Tryz.func256 fun args σ K h=>?_
 unfold ZoH at h
 split at h
 ·rename_i c
  obtain ⟨⟨h0,h1⟩,h⟩:=h;refine pwu [] 0 false ?_;unfold Zvq at h
  by_cases k1:48<=c/\c<=57
  ·rw [Th k1] at h;(conv=>whnf);refine ZEw (fun h2=>wN ?_) (fun h2=>absurd k1.1 h2);refine ZEw (fun h3=>wN ?_) (fun h3=>absurd k1.2 h3);refine WY ?_;refine Zj ?_;exact h
  rw [Tf k1] at h
  by_cases k2:97<=c/\c<=102
  ·rw [Th k2] at h;(conv=>whnf);refine ZEw (fun h2=>?_) (fun h2=>absurd (show c>=48 by omega) h2);(conv=>whnf);refine ZEw (fun h3=>absurd ⟨h2,h3⟩ k1) (fun h3=>wN ?_);refine ZEw (fun h4=>wN ?_) (fun h4=>absurd k2.1 h4);refine ZEw (fun h5=>wN ?_) (fun h5=>absurd k2.2 h5);refine WY ?_;refine Zj ?_;refine Zj ?_;rw [show c - 87=c - 97+10 by omega] at h;exact h
  rw [Tf k2] at h
  by_cases k3:65<=c/\c<=70
  ·rw [Th k3] at h;(conv=>whnf);refine ZEw (fun h2=>?_) (fun h2=>absurd (show c>=48 by omega) h2);(conv=>whnf);refine ZEw (fun h3=>absurd ⟨h2,h3⟩ k1) (fun h3=>wN ?_);refine ZEw (fun h4=>absurd h4 (show ¬(c>=97) by omega)) (fun h4=>wN ?_);refine ZEw (fun h6=>wN ?_) (fun h6=>absurd k3.1 h6);refine ZEw (fun h7=>wN ?_) (fun h7=>absurd k3.2 h7);refine WY ?_;refine Zj ?_;refine Zj ?_;rw [show c - 55=c - 65+10 by omega] at h;exact h
  rw [Tf k3] at h;have fin:∀b:Bool,b=false->True:=fun _ _=>trivial
  conv=>whnf
  refine ZEw (fun h2=>wN ?_) (fun h2=>wN ?_)
  ·refine ZEw (fun h3=>absurd ⟨h2,h3⟩ k1) (fun h3=>wN ?_);refine ZEw (fun h4=>wN ?_) (fun h4=>wN ?_)
   ·refine ZEw (fun h5=>absurd ⟨h4,h5⟩ k2) (fun h5=>wN ?_);exact mq129
   exact mq129
  refine ZEw (fun h4=>absurd (show c>=48 from by have:c>=97:=h4;omega) h2) (fun h4=>wN ?_);refine ZEw (fun h4=>absurd (show c>=48 from by have:c>=65:=h4;omega) h2) (fun h4=>wN ?_);exact h
 exact h.elim
def Zgv:Zm:=fun args σ K=>match args,σ with
 | [.d (.str s),.d (.int .i64 a)],⟨[],[],0⟩=>(0<=a/\a<s.length/\s.length<4294967281)/\K (.ret (.d (.str ((s.drop a.toNat).take (Z9 (s.drop a.toNat)))))) ⟨[],[],0⟩
 | _,_=>False
def Zan {l:Bs} {i:Nat} (h:i<l.length):l.getD i 0=l[i]:=by rw [TS,Tb h];rfl
def ZrX (r:Bs) (x y:UInt8):Lib.hasPrefix r [x,y]=true↔r.take 2=[x,y]:=by
 unfold Lib.hasPrefix
 rw [List.isPrefixOf_iff_prefix,List.prefix_iff_eq_take];exact ⟨fun g=>g.symm,fun g=>g.symm⟩
def ZrY (r:Bs):twos.any (Lib.hasPrefix r)=true↔r.take 2∈twos:=by
 simp only [twos,SK,List.any_nil,Sm,ZrX,Tv,Tt,or_false,Sv]
def ZkY:PC w0 nG 220 Zgv:=by
 refine pwe Tryz.func220 fun args σ K h=>?_
 unfold Zgv at h
 split at h
 ·rename_i s a
  obtain ⟨⟨h0,h1,hs⟩,h⟩:=h;obtain ⟨a,rfl⟩:∃n:Nat,a=n:=⟨a.toNat,oM⟩
  simp only [Ti] at h;have so:cut s ((a:Int)).toNat (min ((a:Int)+2) (s.length:Int)).toNat=(s.drop a).take 2:=by
   rw [Xy]
   by_cases h4:(a:Int)+2<=s.length
   ·rw [Int.min_eq_left h4];congr 1;omega
   exact mq127
  have h2:=ZrY (s.drop a);generalize hu:(s.drop a).take 2=u at so h2;have po:u∈twos->K (.ret (.d (.str u))) ⟨[],[],0⟩:=fun g=>by
   rw [Z9,Th (h2.2 g),hu] at h;exact h
  refine pwv [(6,⟨[7],[0,1,6],fun vs σ=>σ=⟨[],[],0⟩/\∃i:Nat,vs=[.d (.int .i64 i)]/\i<=21/\∀j<i,ones.getD j 0≠s.getD a 0,fun vs _=>match vs with | [.d (.int _ n)]=>(21 - n).toNat | _=>0⟩)] 0 false ?_;refine Zj ?_;refine ⟨oM,oM,oM,wN ?_⟩;rw [so];have mem:∀x,x∈twos->u=x->K (.ret (.d (.str u))) ⟨[],[],0⟩:=fun x hx g=>po (g ▸ hx)
  conv=>whnf
  refine ZEw (fun h3=>wN ?_) (fun h3=>wN ?_)
  ·exact mem _ dM h3
  refine ZEw (fun h4=>wN ?_) (fun h4=>wN ?_)
  ·exact mem _ dM h4
  refine ZEw (fun h5=>wN ?_) (fun h5=>wN ?_)
  ·exact mem _ dM h5
  refine ZEw (fun h6=>wN ?_) (fun h6=>wN ?_)
  ·exact mem _ dM h6
  refine ZEw (fun h7=>wN ?_) (fun h7=>wN ?_)
  ·exact mem _ dM h7
  have jp:¬u∈twos:=fun g=>by
   simp only [twos,Tv,Sv,or_false] at g;rcases g with g | g | g | g | g
   ·exact h3 g
   ·exact h4 g
   ·exact h5 g
   ·exact h6 g
   exact h7 g
  have ni:Z9 (s.drop a)=if ones.contains (s.getD a 0) then 1 else 0:=by
   rw [Z9,Tf (fun g=>jp (h2.1 g)),Lib.getD_dropU,Sl]
  refine ⟨⟨rfl,0,rfl,oM,oM⟩,?_⟩;intro vs σ1 hI
  obtain ⟨rfl,i,rfl,hi,hj⟩:=hI;(conv=>whnf);have w9:ones.length=21:=rfl;(conv=>whnf);refine ZEw (fun h8=>wN ?_) (fun h8=>wN ?_)
  ·have h8':i<21:=by have:(i:Int)<(21:Int):=h8;omega
   have bw:∀x:UInt8,ones.getD i 0=x->ones.contains x=true:=fun x g=>by
    rw [Zan (by rw [w9];exact h8')] at g;rw [<- g];simp
   refine ⟨oM,h8,wN ?_⟩;refine ⟨h0,h1,wN ?_⟩;refine ZEw (fun h9=>wN ?_) (fun h9=>wN ?_)
   ·have h9':ones.getD i 0=s.getD a 0:=by
     have:((ones.getD i 0).toNat:Int)=((s.getD a 0).toNat:Int):=h9;exact UInt8.toNat_inj.1 oM
    refine Zj ?_;refine ⟨oM,oM,show (i:Int)+1<=21 by omega,wN ?_⟩;have e:cut ones ((i:Int)).toNat ((i:Int)+1).toNat=(s.drop a).take 1:=by
     rw [Xy,show ((i:Int)+1).toNat - ((i:Int)).toNat=1 by omega,show ((i:Int)).toNat=i from rfl];rw [Tl (by rw [w9];exact h8':i<ones.length),Tl (by omega:a<s.length)];rw [Zan (by rw [w9];exact h8'),Zan oM] at h9';rw [List.take_succ_cons,List.take_succ_cons,T8,T8,h9']
    rw [ni,bw _ h9',Th rfl,<- e] at h;exact h
   refine Zj ?_;refine ⟨⟨rfl,i+1,rfl,oM,fun j hj1 g=>?_⟩,?_⟩
   ·rcases Nat.lt_or_ge j i with g1 | g1
    ·exact hj j g1 g
    obtain rfl:j=i:=by omega
    exact h9 (show ((ones.getD j 0).toNat:Int)=((s.getD a 0).toNat:Int) by rw [g])
   exact (show ((21:Int) - ((i:Int)+1)).toNat<((21:Int) - (i:Int)).toNat by omega)
  have h8':21<=i:=by have:¬(i:Int)<(21:Int):=h8;omega
  have hc:ones.contains (s.getD a 0)=false:=by
   rw [Bool.eq_false_iff];intro g
   rw [List.contains_iff_mem] at g;obtain ⟨j,hj1,rt⟩:=Sf g;exact hj j (by rw [w9] at hj1;omega) (by rw [Zan hj1];exact rt)
  rw [ni,hc,Tf sM,T8] at h;exact h
 exact h.elim
def ZoI (r:Bs):Bool:=Zd (pk r).1 || Zf (pk r).1 || decide ((pk r).1=34) || decide (0<Z9 r)
def ZoJ:Zm:=fun args σ K=>match args,σ with
 | [.d (.str s),.d (.int .i64 a)],⟨[],[],0⟩=>(0<=a/\a<s.length/\s.length<4294967281)/\K (.ret (.d (.bool (ZoI (s.drop a.toNat))))) ⟨[],[],0⟩
 | _,_=>False
def Zbj {r:Bs} (h0:0<r.length) {c:Int} (iv:0<=c) (hc:c<128):(pk r).1=c↔((r.getD 0 0).toNat:Int)=c:=by
 constructor
 ·intro g
  have:=(ZkW r oM oM).2.1;omega
 intro g
 obtain ⟨b,l,rfl⟩:∃b l,r=b::l:=by cases r with | nil=>simp at h0 | cons b l=>exact ⟨b,l,rfl⟩
 have e:Lib.decodeL (b::l)=(b.toNat,1):=by
  rw [Lib.decodeL_N];simp only [Sq,Td] at g |-;unfold Lib.decodeN
  rw [Th oM]
 unfold pk
 rw [Tf,e]
 ·simpa using g
 rw [e];simp only [not_or];exact ⟨sM,fun k=>by have:=b.toNat_lt;injection k;omega⟩
def UU {r:Bs} (h0:0<r.length):Zf (pk r).1=Zf ((r.getD 0 0).toNat:Int):=by
 have k:=fun (c:Int) h1 h2=>@Zbj r h0 c h1 h2
 rw [Bool.eq_iff_iff,isDigit_iff,isDigit_iff]
 constructor
 ·intro g;have:=(k _ (by omega:0<=(pk r).1) oM).1 rfl;omega
 intro g;have:=(k _ (by omega:0<=((r.getD 0 0).toNat:Int)) oM).2 rfl;omega
def Zvs:Tbl:=[(218,Zbi),(219,Wy),(220,Zgv)]
def Zvt:PC w0 nG 168 ZoJ:=by
 refine pwt (tbl:=Zvs) ⟨Zcw,Zal,ZkY,trivial⟩ Tryz.func168 fun args σ K h=>?_
 unfold ZoJ at h
 split at h
 ·rename_i s a
  obtain ⟨⟨h0,h1,hs⟩,h⟩:=h;obtain ⟨a,rfl⟩:∃n:Nat,a=n:=⟨a.toNat,oM⟩
  simp only [Ti] at h;have lr:0<(s.drop a).length:=hD;have ko:=UU lr;have vu:=Zbj lr (c:=34) oM oM;rw [Lib.getD_dropU,Sl] at ko vu;refine pwv [] 0 false ?_;refine ⟨⟨h0,hs⟩,wN ?_⟩;refine ZEz (fun h2=>wN ?_) (fun h2=>wN ?_)
  ·have bz:Zd (pk (s.drop a)).1=true:=h2;rw [ZoI,bz,Bool.true_or,Bool.true_or,Bool.true_or] at h;exact h
  have bz:Zd (pk (s.drop a)).1=false:=h2;rw [ZoI,bz,SL] at h;refine ⟨h0,h1,wN ?_⟩;have xc:=(s.getD ((a:Int)).toNat 0).toNat_lt;refine Or.inl ⟨InR.i32 oM oM,wN ?_⟩;refine ZEz (fun h3=>wN ?_) (fun h3=>wN ?_)
  ·have dg:Zf (pk (s.drop a)).1=true:=ko.trans h3;rw [dg,Bool.true_or,Bool.true_or] at h;exact h
  have dg:Zf (pk (s.drop a)).1=false:=ko.trans h3;rw [dg,SL] at h;refine ⟨h0,h1,wN ?_⟩;refine ZEw (fun h4=>wN ?_) (fun h4=>wN ?_)
  ·rw [TL (vu.2 h4),Bool.true_or] at h;exact h
  rw [decide_eq_false (fun g=>h4 (vu.1 g)),SL] at h;refine ⟨⟨h0,h1,hs⟩,wN ?_⟩;have hl:((s.drop a).take (Z9 (s.drop a))).length=0↔Z9 (s.drop a)=0:=by rw [Si];omega
  refine ZbW h ?_;have e:∀n,(decide (0<n))=!(decide (n=0)):=fun n=>by cases n <;> simp
  rw [e]
  congr 1
  rw [decide_eq_decide,<- hl];exact Sr
 exact h.elim
def ZkZ {R:Bs} (h:Lib.hasPrefix R [47,47]=true):2<=(if Lib.indexByte R 10<0 then R.length else (Lib.indexByte R 10).toNat)/\(if Lib.indexByte R 10<0 then R.length else (Lib.indexByte R 10).toNat)<=R.length:=by
 have h1:=(Zv h).1;have h2:=W1 10 R;have h3:=Zai (c:=10) h dM dM;split <;> omega
def Vn:∀(f g:Nat) (r:Bs),r.length<f->r.length<g->Zs f r=Zs g r
 | 0,_,r,h,_=>oM
 | _,0,r,_,h=>oM
 | f+1,g+1,r,hf,hg=>by
  have ar:=ZoG r
  cases h1:Lib.hasPrefix (Lib.trimLeftS r ws) [47,47] with
  | true =>
   have h2:=ZkZ h1;rw [XR h1 _ rfl,XR h1 _ rfl];rw [Vn f g _ hD hD]
  | false =>
  cases h2:Lib.hasPrefix (Lib.trimLeftS r ws) [47,42] with
  | false=>rw [WC h1 h2,WC h1 h2]
  | true =>
  have h4:=(Zv h2).1
  by_cases h3:Lib.index ((Lib.trimLeftS r ws).drop 2) [42,47]<0
  ·rw [XS h1 h2 h3,XS h1 h2 h3]
  rw [WD h1 h2 (Lib.index ((Lib.trimLeftS r ws).drop 2) [42,47]).toNat oM,WD h1 h2 (Lib.index ((Lib.trimLeftS r ws).drop 2) [42,47]).toNat oM];rw [Vn f g _ hD hD]
def Zh0 {f:Nat} {r:Bs} (h:r.length<f):Zs f r=Zr r:=Vn _ _ r h oM
def Zvu {c:UInt8} {r:Bs} (h:ws.contains c=true):Lib.trimLeftS (c::r) ws=Lib.trimLeftS r ws:=by
 unfold Lib.trimLeftS;rw [List.dropWhile_cons,Th h]
def ZoK {c:UInt8} {r:Bs} (h:ws.contains c=false):Lib.trimLeftS (c::r) ws=c::r:=by
 unfold Lib.trimLeftS;rw [List.dropWhile_cons,Tf (by rw [h];simp)]
def ZoL {c:UInt8} {r:Bs} (h:ws.contains c=true):Zr (c::r)=((Zr r).1,1+(Zr r).2):=by
 have ht:=Zvu (r:=r) h;have ar:=ZoG r;have e:∀x:Bs,Zr x=Zs (x.length+1) x:=fun _=>rfl
 rw [e,e]
 cases h1:Lib.hasPrefix (Lib.trimLeftS r ws) [47,47] with
 | true =>
  have j9:=h1;rw [<- ht] at j9;have h2:=ZkZ h1;rw [XR j9 _ rfl,XR h1 _ rfl,ht,Vn (c::r).length r.length _ (by rw [Tu,Td];omega) hD];exact mq161
 | false =>
 have j9:=h1;rw [<- ht] at j9
 cases h2:Lib.hasPrefix (Lib.trimLeftS r ws) [47,42] with
 | false =>
  have bz:=h2;rw [<- ht] at bz;rw [WC h1 h2,WC j9 bz,ht];exact mq161
 | true =>
 have bz:=h2;rw [<- ht] at bz;have h4:=(Zv h2).1
 by_cases h3:Lib.index ((Lib.trimLeftS r ws).drop 2) [42,47]<0
 ·have dg:=h3;rw [<- ht] at dg;rw [XS h1 h2 h3,XS j9 bz dg,ht];exact mq161
 have dg:Lib.index ((Lib.trimLeftS (c::r) ws).drop 2) [42,47]=((Lib.index ((Lib.trimLeftS r ws).drop 2) [42,47]).toNat:Nat):=by rw [ht];omega
 rw [WD j9 bz _ dg,WD h1 h2 (Lib.index ((Lib.trimLeftS r ws).drop 2) [42,47]).toNat oM,ht];rw [Vn (c::r).length r.length _ (by rw [Tu,Td];omega) hD];exact mq161
def Zgw {r:Bs} {a b:UInt8} (h:Lib.hasPrefix r [a,b]=true) (ha:ws.contains a=false):Lib.trimLeftS r ws=r:=by
 rw [(Zv h).2];exact ZoK ha
def Zjz {r:Bs} (h:Lib.hasPrefix r [47,47]=true) (n:Nat) (hn:n=if Lib.indexByte r 10<0 then r.length else (Lib.indexByte r 10).toNat):Zr r=((Zr (r.drop n)).1,n+(Zr (r.drop n)).2):=by
 have ht:=Zgw h dM;have h1:=h;rw [<- ht] at h1;have h2:=ZkZ h;have e:Zr r=Zs (r.length+1) r:=rfl;rw [e,XR h1 n (by rw [ht];exact hn),ht,Zh0 hD];refine Prod.ext rfl ?_;simp
def ZoM {r:Bs} (h:Lib.hasPrefix r [47,42]=true):Lib.hasPrefix r [47,47]=false:=by
 rw [(Zv h).2];rfl
def ZjA {r:Bs} (h:Lib.hasPrefix r [47,42]=true) (h3:Lib.index (r.drop 2) [42,47]<0):Zr r=(false,0):=by
 have ht:=Zgw h dM;have h1:=h;rw [<- ht] at h1;have h0:=ZoM h;rw [<- ht] at h0;have e:Zr r=Zs (r.length+1) r:=rfl;rw [e,XS h0 h1 (by rw [ht];exact h3),ht];simp
def ZmB {r:Bs} (h:Lib.hasPrefix r [47,42]=true) (i:Nat) (h3:Lib.index (r.drop 2) [42,47]=i):Zr r=((Zr (r.drop (i+4))).1,i+4+(Zr (r.drop (i+4))).2):=by
 have ht:=Zgw h dM;have h1:=h;rw [<- ht] at h1;have h0:=ZoM h;rw [<- ht] at h0;have h4:=(Zv h).1;have e:Zr r=Zs (r.length+1) r:=rfl;rw [e,WD h0 h1 i (by rw [ht];exact h3),ht,Zh0 hD];refine Prod.ext rfl ?_;simp
def ZmC {c:UInt8} {r:Bs} (h:ws.contains c=false) (h1:Lib.hasPrefix (c::r) [47,47]=false) (h2:Lib.hasPrefix (c::r) [47,42]=false):Zr (c::r)=(true,0):=by
 have ht:=ZoK (r:=r) h;have e:Zr (c::r)=Zs ((c::r).length+1) (c::r):=rfl;rw [e,WC (by rw [ht];exact h1) (by rw [ht];exact h2),ht];simp
def Uq {s:Bs} {a:Nat} (h:a<s.length):s.drop a=s.getD a 0::s.drop (a+1):=by
 rw [Tl h,Zan h]
def Zeu {b c:UInt8} {l:Bs} (h:b≠c):Lib.indexByte (b::l) c=if Lib.indexByte l c<0 then -1 else Lib.indexByte l c+1:=by
 have jn:=Lib.indexByte_ge l c;simp only [Lib.indexByte];rw [Tf (by simpa using h)]
 by_cases h1:Lib.indexByte l c=-1
 ·rw [h1];simp
 rw [Tf (by simpa using h1),Tf oM]
def ZmD {b:UInt8} {l p:Bs} (h:Lib.hasPrefix (b::l) p=false):Lib.index (b::l) p=if Lib.index l p<0 then -1 else Lib.index l p+1:=by
 have jn:=Lib.index_ge l p;unfold Lib.hasPrefix at h
 simp only [Lib.index];rw [Tf (by rw [h];simp)]
 by_cases h1:Lib.index l p=-1
 ·rw [h1];simp
 rw [Tf (by simpa using h1),Tf oM]
def ZoN {l p:Bs} (h:Lib.hasPrefix l p=true) (hp:p≠[]):Lib.index l p=0:=by
 unfold Lib.hasPrefix at h
 cases l with
 | nil=>cases p with
  | nil=>exact absurd rfl hp
  | cons x p=>simp [List.isPrefixOf] at h
 | cons b l=>simp only [Lib.index];rw [Th h]
def Zdm {l:Bs} (h:l.length<=1):Lib.index l [42,47]=-1:=by
 match l,h with
 | [],_=>rfl
 | [b],_=>simp [Lib.index,List.isPrefixOf]
def Jp (k:Nat) (i:Int):Int:=if i<0 then -1 else i+k
def Zdn {k:Nat} {i:Int}:Jp k (if i<0 then -1 else i+1)=Jp (k+1) i:=by
 unfold Jp
 split <;> split <;> omega
def Zdo {i:Int} (h:-1<=i):Jp 0 i=i:=by unfold Jp;split <;> omega
def Zgx:Zm:=fun args σ K=>match args,σ with
 | [.d (.str s),.d (.int .i64 a)],⟨[],[],0⟩=>(0<=a/\a<=s.length/\s.length<4294967281) /\
   K (.ret (.tuple [.d (.int .i64 (a+(Zr (s.drop a.toNat)).2)),.d (.int .i64 (if (Zr (s.drop a.toNat)).1=true then -1 else a+(Zr (s.drop a.toNat)).2))])) ⟨[],[],0⟩
 | _,_=>False
def ZoO:PC w0 nG 167 Zgx:=by
 refine YF ZC mixed (tbl:=[]) trivial Tryz.func167 rfl kR kR ?_;intro args σ K h
 unfold Zgx at h
 split at h
 ·rename_i s a
  obtain ⟨⟨h0,h1,hs⟩,h⟩:=h;obtain ⟨a,rfl⟩:∃n:Nat,a=n:=⟨a.toNat,oM⟩
  simp only [Ti] at h;refine ⟨Zk [(1,⟨[1],[0],fun vs σ=>σ=⟨[],[],0⟩/\∃e:Nat,vs=[.d (.int .i64 e)]/\(a<=e/\e<=s.length)/\Zr (s.drop a)=((Zr (s.drop e)).1,e - a+(Zr (s.drop e)).2),muI s.length⟩),
   (8,⟨[1],[0,14],fun vs σ=>σ=⟨[],[],0⟩/\∃e x:Nat,vs=[.d (.str s),.d (.int .i64 e),.d (.int .i64 x)]/\(a<=e/\e<=x/\x<=s.length)/\Zr (s.drop a)=((Zr (s.drop e)).1,e - a+(Zr (s.drop e)).2)/\Lib.hasPrefix (s.drop e) [47,47]=true/\Lib.indexByte (s.drop e) 10=Jp (x - e) (Lib.indexByte (s.drop x) 10),fun vs _=>match vs with | [_,_,.d (.int _ n)]=>((s.length:Int) - n).toNat | _=>0⟩),
   (12,⟨[8],[0,1],fun vs σ=>σ=⟨[],[],0⟩/\∃e x:Nat,vs=[.d (.str s),.d (.int .i64 e),.d (.int .i64 x)]/\(a<=e/\e+2<=x/\(x<=s.length\/x=s.length+1/\x=e+3))/\Zr (s.drop a)=((Zr (s.drop e)).1,e - a+(Zr (s.drop e)).2)/\Lib.hasPrefix (s.drop e) [47,42]=true/\(e+2<x->Lib.index (s.drop (e+2)) [42,47]=Jp (x - 1 - (e+2)) (Lib.index (s.drop (x - 1)) [42,47])),fun vs _=>match vs with | [_,_,.d (.int _ n)]=>((s.length:Int)+1 - n).toNat | _=>0⟩)],Ye [],ZB [8,12],0,false,sM,Tc rfl,?_⟩
  conv=>whnf
  refine ⟨⟨rfl,a,rfl,⟨oM,oM⟩,sM⟩,?_⟩;intro vs σ1 hI
  obtain ⟨rfl,e,rfl,⟨vt,oe⟩,hE⟩:=hI;have stop:∀k,(Zr (s.drop e))=(true,k)->k=0->K (.ret (.tuple [.d (.int .i64 e),.d (.int .i64 (-1))])) ⟨[],[],0⟩:=fun k hk h3=>by
   subst h3;rw [hE,hk] at h;simp only [if_true] at h;rw [show (a:Int)+((e - a+0:Nat):Int)=(e:Int) by omega] at h;exact h
  conv=>whnf
  refine ZEw (fun h2=>wN ?_) (fun h2=>wN ?_)
  ·have bz:e<s.length:=by omega
   have hdh:=Uq bz;have xc:=(s.getD e 0).toNat_lt;refine ⟨oM,oM,wN ?_⟩;refine Zj ?_;refine ⟨oM,oM,oM,wN ?_⟩;have so:cut s ((e:Int)).toNat (min ((e:Int)+2) (s.length:Int)).toNat=(s.drop e).take 2:=by
    rw [Xy]
    by_cases h4:(e:Int)+2<=s.length
    ·rw [Int.min_eq_left h4];congr 1;omega
    exact mq127
   have xd:∀b:UInt8,s.getD e 0=b->ws.contains b=true->a<=e+1/\e+1<=s.length/\Zr (s.drop a)=((Zr (s.drop (e+1))).1,e+1 - a+(Zr (s.drop (e+1))).2):=fun b hb hw=>by
    refine ⟨oM,oM,?_⟩;rw [hE,hdh,hb,ZoL hw];refine Prod.ext rfl ?_;simp only;omega
   have byt:∀n:Nat,n<256->(((s.getD ((e:Int)).toNat 0).toNat:Int)=(n:Int)↔s.getD e 0=UInt8.ofNat n):=fun n hn=>by
    rw [Ti]
    constructor
    ·intro g;apply UInt8.toNat_inj.1;rw [UInt8.toNat_ofNat_of_lt' (by show n<256;omega)];omega
    intro g;rw [g,UInt8.toNat_ofNat_of_lt' (by show n<256;omega)]
   conv=>whnf
   refine ZEw (fun k1=>wN ?_) (fun k1=>wN ?_)
   ·obtain ⟨g1,g2,g3⟩:=xd _ ((byt 9 oM).1 k1) dM;exact mq50
   refine ZEw (fun k2=>wN ?_) (fun k2=>wN ?_)
   ·obtain ⟨g1,g2,g3⟩:=xd _ ((byt 10 oM).1 k2) dM;exact mq50
   refine ZEw (fun k3=>wN ?_) (fun k3=>wN ?_)
   ·obtain ⟨g1,g2,g3⟩:=xd _ ((byt 13 oM).1 k3) dM;exact mq50
   refine ZEw (fun k4=>wN ?_) (fun k4=>wN ?_)
   ·obtain ⟨g1,g2,g3⟩:=xd _ ((byt 32 oM).1 k4) dM;exact mq50
   have zl:ws.contains (s.getD e 0)=false:=by
    rw [Bool.eq_false_iff];intro g
    rw [List.contains_iff_mem] at g;simp only [Tv,Sv,or_false] at g;rcases g with g | g | g | g
    ·exact k4 ((byt 32 oM).2 g)
    ·exact k1 ((byt 9 oM).2 g)
    ·exact k3 ((byt 13 oM).2 g)
    exact k2 ((byt 10 oM).2 g)
   rw [so];(conv=>whnf);refine ZEw (fun k5=>wN ?_) (fun k5=>wN ?_)
   ·have hp:Lib.hasPrefix (s.drop e) [47,47]=true:=(ZrX _ _ _).2 k5;refine ⟨⟨rfl,e,e,rfl,⟨oM,oM,oM⟩,hE,hp,by rw [Nat.sub_self,Zdo (Lib.indexByte_ge _ _)]⟩,?_⟩;intro vs σ1 hI
    obtain ⟨rfl,e',x,hv,⟨x1,x2,x3⟩,pt,ja,hx⟩:=hI;obtain ⟨rfl,rfl⟩:e=e'/\vs=[.d (.int .i64 x)]:=by
     exact mq157
    have ce:∀n,n=(if Lib.indexByte (s.drop e) 10<0 then (s.drop e).length else (Lib.indexByte (s.drop e) 10).toNat)->x=e+n->a<=x/\x<=s.length/\Zr (s.drop a)=((Zr (s.drop x)).1,x - a+(Zr (s.drop x)).2)/\e+2<=x:=fun n hn hxe=>by
     have:=ZkZ hp;refine ⟨oM,oM,?_,oM⟩;rw [hE,Zjz hp n hn,TC,<- hxe];refine Prod.ext rfl ?_;simp only;omega
    conv=>whnf
    refine ZEw (fun q1=>wN ?_) (fun q1=>wN ?_)
    ·have q1':x<s.length:=by omega
     have zm:=Uq q1';refine ⟨oM,oM,wN ?_⟩;refine ZEy (fun q2=>wN ?_) (fun q2=>wN ?_)
     ·have q2':s.getD x 0≠10:=fun g=>q2 (show ((s.getD ((x:Int)).toNat 0).toNat:Int)=10 by rw [Ti,g];rfl)
      refine Zj ?_;refine ⟨⟨rfl,e,x+1,rfl,⟨oM,oM,oM⟩,hE,hp,?_⟩,(show ((s.length:Int) - ((x:Int)+1)).toNat<((s.length:Int) - (x:Int)).toNat by omega)⟩;rw [hx,zm,Zeu q2',Zdn,show x+1 - e=x - e+1 by omega]
     have q2':s.getD x 0=10:=by
      have g:((s.getD ((x:Int)).toNat 0).toNat:Int)=10:=q2;rw [Ti] at g
      apply UInt8.toNat_inj.1;show (s.getD x 0).toNat=10;omega
     have h0:Lib.indexByte (s.drop x) 10=0:=by rw [zm,q2'];rfl
     rw [h0] at hx;have f5:Lib.indexByte (s.drop e) 10=((x - e:Nat):Int):=by rw [hx];unfold Jp;rw [Tf oM];omega
     obtain ⟨g1,g2,g3,g4⟩:=ce (x - e) (by rw [f5,Tf oM];omega) oM;exact mq150
    have q1':x=s.length:=by omega
    have h0:Lib.indexByte (s.drop x) 10=-1:=by rw [q1',Su];rfl
    rw [h0] at hx;have f5:Lib.indexByte (s.drop e) 10=-1:=by rw [hx];rfl
    obtain ⟨g1,g2,g3,g4⟩:=ce (x - e) (by rw [f5,Th oM,Tu];omega) oM;exact mq150
   have hp:Lib.hasPrefix (s.drop e) [47,47]=false:=by rw [Bool.eq_false_iff];exact fun g=>k5 ((ZrX _ _ _).1 g)
   refine ZEw (fun k6=>wN ?_) (fun k6=>wN ?_)
   ·have jq:Lib.hasPrefix (s.drop e) [47,42]=true:=(ZrX _ _ _).2 k6;have dl:e+2<=s.length:=by have:=(Zv jq).1;rw [Tu] at this;omega
    refine Zj ?_;refine ⟨⟨rfl,e,e+2,rfl,⟨oM,oM,oM⟩,hE,jq,fun g=>oM⟩,?_⟩;intro vs σ1 hI
    obtain ⟨rfl,e',x,hv,⟨x1,x2,x3⟩,pt,ja,hx⟩:=hI;obtain ⟨rfl,rfl⟩:e=e'/\vs=[.d (.int .i64 x)]:=by
     exact mq157
    have mj:(s.drop e).drop 2=s.drop (e+2):=by rw [TC]
    have more:(e+2<x->Lib.hasPrefix (s.drop (x - 1)) [42,47]=false)->(e+2<x->x<s.length)->(e+2<x+1->Lib.index (s.drop (e+2)) [42,47]=Jp (x+1 - 1 - (e+2)) (Lib.index (s.drop (x+1 - 1)) [42,47])):=fun g1 g2 _=>by
     rcases Nat.lt_or_ge (e+2) x with g | g
     ·have zm:s.drop (x - 1)=s.getD (x - 1) 0::s.drop x:=by rw [Uq (show x - 1<s.length by have:=g2 g;omega),show x - 1+1=x by omega]
      rw [hx g,zm,ZmD (by rw [<- zm];exact g1 g),Zdn,show x+1 - 1 - (e+2)=x - 1 - (e+2)+1 by omega,Nat.add_sub_cancel]
     obtain rfl:x=e+2:=by omega
     rw [Nat.add_sub_cancel,Nat.sub_self,Zdo (Lib.index_ge _ _)]
    have out:s.length<=x->K (.ret (.tuple [.d (.int .i64 e),.d (.int .i64 e)])) ⟨[],[],0⟩:=fun g=>by
     have pa:Lib.index ((s.drop e).drop 2) [42,47]<0:=by
      rw [mj];rcases Nat.lt_or_ge (e+2) x with g1 | g1
      ·rw [hx g1,Zdm hD];exact (show (-1:Int)<0 by decide)
      rw [Zdm hD];decide
     have hb:=ZjA jq pa;rw [hE,hb] at h;simp only [Tt,if_false] at h;rw [show (a:Int)+((e - a+0:Nat):Int)=(e:Int) by omega] at h;exact h
    conv=>whnf
    refine ZEw (fun q1=>wN ?_) (fun q1=>wN ?_)
    ·have q1':x<s.length:=by omega
     refine Zj ?_;refine Zj ?_;refine ⟨oM,oM,oM,wN ?_⟩;have ra:cut s ((x:Int) - 1).toNat ((x:Int)+1).toNat=(s.drop (x - 1)).take 2:=by
      rw [Xy,show ((x:Int) - 1).toNat=x - 1 by omega];congr 1;omega
     rw [ra];(conv=>whnf);refine ZEy (fun q2=>wN ?_) (fun q2=>wN ?_)
     ·have q2':Lib.hasPrefix (s.drop (x - 1)) [42,47]=false:=by rw [Bool.eq_false_iff];exact fun g=>q2 ((ZrX _ _ _).1 g)
      refine Zj ?_;exact ⟨⟨rfl,e,x+1,rfl,⟨oM,oM,oM⟩,hE,jq,more (fun _=>q2') (fun _=>q1')⟩,(show ((s.length:Int)+1 - ((x:Int)+1)).toNat<((s.length:Int)+1 - (x:Int)).toNat by omega)⟩
     have q2':Lib.hasPrefix (s.drop (x - 1)) [42,47]=true:=(ZrX _ _ _).2 q2;refine Zj ?_;refine ZEw (fun q3=>wN ?_) (fun q3=>wN ?_)
     ·have q3':x=e+2:=by omega
      refine Zj ?_;exact ⟨⟨rfl,e,x+1,rfl,⟨oM,oM,oM⟩,hE,jq,more (fun g=>oM) (fun _=>q1')⟩,(show ((s.length:Int)+1 - ((x:Int)+1)).toNat<((s.length:Int)+1 - (x:Int)).toNat by omega)⟩
     have q3':e+2<x:=by omega
     have hi:Lib.index ((s.drop e).drop 2) [42,47]=((x - 1 - (e+2):Nat):Int):=by
      rw [mj,hx q3',ZoN q2' sM];unfold Jp;rw [Tf oM];omega
     have hb:=ZmB jq _ hi;rw [TC,show e+(x - 1 - (e+2)+4)=x+1 by omega] at hb;refine ZEw (fun q4=>absurd q4 oM) (fun q4=>wN ?_);refine Zj ?_;refine ⟨⟨rfl,x+1,rfl,⟨oM,oM⟩,?_⟩,(show ((s.length:Int) - ((x:Int)+1)).toNat<((s.length:Int) - (e:Int)).toNat by omega)⟩;rw [hE,hb];refine Prod.ext rfl ?_;simp only;omega
    have q1':s.length<=x:=by omega
    refine Zj ?_;refine ZEw (fun q3=>wN ?_) (fun q3=>wN ?_)
    ·have q3':x=e+2:=by omega
     refine Zj ?_;exact ⟨⟨rfl,e,x+1,rfl,⟨oM,oM,oM⟩,hE,jq,more (fun g=>oM) (fun g=>oM)⟩,(show ((s.length:Int)+1 - ((x:Int)+1)).toNat<((s.length:Int)+1 - (x:Int)).toNat by omega)⟩
    refine ZEw (fun q4=>?_) (fun q4=>absurd (show (x:Int)>=s.length by omega) q4);(conv=>whnf);exact out q1'
   have jq:Lib.hasPrefix (s.drop e) [47,42]=false:=by rw [Bool.eq_false_iff];exact fun g=>k6 ((ZrX _ _ _).1 g)
   refine stop 0 ?_ rfl;rw [hdh] at hp jq |-;exact ZmC zl hp jq
  have bz:e=s.length:=by omega
  refine stop 0 ?_ rfl;rw [bz,Su];exact ZmA
 exact h.elim
end Go.PM.Lex
end

section
noncomputable section
namespace Go.PM
def YN {G:GE} {g:FuncId} {sp:Zm} (jo:Wr G.P g)
  (h:∀args σ K,sp args σ K->∀(e:Env) (w:World) (vs:Array Value),SRel G e σ w->ArgsRel G e σ w args vs->∃pv,K (.ret pv) σ/\∃v,(∀w',Grows w w'->VRel G e σ w' pv v)/\Calls G.P g vs w fun en w'=>en=.returned v/\Grows w w'):PCalls G g sp where
 enters:=jo
 calls:=fun args σ K hs n e w vs hS ha=>by
  obtain ⟨pv,hK,v,hv,hc⟩:=h args σ K hs e w vs hS ha;refine CallsIn.mono (callsIn_wide.2 hc) fun en w' ⟨he,hg⟩=>?_
  subst he;exact ⟨.ret pv,σ,e,hK,⟨v,rfl,hv w' hg⟩,hS.grow hg,(hg.stepped e σ).toLater⟩
def ZEC {w w':World} (h:RowKit.Below w.heap.size w w'):Grows w w':=⟨h.os,h.tape,h.output,h.size,h.block⟩
section
variable {G:GE} {e:Env} {σ:St} {w:World} {vs:Array Value}
def Zgy {x:PV} (h:ArgsRel G e σ w [x] vs):∃u,vs=#[u]/\VRel G e σ w x u:=by
 obtain ⟨hs,hr⟩:=h;obtain ⟨l⟩:=vs
 match l,hs with
 | [u],_=>exact ⟨u,rfl,hr 0 x u rfl rfl⟩
def ZjB {x y:PV} (h:ArgsRel G e σ w [x,y] vs):∃u v,vs=#[u,v]/\VRel G e σ w x u/\VRel G e σ w y v:=by
 obtain ⟨hs,hr⟩:=h;obtain ⟨l⟩:=vs
 match l,hs with
 | [u,v],_=>exact ⟨u,v,rfl,hr 0 x u rfl rfl,hr 1 y v rfl rfl⟩
end
end Go.PM
namespace Go.PM.Lex
open Go.Proofs
variable {w0:World} {nG:Nat}
def W2:PC w0 nG 229 Xx:=YN (Zl Tryz.func229 kR rfl) fun args σ K h e w vs hS ha=>by
 unfold Xx at h
 split at h
 ·obtain ⟨u,v,rfl,hu,hv⟩:=ZjB ha
  cases hu.dstr;cases hv.dstr
  exact ⟨_,h,_,fun _ _=>.mkbool,(Tryz.strings_HasPrefix _ _ w).mono fun en w' ⟨h1,h2⟩=>⟨h1,by rw [h2];exact Grows.refl _⟩⟩
 exact h.elim
def Ur:PC w0 nG 264 Wx:=YN (Zl Tryz.func264 kR rfl) fun args σ K h e w vs hS ha=>by
 unfold Wx at h
 split at h
 ·obtain ⟨u,v,rfl,hu,hv⟩:=ZjB ha
  cases hu.dstr;cases hv.dint
  exact ⟨_,h,_,fun _ _=>.mkint,(Tryz.strings_IndexByte _ _ w).mono fun en w' ⟨h1,h2⟩=>⟨h1,by rw [h2];exact Grows.refl _⟩⟩
 exact h.elim
def ZmE:PC w0 nG 228 Zdi:=YN (Zl Tryz.func228 kR rfl) fun args σ K h e w vs hS ha=>by
 unfold Zdi at h
 split at h
 ·obtain ⟨u,rfl,hu⟩:=Zgy ha
  cases hu.dint
  exact ⟨_,h,_,fun _ _=>.mkint,(Tryz.utf8_RuneLen _ w).mono fun en w' ⟨h1,h2⟩=>⟨h1,by rw [h2];exact Grows.refl _⟩⟩
 exact h.elim
def ZrZ (h2:2<nG) (hm:∃m,w0.cell? ⟨2,0,none⟩=some (.int .i64 m)):PC w0 nG 273 Zjr:=YN (Zl Tryz.func273 kR rfl) fun args σ K h e w vs hS ha=>by
 unfold Zjr at h
 split at h
 ·rename_i s p
  obtain ⟨u,v,rfl,hu,hv⟩:=ZjB ha
  cases hu.dstr;cases hv.dstr
  obtain ⟨m,hm⟩:=hm;have zg:w.cell? ⟨2,0,none⟩=some (.int .i64 m):=by
   have:=hS.glob 2 h2;simpa [World.cell?,this] using hm
  exact ⟨_,h.2,_,fun _ _=>.mkint,(Tryz.strings_Index ⟨s.toArray⟩ ⟨p.toArray⟩ m w (show s.toArray.size<_ by simpa using h.1) zg).mono fun en w' ⟨h1,h2⟩=>⟨h1,by rw [h2];exact Grows.refl _⟩⟩
 exact h.elim
def ZjC:PC w0 nG 272 Zbd:=YN (Zl Tryz.func272 kR rfl) fun args σ K h e w vs hS ha=>by
 unfold Zbd at h
 split at h
 ·rename_i s p
  obtain ⟨u,v,rfl,hu,hv⟩:=ZjB ha
  cases hu.dstr;cases hv.dstr
  refine ⟨_,h.2,_,fun _ _=>.mkstr,(Any.strings_TrimLeft_laid Tryz.lays161 kR ⟨s.toArray⟩ ⟨p.toArray⟩ w (show p.toArray.size<_ by simpa using h.1.1) h.1.2).mono fun en w' ⟨h1,h2⟩=>⟨h1,ZEC h2⟩⟩
 exact h.elim
end Go.PM.Lex
end
end
