/- A part of the proof: plain logic, contracts and laws over the given program. -/
import Derived.Test.YtbdleclcgopcdaaGreatDoorProg
import Derived.Lib.MapLaws
import Derived.Lib.Strings
import Derived.Lib.Bytealg
import Derived.Lib.Index
import Derived.Lib.SlTrimSet
import Derived.Lib.Small
import Derived.Test.YtbdleclcgopcdaaGreatDoorShelf
import Derived.Shelf.Strings.SlTrimAscii
import Derived.Shelf.Strings.Builder1
import Derived.Shelf.RegionOpenPlain
import Derived.Lib.Walk
import Derived.Lib.UnsafeStr
import Derived.Lib.Builder
import Derived.WalkKit
import Derived.Laws.Externs
import Derived.Lib.IndexAny
import Derived.KernelRfl
import Derived.Test.YtbdleclcgopcdaaGreatDoorB05
set_option linter.unusedVariables false
set_option linter.unusedSimpArgs false
set_option linter.all false
set_option maxRecDepth 100000
set_option maxHeartbeats 16000000
noncomputable section
section
namespace Go.PM.Lex
open Go.Proofs
abbrev yi:PV:=.d (.int .i64 0)
abbrev yb:PV:=.d (.int .u8 0)
abbrev ys:PV:=.d (.str [])
abbrev yf:PV:=.d (.bool false)
abbrev yp:PV:=.d .nilp
abbrev ya (a b:Nat) (k:TK) (z:D):TI:=⟨a,b,k,[.d z],false⟩
abbrev yr (n:Nat):TI:=⟨1,8,.ptr n,[yp],false⟩
abbrev yl (n:Nat):TI:=⟨1,24,.slice n,[.nils n],false⟩
abbrev yn (n:Nat) (t:TI):Tab:=.node .leaf n t .leaf
def Vq:Tab:=(.node (.node (.node (.node (.node (.node (.node (yn 2 ⟨1,8,.int .i64,[yi],true⟩) 3 ⟨1,8,.int .i64,[yi],true⟩ .leaf) 4 ⟨1,1,.bool,[yf],false⟩ (yn 5 ⟨1,1,.int .u8,[yb],true⟩)) 6 ⟨1,1,.int .u8,[yb],true⟩ (.node (.node (yn 7 ⟨4,24,.struct [(0,2),(1,3),(2,4),(3,6)],[yi,yi,yf,yb],false⟩) 8 ⟨4,24,.struct [(0,2),(1,3),(2,4),(3,6)],[yi,yi,yf,yb],false⟩ .leaf) 9 ⟨1,16,.string,[ys],false⟩ (yn 10 ⟨1,16,.string,[ys],false⟩))) 11 ⟨1,16,.string,[ys],false⟩ (.node (.node (.node (yn 12 ⟨1,8,.int .u64,[.d (.int .u64 (0))],true⟩) 13 ⟨2,24,.struct [(0,9),(1,12)],[ys,.d (.int .u64 (0))],false⟩ .leaf) 14 ⟨2,24,.struct [(0,9),(1,12)],[ys,.d (.int .u64 (0))],false⟩ (yn 15 (yr 389))) 16 (yr 392) (.node (yn 17 (yr 399)) 18 ⟨1,8,.struct [(0,17)],[yp],false⟩ (yn 19 ⟨1,8,.struct [(0,17)],[yp],false⟩)))) 20 ⟨1,16,.iface,[.d .nili],false⟩ (.node (.node (.node (.node (yn 21 ⟨1,4,.int .i32,[.d (.int .i32 (0))],true⟩) 22 (yl 33) .leaf) 23 (yl 9) (yn 31 (yl 36))) 32 ⟨5,80,.struct [(0,5),(1,9),(2,31),(3,22),(4,3)],[yb,ys,.nils 36,.nils 33,yi],false⟩ (.node (.node (yn 33 ⟨5,80,.struct [(0,5),(1,9),(2,31),(3,22),(4,3)],[yb,ys,.nils 36,.nils 33,yi],false⟩) 35 ⟨5,64,.struct [(0,5),(1,9),(2,2),(3,31),(4,3)],[yb,ys,yi,.nils 36,yi],false⟩ .leaf) 36 ⟨5,64,.struct [(0,5),(1,9),(2,2),(3,31),(4,3)],[yb,ys,yi,.nils 36,yi],false⟩ (yn 37 ⟨1,8,.int .i64,[yi],true⟩))) 40 (yl 148) (.node (.node (.node (yn 41 (yl 152)) 42 (yl 55) .leaf) 43 ⟨3,72,.struct [(0,40),(1,41),(2,42)],[.nils 148,.nils 152,.nils 55],false⟩ (yn 44 ⟨3,72,.struct [(0,40),(1,41),(2,42)],[.nils 148,.nils 152,.nils 55],false⟩)) 46 ⟨1,8,.map 9 4,[.nilm],false⟩ (.node (yn 47 ⟨1,8,.map 9 4,[.nilm],false⟩) 54 ⟨4,72,.struct [(0,9),(1,31),(2,22),(3,3)],[ys,.nils 36,.nils 33,yi],false⟩ (yn 55 ⟨4,72,.struct [(0,9),(1,31),(2,22),(3,3)],[ys,.nils 36,.nils 33,yi],false⟩))))) 57 (yl 176) (.node (.node (.node (.node (.node (yn 58 (yl 179)) 59 (yl 183) .leaf) 60 ⟨6,144,.struct [(0,40),(1,41),(2,42),(3,57),(4,58),(5,59)],[.nils 148,.nils 152,.nils 55,.nils 176,.nils 179,.nils 183],false⟩ (yn 61 ⟨6,144,.struct [(0,40),(1,41),(2,42),(3,57),(4,58),(5,59)],[.nils 148,.nils 152,.nils 55,.nils 176,.nils 179,.nils 183],false⟩)) 66 (ya 1 8 .func .nilf) (.node (.node (yn 69 (ya 1 8 .func .nilf)) 73 (yr 143) .leaf) 74 ⟨2,16,.struct [(0,3),(1,37)],[yi,yi],false⟩ (yn 75 ⟨2,16,.struct [(0,3),(1,37)],[yi,yi],true⟩))) 78 ⟨1,8,.struct [(0,3)],[yi],false⟩ (.node (.node (.node (yn 79 ⟨1,8,.struct [(0,3)],[yi],true⟩) 82 (yr 112) .leaf) 93 ⟨1,8,.int .u64,[.d (.int .u64 (0))],true⟩ (yn 105 (yr 164))) 108 (yl 170) (.node (yn 111 ⟨6,64,.struct [(0,108),(1,3),(2,3),(3,3),(4,37),(5,3)],[.nils 170,yi,yi,yi,yi,yi],false⟩) 112 ⟨6,64,.struct [(0,108),(1,3),(2,3),(3,3),(4,37),(5,3)],[.nils 170,yi,yi,yi,yi,yi],false⟩ (yn 118 ⟨1,8,.int .i64,[yi],true⟩)))) 126 ⟨1,4,.int .u32,[.d (.int .u32 (0))],true⟩ (.node (.node (.node (.node (yn 128 ⟨1,8,.int .u64,[.d (.int .u64 (0))],true⟩) 130 (yr 136) .leaf) 131 (yr 134) (yn 132 (yl 5))) 133 ⟨2,32,.struct [(0,131),(1,132)],[yp,.nils 5],false⟩ (.node (yn 134 ⟨2,32,.struct [(0,131),(1,132)],[yp,.nils 5],false⟩) 135 ⟨2,32,.struct [(0,134)],[yp,.nils 5],false⟩ (yn 136 ⟨2,32,.struct [(0,134)],[yp,.nils 5],false⟩))) 140 ⟨1,8,.map 9 156,[.nilm],false⟩ (.node (.node (.node (yn 141 ⟨1,8,.map 9 3,[.nilm],false⟩) 142 ⟨7,104,.struct [(0,141),(1,141),(2,141),(3,140),(4,44)],[.nilm,.nilm,.nilm,.nilm,.nils 148,.nils 152,.nils 55],false⟩ .leaf) 143 ⟨7,104,.struct [(0,141),(1,141),(2,141),(3,140),(4,44)],[.nilm,.nilm,.nilm,.nilm,.nils 148,.nils 152,.nils 55],false⟩ (yn 145 (yl 196))) 146 (yl 155) (.node (yn 147 ⟨6,96,.struct [(0,5),(1,9),(2,9),(3,145),(4,146),(5,3)],[yb,ys,ys,.nils 196,.nils 155,yi],false⟩) 148 ⟨6,96,.struct [(0,5),(1,9),(2,9),(3,145),(4,146),(5,3)],[yb,ys,ys,.nils 196,.nils 155,yi],false⟩ (yn 151 ⟨6,56,.struct [(0,9),(1,145),(2,4),(3,4),(4,4),(5,3)],[ys,.nils 196,yf,yf,yf,yi],false⟩)))))) 152 ⟨6,56,.struct [(0,9),(1,145),(2,4),(3,4),(4,4),(5,3)],[ys,.nils 196,yf,yf,yf,yi],false⟩ (.node (.node (.node (.node (.node (.node (yn 154 ⟨2,40,.struct [(0,9),(1,145)],[ys,.nils 196],false⟩) 155 ⟨2,40,.struct [(0,9),(1,145)],[ys,.nils 196],false⟩ .leaf) 156 ⟨2,16,.array 2 3,[yi,yi],false⟩ (yn 160 (ya 1 8 .func .nilf))) 163 ⟨7,96,.struct [(0,73),(1,55),(5,141),(6,4)],[yp,ys,.nils 36,.nils 33,yi,.nilm,yf],false⟩ (.node (.node (yn 164 ⟨7,96,.struct [(0,73),(1,55),(5,141),(6,4)],[yp,ys,.nils 36,.nils 33,yi,.nilm,yf],false⟩) 169 ⟨5,48,.struct [(0,5),(1,9),(2,2),(3,3),(4,3)],[yb,ys,yi,yi,yi],false⟩ .leaf) 170 ⟨5,48,.struct [(0,5),(1,9),(2,2),(3,3),(4,3)],[yb,ys,yi,yi,yi],true⟩ (yn 175 ⟨11,232,.struct [(0,9),(1,23),(2,9),(3,23),(4,61),(10,3)],[ys,.nils 9,ys,.nils 9,.nils 148,.nils 152,.nils 55,.nils 176,.nils 179,.nils 183,yi],false⟩))) 176 ⟨11,232,.struct [(0,9),(1,23),(2,9),(3,23),(4,61),(10,3)],[ys,.nils 9,ys,.nils 9,.nils 148,.nils 152,.nils 55,.nils 176,.nils 179,.nils 183,yi],false⟩ (.node (.node (.node (yn 178 ⟨4,64,.struct [(0,9),(1,9),(2,23),(3,3)],[ys,ys,.nils 9,yi],false⟩) 179 ⟨4,64,.struct [(0,9),(1,9),(2,23),(3,3)],[ys,ys,.nils 9,yi],false⟩ .leaf) 182 ⟨2,24,.struct [(0,9),(1,3)],[ys,yi],false⟩ (yn 183 ⟨2,24,.struct [(0,9),(1,3)],[ys,yi],true⟩)) 185 ⟨1,8,.int .u64,[.d (.int .u64 (0))],true⟩ (.node (yn 189 (yr 3)) 192 (ya 1 8 .func .nilf) (yn 195 ⟨2,32,.struct [(0,9),(1,9)],[ys,ys],false⟩)))) 196 ⟨2,32,.struct [(0,9),(1,9)],[ys,ys],true⟩ (.node (.node (.node (.node (yn 197 (ya 1 8 .func .nilf)) 198 (ya 1 8 .func .nilf) .leaf) 200 (ya 1 8 .func .nilf) (yn 203 (ya 1 8 .func .nilf))) 205 (ya 1 8 .func .nilf) (.node (.node (yn 207 (ya 1 8 .func .nilf)) 212 ⟨3,3,.array 3 4,[yf,yf,yf],false⟩ .leaf) 213 ⟨3,48,.array 3 9,[ys,ys,ys],false⟩ (yn 217 (yr 258)))) 219 (yr 5) (.node (.node (.node (yn 222 (yl 3)) 226 ⟨1,8,.map 9 23,[.nilm],false⟩ .leaf) 239 (yr 185) (yn 242 (ya 1 8 .func .nilf))) 243 ⟨1,16,.iface,[.d .nili],false⟩ (.node (yn 244 ⟨1,16,.iface,[.d .nili],false⟩) 252 ⟨2,16,.struct [(0,3),(1,37)],[yi,yi],false⟩ (yn 253 ⟨2,16,.struct [(0,3),(1,37)],[yi,yi],true⟩))))) 255 ⟨3,40,.struct [(0,108),(1,3),(2,3)],[.nils 170,yi,yi],false⟩ (.node (.node (.node (.node (.node (yn 256 ⟨3,40,.struct [(0,108),(1,3),(2,3)],[.nils 170,yi,yi],false⟩) 257 ⟨4,48,.struct [(0,256),(3,3)],[.nils 170,yi,yi,yi],false⟩ .leaf) 258 ⟨4,48,.struct [(0,256),(3,3)],[.nils 170,yi,yi,yi],false⟩ (yn 278 (yr 280))) 279 ⟨2,24,.struct [(0,9),(1,3)],[ys,yi],false⟩ (.node (.node (yn 280 ⟨2,24,.struct [(0,9),(1,3)],[ys,yi],true⟩) 286 ⟨3,32,.struct [(0,3),(1,9),(2,3)],[yi,ys,yi],false⟩ .leaf) 287 ⟨3,32,.struct [(0,3),(1,9),(2,3)],[yi,ys,yi],true⟩ (yn 294 ⟨6,96,.array 6 9,[ys,ys,ys,ys,ys,ys],false⟩))) 295 ⟨4,64,.array 4 9,[ys,ys,ys,ys],false⟩ (.node (.node (.node (yn 299 ⟨2,16,.struct [(0,3),(1,37)],[yi,yi],false⟩) 300 ⟨2,16,.struct [(0,3),(1,37)],[yi,yi],true⟩ .leaf) 301 (yr 256) (yn 335 ⟨2,2,.struct [(0,5),(1,5)],[yb,yb],false⟩)) 336 ⟨2,2,.struct [(0,5),(1,5)],[yb,yb],false⟩ (.node (yn 337 ⟨32,32,.array 16 336,(.replicate 32 yb),false⟩) 347 ⟨24,24,.array 24 5,(.replicate 24 yb),false⟩ (yn 357 (yr 353))))) 358 ⟨5,80,.array 5 9,[ys,ys,ys,ys,ys],false⟩ (.node (.node (.node (.node (yn 364 ⟨20,160,.array 20 128,[.d (.int .u64 (0)),.d (.int .u64 (0)),.d (.int .u64 (0)),.d (.int .u64 (0)),.d (.int .u64 (0)),.d (.int .u64 (0)),.d (.int .u64 (0)),.d (.int .u64 (0)),.d (.int .u64 (0)),.d (.int .u64 (0)),.d (.int .u64 (0)),.d (.int .u64 (0)),.d (.int .u64 (0)),.d (.int .u64 (0)),.d (.int .u64 (0)),.d (.int .u64 (0)),.d (.int .u64 (0)),.d (.int .u64 (0)),.d (.int .u64 (0)),.d (.int .u64 (0))],false⟩) 370 ⟨2,24,.struct [(0,9),(1,5)],[ys,yb],false⟩ .leaf) 371 ⟨4,48,.array 2 370,[ys,yb,ys,yb],false⟩ (yn 374 ⟨1,8,.int .i64,[yi],true⟩)) 376 (yr 383) (.node (yn 379 ⟨32,32,.array 32 5,(.replicate 32 yb),false⟩) 380 ⟨64,64,.array 64 5,(.replicate 64 yb),false⟩ (yn 383 ⟨3,48,.struct [(0,9),(1,9),(2,244)],[ys,ys,.d .nili],false⟩))) 385 (yr 387) (.node (.node (.node (yn 387 ⟨1,16,.struct [(0,9)],[ys],false⟩) 389 ⟨4,40,.struct [(0,17),(1,17),(2,17),(3,9)],[yp,yp,yp,ys],false⟩ .leaf) 393 ⟨1,1,.int .u8,[yb],true⟩ (yn 394 ⟨1,1,.int .u8,[yb],true⟩)) 395 (ya 1 8 .func .nilf) (.node (yn 396 ⟨1,4,.int .i32,[.d (.int .i32 (0))],true⟩) 397 ⟨1,4,.int .i32,[.d (.int .i32 (0))],true⟩ (yn 399 ⟨11,48,.struct [(0,12),(1,12),(2,126),(3,393),(4,5),(5,5),(6,394),(7,395),(8,219),(9,396),(10,397)],[.d (.int .u64 (0)),.d (.int .u64 (0)),.d (.int .u32 (0)),yb,yb,yb,yb,.d .nilf,yp,.d (.int .i32 (0)),.d (.int .i32 (0))],false⟩)))))))
def Zx:TabOK Vq Tryz.prog:=by unfold TabOK;kernel_rfl
def mixed:Tryz.prog.follows .mixedOrders=true:=by kernel_rfl
abbrev Bs:=List UInt8
def Zp (c:Int):Bool:=decide (48<=c/\c<=57)
def Zm (c:Int):Bool:=decide (c=95\/128<=c\/(97<=c/\c<=122)\/(65<=c/\c<=90))
def pk (r:Bs):Int×Nat:=if r=[]\/Lib.decodeL r=(65533,1) then (-1,1) else ((Lib.decodeL r).1,(Lib.decodeL r).2)
def YZ:Nat->Bs->Nat
 | 0,_=>0
 | f+1,r=>if (pk r).1=46 then (if Zm (pk (r.drop 1)).1=true then (pk r).2+YZ f (r.drop (pk r).2) else 0)
   else if Zm (pk r).1=true\/Zp (pk r).1=true then (pk r).2+YZ f (r.drop (pk r).2) else 0
def VB (r:Bs):Nat:=YZ (r.length+1) r
def ZV:Nat->Bs->Bool×Nat
 | 0,_=>(false,0)
 | f+1,r =>
  let rest:=Lib.trimLeftS r [32,9,13,10]
  let k:=r.length - rest.length
  if Lib.hasPrefix rest [47,47]=true then
   let n:=if Lib.indexByte rest 10<0 then rest.length else (Lib.indexByte rest 10).toNat
   let t:=ZV f (rest.drop n)
   (t.1,k+n+t.2)
  else if Lib.hasPrefix rest [47,42]=true then
   if Lib.index (rest.drop 2) [42,47]<0 then (false,k) else
   let n:=(Lib.index (rest.drop 2) [42,47]).toNat+4
   let t:=ZV f (rest.drop n)
   (t.1,k+n+t.2)
  else (true,k)
def YQ (r:Bs):Bool×Nat:=ZV (r.length+1) r
def X6 (fx:Bool) (b:UInt8):Bool:=Zp b.toNat || (fx && decide ((97<=b.toNat/\b.toNat<=102)\/(65<=b.toNat/\b.toNat<=70)))
def Zgu (b:UInt8):Nat:=if b.toNat<=57 then b.toNat - 48 else if b.toNat<=70 then b.toNat - 55 else b.toNat - 87
def WC (base:Nat) (l:Bs):Nat:=l.foldl (fun n b=>n * base+Zgu b) 0
def W9 (r:Bs):Bool:=Lib.hasPrefix r [48,120]
def Zd (r:Bs):Bs:=(r.drop (if W9 r then 2 else 0)).takeWhile (X6 (W9 r))
def ZH (r:Bs):Nat:=(if W9 r then 2 else 0)+(Zd r).length
def Z1 (r:Bs):Option Nat :=
 if Zd r=[] then none
 else if (if W9 r then 18446744073709551616 else 9223372036854775808)<=WC (if W9 r then 16 else 10) (Zd r) then none
 else if Zm (pk (r.drop (ZH r))).1=true\/Zp (pk (r.drop (ZH r))).1=true\/(W9 r=true/\16<(Zd r).length) then none
 else some (WC (if W9 r then 16 else 10) (Zd r))
def ZvU (c:Nat):Option UInt8:=if c=110 then some 10 else if c=116 then some 9 else if c=34 then some 34 else if c=92 then some 92 else none
inductive TR where
 | err (at':Nat) | ok (txt:Bs) (len:Nat)
 deriving DecidableEq
def Z9:Nat->Bs->Bool->Bs->Nat->TR
 | 0,_,_,_,_=>.err 0
 | f+1,r,esc,acc,p =>
  if r=[] then .err 0
  else if esc=true then (match ZvU (Lib.decodeL r).1 with
   | none=>.err (p - 1)
   | some b=>Z9 f (r.drop (Lib.decodeL r).2) false (acc++[b]) (p+(Lib.decodeL r).2))
  else if (Lib.decodeL r).1=34 then .ok acc (p+1)
  else if (Lib.decodeL r).1=92 then Z9 f (r.drop (Lib.decodeL r).2) true acc (p+(Lib.decodeL r).2)
  else if (pk r).1<32 then .err p
  else Z9 f (r.drop (Lib.decodeL r).2) false (acc++Lib.encodeRune (Lib.decodeL r).1) (p+(Lib.decodeL r).2)
def WQ (r:Bs):TR:=Z9 (r.length+1) (r.drop 1) false [] 1
def twos:List Bs:=[[58,45],[33,61],[60,61],[62,61],[60,58]]
def ones:Bs:=[40,41,91,93,123,125,44,46,58,33,61,60,62,43,45,42,47,37,124,36,126]
def XI (r:Bs):Nat:=if twos.any (Lib.hasPrefix r) then 2 else if ones.contains (r.getD 0 0) then 1 else 0
structure Tok where
 kind:Nat
 text:Bs
 n:Int
 at':Nat
 fin:Nat
 deriving DecidableEq
inductive NR where
 | bad (at':Nat) (e:Nat) | tok (t:Tok)
 deriving DecidableEq
def WS (a:Nat) (r:Bs):NR:=match Z1 r with | none=>.bad a 142 | some n=>.tok ⟨2,[],IntKind.i64.wrap n,a,a+ZH r⟩
def Zeo (a:Nat) (r:Bs):NR:=match WQ r with | .err p=>.bad (a+p) 141 | .ok t l=>.tok ⟨3,t,0,a,a+l⟩
def Jt (a:Nat) (r:Bs) (room:Bool):NR :=
 let c:=(pk r).1
 let n:=XI r
 if n=0/\c≠34/\Zm c=false/\Zp c=false then .bad a 140
 else if room=false then .bad a 3
 else if 0<n then .tok ⟨4,r.take n,0,a,a+n⟩
 else if c=34 then Zeo a r
 else if Zp c=true then WS a r
 else .tok ⟨1,r.take (VB r),0,a,a+VB r⟩
def Ug:Nat->Int->Nat->Bs->List Tok×(Nat×Nat)
 | 0,_,_,_=>([],(0,0))
 | f+1,bc,a,r =>
  if (YQ r).1=false then ([],(a+(YQ r).2,140))
  else
   let a:=a+(YQ r).2
   let r:=r.drop (YQ r).2
   if r=[] then ([],(0,0))
   else match Jt a r (decide (0<bc)) with
    | .bad p e=>([],(p,e))
    | .tok t=>let u:=Ug f (bc - 1) t.fin (r.drop (t.fin - a));(t::u.1,u.2)
def Zep (s:Bs) (bc:Int):List Tok×(Nat×Nat):=Ug (s.length+1) bc 0 s
end Go.PM.Lex
end

section
noncomputable section
namespace Go.PM.Lex
open Go.Proofs
def kR {P:Prop} (h:P:=by kernel_rfl):P:=h
abbrev GG (w0:World) (nG:Nat):GE:=⟨Tryz.prog,w0,nG⟩
def pc {w0:World} {nG:Nat} {tbl:Tbl} {sp:Zn} {g:FuncId} {fn:Func} {c:Code} (ht:TblOK (GG w0 nG) tbl) (hf:Tryz.prog.funcs[g]?=some fn) (h:∀args σ K,sp args σ K->∃loops keep own,σ.bx.length<=keep/\args.length<=fn.ntmps/\WF (ctx Vq tbl loops) fn keep own args σ K) (hb:fn.body=some c:=by rfl) (hn:(fn.name == "runtime.NumGoroutine") = false:=by kernel_rfl) (hk:ZE fn.ntmps c=true:=by kernel_rfl):PCalls (GG w0 nG) g sp:=Zh9 Zx mixed ht hf hb hn hk h
abbrev PC (w0:World) (nG:Nat):=PCalls (GG w0 nG)
abbrev TO (w0:World) (nG:Nat):=TblOK (GG w0 nG)
abbrev OKw (w0:World) (nG:Nat) (T:Tbl) (g:FuncId) (sp:Zn):Prop:=TO w0 nG T->PC w0 nG g sp
def pwt {w0:World} {nG:Nat} {tbl:Tbl} (ht:TO w0 nG tbl) {g:FuncId} {fn:Func} {sp:Zn} (hf:Tryz.prog.funcs[g]?=some fn) (h:∀args σ K,sp args σ K->∃loops keep own,σ.bx.length<=keep/\args.length<=fn.ntmps/\WF (ctx Vq tbl loops) fn keep own args σ K) (hb:fn.body=some (YP fn):=by rfl) (hn:(fn.name=="runtime.NumGoroutine")=false:=by kernel_rfl) (ho:ZE fn.ntmps (YP fn)=true:=by kernel_rfl):PC w0 nG g sp:=Zh9 Zx mixed ht hf hb hn ho h
def pwo {w0:World} {nG:Nat} {tbl:Tbl} {g:FuncId} {fn:Func} {sp:Zn} (hf:Tryz.prog.funcs[g]?=some fn) (h:∀args σ K,sp args σ K->∃loops keep own,σ.bx.length<=keep/\args.length<=fn.ntmps/\WF (ctx Vq tbl loops) fn keep own args σ K) (hb:fn.body=some (YP fn):=by rfl) (hn:(fn.name=="runtime.NumGoroutine")=false:=by kernel_rfl) (ho:ZE fn.ntmps (YP fn)=true:=by kernel_rfl):OKw w0 nG tbl g sp:=fun ht=>pwt ht hf h hb hn ho
def pwe {w0:World} {nG:Nat} {g:FuncId} {fn:Func} {sp:Zn} (hf:Tryz.prog.funcs[g]?=some fn) (h:∀args σ K,sp args σ K->∃loops keep own,σ.bx.length<=keep/\args.length<=fn.ntmps/\WF (ctx Vq [] loops) fn keep own args σ K) (hb:fn.body=some (YP fn):=by rfl) (hn:(fn.name=="runtime.NumGoroutine")=false:=by kernel_rfl) (ho:ZE fn.ntmps (YP fn)=true:=by kernel_rfl):PC w0 nG g sp:=pwt (tbl:=[]) trivial hf h hb hn ho
def pwv {T:Tab} {tbl:Tbl} {fn:Func} {args:List PV} {σ:St} {K:PEnd->St->Prop} {Q:Prop} (l:List (Nat×LoopAnn)) (k:Nat) (b:Bool) (q:Q) (h:Q->WF (ctx T tbl (Zj l)) fn k b args σ K:=by intro k;(conv=>whnf);exact k) (h1:σ.bx.length<=k:=by simp) (h2:args.length<=fn.ntmps:=by exact Tc rfl):∃loops keep own,σ.bx.length<=keep/\args.length<=fn.ntmps/\WF (ctx T tbl loops) fn keep own args σ K:=⟨Zj l,k,b,h1,h2,h q⟩
def pwu {T:Tab} {tbl:Tbl} {fn:Func} {args:List PV} {σ:St} {K:PEnd->St->Prop} (l:List (Nat×LoopAnn)) (k:Nat) (b:Bool) (q:WF (ctx T tbl (Zj l)) fn k b args σ K) (h1:σ.bx.length<=k:=by simp) (h2:args.length<=fn.ntmps:=by exact Tc rfl):∃loops keep own,σ.bx.length<=keep/\args.length<=fn.ntmps/\WF (ctx T tbl loops) fn keep own args σ K:=⟨Zj l,k,b,h1,h2,q⟩
def lzI {i n m:Nat} (e:n=m) (h:(i:Int)<(n:Int)):i<m:=by omega
def lzE {i n m:Nat} (e:n=m) (hi:i<=m) (h:¬(i:Int)<(n:Int)):i=m:=by omega
def lzG {i n m:Nat} (e:n=m) (h:¬(i:Int)<(n:Int)):m<=i:=by omega
def lzM {i n:Nat} (h:i<n):((n:Int) - ((i:Int)+1)).toNat<((n:Int) - (i:Int)).toNat:=by omega
def mu1 (n:Nat):List PV->St->Nat:=fun vs _=>match vs with | [.d (.int _ i)]=>((n:Int) - i).toNat | _=>0
def mu2 (n:Nat):List PV->St->Nat:=fun vs _=>match vs with | [_,.d (.int _ i)]=>((n:Int) - i).toNat | _=>0
def Zff (s:Bs) (pos:Nat):decodeL s pos=Lib.decodeL (s.drop pos):=by
 have:=Lib.decodeL_drop ⟨s.toArray⟩ pos;simpa [decodeL] using this.symm
def Xr:Zn:=fun args σ K=>match args with
 | [.d (.str s),.d (.str p)]=>K (.ret (.d (.bool (Lib.hasPrefix s p)))) σ
 | _=>False
def Wp:Zn:=fun args σ K=>match args with
 | [.d (.str s),.d (.int .u8 c)]=>K (.ret (.d (.int .i64 (Lib.indexByte s c.toNat.toUInt8)))) σ
 | _=>False
def Zj5:Zn:=fun args σ K=>match args with
 | [.d (.str s),.d (.str p)]=>s.length<4294967281/\K (.ret (.d (.int .i64 (Lib.index s p)))) σ
 | _=>False
def Zda:Zn:=fun args σ K=>match args with
 | [.d (.int .i32 c)]=>K (.ret (.d (.int .i64 (Lib.runeLen c)))) σ
 | _=>False
def ZaY:Zn:=fun args σ K=>match args with
 | [.d (.str s),.d (.str p)]=>(p.length<4294967281/\∀(j:Nat) b,p[j]?=some b->b.toNat<128)/\K (.ret (.d (.str (Lib.trimLeftS s p)))) σ
 | _=>False
abbrev Zeq (k:Int) (x:Bs) (n a f:Int):PV:=.agg [.d (.int .u8 k),.d (.str x),.d (.int .i64 n),.d (.int .i64 a),.d (.int .i64 f)]
abbrev Zia (a e:Int):PV:=.agg [.d (.int .i64 a),.d (.int .i64 e)]
def NR.t:NR->Tok | .bad _ _=>⟨0,[],0,0,0⟩ | .tok t=>t
def NR.p:NR->Nat | .bad p _=>p | .tok _=>0
def NR.e:NR->Nat | .bad _ e=>e | .tok _=>0
abbrev ZDh (x:NR):PV:=.tuple [Zeq x.t.kind x.t.text x.t.n x.t.at' x.t.fin,Zia x.p x.e]
def UN:Zn:=fun args σ K=>match args,σ with
 | [.d (.int .i32 c)],⟨[],[],0⟩=>(-1<=c/\c<2147483648)/\K (.ret (.d (.bool (Zm c)))) ⟨[],[],0⟩
 | _,_=>False
def Zdb:Zn:=fun args σ K=>match args,σ with
 | [.d (.int .i32 c)],⟨[],[],0⟩=>K (.ret (.d (.bool (Zp c)))) ⟨[],[],0⟩
 | _,_=>False
def ZbH:Zn:=fun args σ K=>match args,σ with
 | [.ptr 0 0,.d (.int .i64 at')],⟨[.cells t [.d (.str s),.d (.int .i64 a)]],[],0⟩=>(0<=at'/\s.length<4611686018427387904) /\
   K (.ret (.tuple [.d (.int .i32 (pk (s.drop at'.toNat)).1),.d (.int .i64 (pk (s.drop at'.toNat)).2)])) ⟨[.cells t [.d (.str s),.d (.int .i64 a)]],[],0⟩
 | _,_=>False
def Zib:Zn:=fun args σ K=>match args,σ with
 | [.ptr 0 0],⟨[.cells t [.d (.str s),.d (.int .i64 a)]],[],0⟩=>(0<=a/\a<=s.length/\s.length<4294967281) /\
   K (.ret (Zeq 1 ((s.drop a.toNat).take (VB (s.drop a.toNat))) 0 a (a+VB (s.drop a.toNat)))) ⟨[.cells t [.d (.str s),.d (.int .i64 a)]],[],0⟩
 | _,_=>False
def ZaZ:Zn:=fun args σ K=>match args,σ with
 | [.ptr 0 0],⟨[.cells t [.d (.str s),.d (.int .i64 a)]],[],0⟩=>(0<=a/\a<=s.length/\s.length<4294967281) /\
   K (.ret (.d (.bool (YQ (s.drop a.toNat)).1))) ⟨[.cells t [.d (.str s),.d (.int .i64 (a+(YQ (s.drop a.toNat)).2))]],[],0⟩
 | _,_=>False
def Zlr:Zn:=fun args σ K=>match args,σ with
 | [.ptr 0 0],⟨[.cells t [.d (.str s),.d (.int .i64 a)]],[],0⟩=>(0<=a/\a<s.length/\s.length<4294967281) /\
   K (.ret (.d (.int .i64 (XI (s.drop a.toNat))))) ⟨[.cells t [.d (.str s),.d (.int .i64 a)]],[],0⟩
 | _,_=>False
def Zic:Zy ZaZ:=fun args σ K K' hK h=>by
 unfold ZaZ at h |-;split at h <;> first | exact ⟨h.1,hK _ _ h.2⟩ | exact h.elim
end Go.PM.Lex
end
end

section
noncomputable section
namespace Go.PM
def YK {G:GE} {g:FuncId} {sp:Zn} (gu:Wi G.P g)
  (h:∀args σ K,sp args σ K->∀(e:Env) (w:World) (vs:Array Value),SRel G e σ w->ArgsRel G e σ w args vs->∃pv,K (.ret pv) σ/\∃v,(∀w',Grows w w'->VRel G e σ w' pv v)/\Calls G.P g vs w fun en w'=>en=.returned v/\Grows w w'):PCalls G g sp where
 enters:=gu
 calls:=fun args σ K hs n e w vs hS ha=>by
  obtain ⟨pv,hK,v,hv,hc⟩:=h args σ K hs e w vs hS ha;refine CallsIn.mono (callsIn_wide.2 hc) fun en w' ⟨he,hg⟩=>?_
  subst he;exact ⟨.ret pv,σ,e,hK,⟨v,rfl,hv w' hg⟩,hS.grow hg,(hg.stepped e σ).toLater⟩
def ZF0 {w w':World} (h:RowKit.Below w.heap.size w w'):Grows w w':=⟨h.os,h.tape,h.output,h.size,h.block⟩
section
variable {G:GE} {e:Env} {σ:St} {w:World} {vs:Array Value}
def Zer {x:PV} (h:ArgsRel G e σ w [x] vs):∃u,vs=#[u]/\VRel G e σ w x u:=by
 obtain ⟨hs,hr⟩:=h;obtain ⟨l⟩:=vs
 match l,hs with
 | [u],_=>exact ⟨u,rfl,hr 0 x u rfl rfl⟩
def Zj6 {x y:PV} (h:ArgsRel G e σ w [x,y] vs):∃u v,vs=#[u,v]/\VRel G e σ w x u/\VRel G e σ w y v:=by
 obtain ⟨hs,hr⟩:=h;obtain ⟨l⟩:=vs
 match l,hs with
 | [u,v],_=>exact ⟨u,v,rfl,hr 0 x u rfl rfl,hr 1 y v rfl rfl⟩
end
end Go.PM
namespace Go.PM.Lex
open Go.Proofs
variable {w0:World} {nG:Nat}
def WJ:PC w0 nG 261 Xr:=YK (Ze Tryz.func261 kR rfl) fun args σ K h e w vs hS ha=>by
 unfold Xr at h
 split at h
 ·obtain ⟨u,v,rfl,hu,hv⟩:=Zj6 ha
  cases hu.dstr;cases hv.dstr
  exact ⟨_,h,_,fun _ _=>.mkbool,(Tryz.strings_HasPrefix _ _ w).mono fun en w' ⟨h1,h2⟩=>⟨h1,by rw [h2];exact Grows.refl _⟩⟩
 exact h.elim
def Uh:PC w0 nG 289 Wp:=YK (Ze Tryz.func289 kR rfl) fun args σ K h e w vs hS ha=>by
 unfold Wp at h
 split at h
 ·obtain ⟨u,v,rfl,hu,hv⟩:=Zj6 ha
  cases hu.dstr;cases hv.dint
  exact ⟨_,h,_,fun _ _=>.mkint,(Tryz.strings_IndexByte _ _ w).mono fun en w' ⟨h1,h2⟩=>⟨h1,by rw [h2];exact Grows.refl _⟩⟩
 exact h.elim
def Znm:PC w0 nG 260 Zda:=YK (Ze Tryz.func260 kR rfl) fun args σ K h e w vs hS ha=>by
 unfold Zda at h
 split at h
 ·obtain ⟨u,rfl,hu⟩:=Zer ha
  cases hu.dint
  exact ⟨_,h,_,fun _ _=>.mkint,(Tryz.utf8_RuneLen _ w).mono fun en w' ⟨h1,h2⟩=>⟨h1,by rw [h2];exact Grows.refl _⟩⟩
 exact h.elim
def ZsK (h2:2<nG) (hm:∃m,w0.cell? ⟨2,0,none⟩=some (.int .i64 m)):PC w0 nG 298 Zj5:=YK (Ze Tryz.func298 kR rfl) fun args σ K h e w vs hS ha=>by
 unfold Zj5 at h
 split at h
 ·rename_i s p
  obtain ⟨u,v,rfl,hu,hv⟩:=Zj6 ha
  cases hu.dstr;cases hv.dstr
  obtain ⟨m,hm⟩:=hm;have xg:w.cell? ⟨2,0,none⟩=some (.int .i64 m):=by
   have:=hS.glob 2 h2;simpa [World.cell?,this] using hm
  exact ⟨_,h.2,_,fun _ _=>.mkint,(Tryz.strings_Index ⟨s.toArray⟩ ⟨p.toArray⟩ m w (show s.toArray.size<_ by simpa using h.1) xg).mono fun en w' ⟨h1,h2⟩=>⟨h1,by rw [h2];exact Grows.refl _⟩⟩
 exact h.elim
def Zj7:PC w0 nG 297 ZaY:=YK (Ze Tryz.func297 kR rfl) fun args σ K h e w vs hS ha=>by
 unfold ZaY at h
 split at h
 ·rename_i s p
  obtain ⟨u,v,rfl,hu,hv⟩:=Zj6 ha
  cases hu.dstr;cases hv.dstr
  refine ⟨_,h.2,_,fun _ _=>.mkstr,(Any.strings_TrimLeft_laid Tryz.lays161 kR ⟨s.toArray⟩ ⟨p.toArray⟩ w (show p.toArray.size<_ by simpa using h.1.1) h.1.2).mono fun en w' ⟨h1,h2⟩=>⟨h1,ZF0 h2⟩⟩
 exact h.elim
end Go.PM.Lex
end
end

section
noncomputable section
namespace Go.PM.Lex
open Go.Proofs
def Zk (l:Bs):List (List D):=l.map fun b=>[.int .u8 b.toNat]
def Ju:Zn:=fun args σ K=>match args,σ with
 | [.d (.str l),.d (.int .i64 base),.d (.int .i64 bits)],⟨[],[],0⟩=>∃fx:Bool,((l.all (X6 fx)=true/\l.length<4294967281)/\base=(if fx then 16 else 10)/\bits=(if fx then 64 else 63)) /\
   ((l=[]\/(if fx then 18446744073709551616 else 9223372036854775808)<=WC (if fx then 16 else 10) l)->∀n,K (.ret (.tuple [.d (.int .u64 n),.iface 376 .undef])) ⟨[],[],0⟩) /\
   (¬(l=[]\/(if fx then 18446744073709551616 else 9223372036854775808)<=WC (if fx then 16 else 10) l)->K (.ret (.tuple [.d (.int .u64 (WC (if fx then 16 else 10) l)),.d .nili])) ⟨[],[],0⟩)
 | _,_=>False
def VC:Zn:=fun args σ K=>match args,σ with
 | [.ptr 0 0,.d (.int .u8 c)],⟨[.cells t [p,.sl 0 e rows]],[0],1⟩=>((p=.d .nilp\/p=.ptr 0 0)/\t=134/\e=5/\(∀r∈rows,r.length=1)/\rows.length<70368744177664) /\
   K (.ret (.d .nili)) ⟨[.cells t [.ptr 0 0,.sl 0 e (rows++[[.int .u8 c]])]],[0],1⟩
 | _,_=>False
def VD:Zn:=fun args σ K=>match args,σ with
 | [.ptr 0 0,.d (.int .i32 c)],⟨[.cells t [p,.sl 0 e rows]],[0],1⟩=>((p=.d .nilp\/p=.ptr 0 0)/\t=134/\e=5/\(∀r∈rows,r.length=1)/\rows.length<70368744177664/\0<=c/\c<=1114111) /\
   K (.ret (.tuple [.d (.int .i64 (((rows++Zk (Lib.encodeRune c)).length:Int) - (rows.length:Int))),.d .nili])) ⟨[.cells t [.ptr 0 0,.sl 0 e (rows++Zk (Lib.encodeRune c))]],[0],1⟩
 | _,_=>False
def Zcm:Zn:=fun args σ K=>match args,σ with
 | [.ptr 0 0],⟨[.cells t [p,.sl 0 e rows]],[0],1⟩=>∃l:Bs,(rows=Zk l/\t=134/\e=5/\(p=.d .nilp\/p=.ptr 0 0)/\l.length<70368744177664)/\K (.ret (.d (.str l))) ⟨[.cells t [p,.d (.sl rows)]],[],0⟩
 | _,_=>False
def Zdc (s:Bs) (c:Int):Int:=if c<128 then Lib.indexByte s c.toNat.toUInt8 else -1
def Wq:Zn:=fun args σ K=>match args,σ with
 | [.d (.str s),.d (.int .i32 c)],⟨[],[],0⟩=>((s=[110,116,34,92]\/s=[10,9,34,92])/\0<=c/\c<=1114111)/\K (.ret (.d (.int .i64 (Zdc s c)))) ⟨[],[],0⟩
 | _,_=>False
def Zcn:Zn:=fun args σ K=>match args,σ with
 | [.ptr 0 0],⟨[.cells t [.d (.str s),.d (.int .i64 a)]],[],0⟩=>(0<=a/\a<s.length/\s.length<4294967281) /\
   K (.ret (ZDh (WS a.toNat (s.drop a.toNat)))) ⟨[.cells t [.d (.str s),.d (.int .i64 a)]],[],0⟩
 | _,_=>False
def Zls:Zn:=fun args σ K=>match args,σ with
 | [.ptr 0 0],⟨[.cells t [.d (.str s),.d (.int .i64 a)]],[],0⟩=>(0<=a/\a<s.length/\s.length<4294967281) /\
   K (.ret (ZDh (Zeo a.toNat (s.drop a.toNat)))) ⟨[.cells t [.d (.str s),.d (.int .i64 a)]],[],0⟩
 | _,_=>False
def Zfg:Zn:=fun args σ K=>match args,σ with
 | [.ptr 0 0,.d (.bool room)],⟨[.cells t [.d (.str s),.d (.int .i64 a)]],[],0⟩=>(0<=a/\a<s.length/\s.length<4294967281) /\
   K (.ret (ZDh (Jt a.toNat (s.drop a.toNat) room))) ⟨[.cells t [.d (.str s),.d (.int .i64 a)]],[],0⟩
 | _,_=>False
def Zj8:Zy Zfg:=fun args σ K K' hK h=>by
 unfold Zfg at h |-;split at h <;> first | exact ⟨h.1,hK _ _ h.2⟩ | exact h.elim
end Go.PM.Lex
end
end

section
namespace Go.PM
def VE {G:GE} {g:FuncId} {sp:Zn} (gu:Wi G.P g)
  (h:∀args σ K,sp args σ K->∀(e:Env) (w:World) (vs:Array Value),SRel G e σ w->ArgsRel G e σ w args vs->∃pv σ' v,K (.ret pv) σ'/\Calls G.P g vs w fun en w'=>en=.returned v/\VRel G e σ' w' pv v/\SRel G e σ' w'/\Later e σ w e σ' w'):PCalls G g sp where
 enters:=gu
 calls:=fun args σ K hs n e w vs hS ha=>by
  obtain ⟨pv,σ',v,hK,hc⟩:=h args σ K hs e w vs hS ha;refine CallsIn.mono (callsIn_wide.2 hc) fun en w' ⟨he,hv,hS',hL⟩=>?_
  subst he;exact ⟨.ret pv,σ',e,hK,⟨v,rfl,hv⟩,hS',hL⟩
section
variable {G:GE} {T:Tab} {e:Env} {σ:St} {w:World}
def Zdd (hT:TabOK T G.P) (hS:SRel G e σ w) {t:TypeId} {b off:Nat} {x:PV} {v:Value} {l cs:List PV} {ty:TypeId} (hb:σ.bx[b]?=some (.cells ty cs)) (hx:VRel G e σ w x v) (hl:x.cells=some l)
  (hlen:l.length=(T.get t).size) (n5:off+l.length<=cs.length) (hk:(T.get t).kind≠.other) :
  Stepped e σ w e (σ.set b (.cells ty (ZT cs off l))) (w.setCells (e.β b) off v.cells.toList)/\SRel G e (σ.set b (.cells ty (ZT cs off l))) (w.setCells (e.β b) off v.cells.toList):=by
 obtain ⟨w1,hr,h1,h2⟩:=Jm hT hS hb hx hl hlen n5 hk;obtain ⟨i,d,z,hi,hd,hs,dk,av,hz,cd,_⟩:=(hT.get hk).ex;obtain ⟨vs,mh,pp,zf⟩:=hS.box b _ hb;obtain ⟨cz,bl⟩:=W2 hx hl;have zj:v.cells.toList.length=l.length:=by simpa using cz
 have kh:∀u∈v.cells.toList,u.oneCell'=true:=fun u hu=>by
  exact mq156
 have af:=run_storeCells_cells (P:=G.P) (e.β b) off v.cells.toList 0 w (fun j hj=>by
   have:off+j<vs.size:=oM;simp [World.cell?,mh,this]) (fun j hj=>by simp [World.frozen?,mh]) kh
 simp only [SO] at af;have dy:(Instr.storeAt t (.pointer (some ⟨e.β b,off,none⟩)) v).run G.P w=.ok () (w.setCells (e.β b) off v.cells.toList):=by
  have n7:v.cells.size=i.size:=by rw [cz,hlen,hs]
  exact mq72
 rw [dy] at hr
 cases hr
 exact ⟨h1,h2⟩
end
end Go.PM
namespace Go.PM.Lex
open Go.Proofs Go.Shelf
variable {w0:World} {nG:Nat}
def u50:Tryz.prog.underlying 131=some (.pointer 134):=kR
def u95:Tryz.prog.underlying 320=some .unsafePointer:=kR
def i53:∃j,Tryz.prog.info? 134=some j/\j.size=2:=by
 have h:(Tryz.prog.info? 134).map (·.size)=some 2:=kR
 obtain ⟨j,h1,h2⟩:=TE.1 h;exact ⟨j,h1,h2⟩
def Zz8:liesAt Tryz.prog Tryz.prog.depth 134 (2 / Tryz.prog.cellsOf 134) 0 134 1=true:=kR
def Zid (b:Nat) (w:World) (h0:w.cell? ⟨b,0,none⟩=some (.pointer (some ⟨b,0,none⟩))) :
  Calls Tryz.prog 235 #[.pointer (some ⟨b,0,none⟩)] w fun e w'=>e=.returned (.tuple #[])/\w'=w:=by
 obtain ⟨j,hj,sv⟩:=i53
 go_enter Tryz.func235,Tryz.ntmps235
 go_wp2
 rw [Go.Lib.run_neq_ptr_same w _ u50 hj]
 go_wp2
 go_end0
 exact ⟨rfl,rfl⟩
def Znn (b:Nat) (w:World) (h0:w.cell? ⟨b,0,none⟩=some (.pointer none)) (ka:w.shape? b=some (134,2)) (jz:w.frozen? ⟨b,0,none⟩=false) :
  Calls Tryz.prog 235 #[.pointer (some ⟨b,0,none⟩)] w fun e w'=>e=.returned (.tuple #[])/\w'=w.setCell ⟨b,0,none⟩ (.pointer (some ⟨b,0,none⟩)):=by
 obtain ⟨j,hj,sv⟩:=i53
 go_enter Tryz.func235,Tryz.ntmps235
 go_wp2
 rw [Go.Lib.run_to_unsafe w ⟨b,0,none⟩ u50 u95 hj (by rw [sv];decide) ka (Nat.zero_lt_succ 1)];simp only [Result.andThen];rw [Oper.upon_value]
 go_wp2
 rw [run_callFunc_extern Tryz.func268 kR kR kR (e:=Extern.AbiNoEscape.same) kR];rw [Go.Lib.run_noEscape];simp only [Result.andThen];rw [Oper.upon_value]
 go_wp2
 rw [Go.Lib.run_from_unsafe w ⟨b,0,none⟩ u95 u50 hj ka Zz8];simp only [Result.andThen];rw [Oper.upon_value]
 go_wp2
 go_end0
 exact ⟨rfl,rfl⟩
def VF:Zn:=fun args σ K=>match args,σ with
 | [.ptr 0 0],⟨[.cells t [p,q]],tk,nx⟩=>((p=.d .nilp\/p=.ptr 0 0)/\t=134)/\K (.ret (.tuple [])) ⟨[.cells t [.ptr 0 0,q]],tk,nx⟩
 | _,_=>False
def ZbI:PC w0 nG 235 VF:=VE (Ze Tryz.func235 kR rfl) fun args σ K h e w vs hS ha=>by
 unfold VF at h
 split at h
 ·rename_i t p q tk nx
  obtain ⟨⟨hp,rfl⟩,hK⟩:=h;obtain ⟨u,rfl,hu⟩:=Zer ha;obtain ⟨cv,cz,bl,ec⟩:=hS.box 0 _ rfl;have dg:cv.size=2:=bl;obtain ⟨x0,gf⟩:∃x,cv[0]?=some x:=⟨cv[0]'oM,by simp [dg]⟩
  have ol:=(ec 0 p x0 rfl gf).1
  cases hu with
  | ptr b off hb =>
  refine ⟨_,_,.tuple #[],hK,?_⟩;rcases hp with rfl | rfl
  ·cases ol with
   | d _ _ hd =>
   cases hd
   refine Calls.mono (Znn (e.β 0) w ?_ ?_ ?_) fun en w' ⟨h1,h2⟩=>?_
   ·simp [World.cell?,cz,gf]
   ·simp only [World.shape?,cz,dg]
   ·simp [World.frozen?,cz]
   have hst:=Zdd (G:=GG w0 nG) (T:=Vq) Zx hS (t:=131) (b:=0) (off:=0) (x:=.ptr 0 0) (v:=.pointer (some ⟨e.β 0,0,none⟩)) (l:=[.ptr 0 0]) (cs:=[.d .nilp,q]) (ty:=134) rfl (.ptr 0 0 hb) rfl rfl sM (by intro h;cases h);rw [h2];exact ⟨h1,.tuple [] #[] rfl (fun i x u hx=>by simp at hx),hst.2,hst.1.toLater⟩
  exact mq92
 exact h.elim
def Zpv {P:Program} {ρ:Ren} (L:Lays.n169 P ρ) (X:Builder.Extra P ρ) (b g cap:Nat) (p:Value) (cur:Array Value) (fz:Nat×Nat) (l:Bs) (w:World) (h0:l≠[])
  (ph:w.heap[b]?=some (.cells #[p,.slice (some ⟨g,0,none⟩) l.length cap] (ρ.t 72) (0,0))) (hg:w.heap[g]?=some (.cells cur (ρ.t 5) fz)) (hn:l.length<=cur.size) (hcap:cap≠0) (cx:l.length<=9223372036854775807)
  (ax:∀j x,l[j]?=some x->w.cell? ⟨g,j,none⟩=some (.int .u8 x.toNat)) :
  Calls P (ρ.f 169) #[.pointer (some ⟨b,0,none⟩)] w fun e w'=>e=.returned (.string ⟨l.toArray⟩)/\w'=w.drew.freeze ⟨g,0,none⟩ l.length:=by
 have c1:w.drew.cell? ⟨b,1,none⟩=some (.slice (some ⟨g,0,none⟩) l.length cap):=by
  have:w.drew.heap[b]?=some (.cells #[p,.slice (some ⟨g,0,none⟩) l.length cap] (ρ.t 72) (0,0)):=ph;rw [Go.Lib.cell_of_heap this];rfl
 have hSD:(Builtin.unsafeSliceData_ #[(ρ.t 37)] (ρ.t 127) #[.slice (some ⟨g,0,none⟩) l.length cap]).run P w.drew=.ok (.pointer (some ⟨g,0,none⟩)) w.drew :=
  Go.Lib.run_unsafeSliceData_row _ _ _ _ _ _ hcap
 have hUS:(Builtin.unsafeString_ #[(ρ.t 127),(ρ.t 3)] (ρ.t 9) #[.pointer (some ⟨g,0,none⟩),.int .i64 l.length]).run P w.drew=.ok (.string ⟨l.toArray⟩) (w.drew.freeze ⟨g,0,none⟩ l.length):=by
  exact mq73
 have mixed:=L.mixed;have t72:=L.t72;have a72:=L.a72;have z72:=L.z72;have v72:=L.v72;have u72:=run_underlying L.t72;have t70:=L.t70;have a70:=L.a70;have z70:=L.z70;have v70:=L.v70;have u70:=run_underlying L.t70;have t37:=L.t37;have a37:=L.a37;have z37:=L.z37;have v37:=L.v37;have u37:=run_underlying L.t37;have t127:=L.t127;have a127:=L.a127;have z127:=L.z127;have v127:=L.v127;have u127:=run_underlying L.t127;have t3:=L.t3;have a3:=L.a3;have z3:=L.z3;have v3:=L.v3;have u3:=run_underlying L.t3;have t9:=L.t9;have a9:=L.a9;have z9:=L.z9;have v9:=L.v9;have u9:=run_underlying L.t9;have t5:=X.t5;have a5:=X.a5;have z5:=X.z5;have v5:=X.v5;have u5:=run_underlying X.t5
 go_enter L.f169,Body.n169_ntmps ρ
 go_wp2
 go_region_o
 all_goals (go_wp2;go_ret;exact ⟨rfl,rfl⟩)
def VG (w:World) (g n k:Nat) (hk:k≠g):(w.drew.freeze ⟨g,0,none⟩ n).heap[k]?=w.heap[k]?:=by
 unfold World.freeze
 split
 ·rfl
 simp only [SE];rw [Tf (fun h=>hk h.symm)];rfl
def Zj9 (w:World) (g n:Nat) {cs:Array Value} {ty:TypeId} {fz:Nat×Nat} (h:w.heap[g]?=some (.cells cs ty fz)):∃fz',(w.drew.freeze ⟨g,0,none⟩ n).heap[g]?=some (.cells cs ty fz'):=by
 have h':w.drew.heap[g]?=some (.cells cs ty fz):=h;unfold World.freeze
 split
 ·exact ⟨fz,h'⟩
 simp only [SE,if_true,h',Sc];exact ⟨_,rfl⟩
def Zz9 {G:GE} {e:Env} {w w':World} {t:TypeId} {p:PV} {rows:List (List D)} (hp:p=.d .nilp\/p=.ptr 0 0) (hS:SRel G e ⟨[.cells t [p,.sl 0 5 rows]],[0],1⟩ w)
  (hsz:w.heap.size<=w'.heap.size) (qa:w'.os=w.os) (htp:w'.tape=w.tape) (jl:w'.output=w.output)
  (ax:∀b off u,w.cell? ⟨b,off,none⟩=some u->w'.cell? ⟨b,off,none⟩=some u)
  (fg:∀b,b<w.heap.size->(∀q,e.M 0=some q->q.1≠b)->w'.heap[b]?=w.heap[b]?) :
  SRel G e ⟨[.cells t [p,.d (.sl rows)]],[],0⟩ w'/\Later e ⟨[.cells t [p,.sl 0 5 rows]],[0],1⟩ w e ⟨[.cells t [p,.d (.sl rows)]],[],0⟩ w':=by
 have hL:Later e ⟨[.cells t [p,.sl 0 5 rows]],[0],1⟩ w e ⟨[.cells t [p,.d (.sl rows)]],[],0⟩ w':={
  len:=Tu _
  beta:=fun _ _=>rfl
  X:=fun _ _ h=>h
  pres:=fun b off u hu ho=>⟨⟨ho.1,ho.2.1,(fun x hx=>by cases hx),ho.2.2.2⟩,ax b off u hu⟩
  fhid:=fun b h=>.inr (.inr h)
  blocks:=fun b hb h1 h2 _=>fg b hb fun q hq=>h2 0 sM q hq
  size:=hsz
  os:=qa
  tape:=htp
  output:=jl
  fresh:=fun i h1 h2=>by simp at h1 h2;omega
  ftok:=fun x hx=>by cases hx }
 have aa:=hS.lt (i:=0) sM;have ot:w'.heap[e.β 0]?=w.heap[e.β 0]?:=fg _ aa fun q hq=>fun h=>(hS.own 0 sM q hq).2.1 0 sM h.symm
 refine ⟨?_,hL⟩;exact {
  inj:=hS.inj
  box:=fun i x hx=>by
   match i,hx with
   | 0,hx =>
    cases hx
    obtain ⟨cv,h1,h2,h3⟩:=hS.box 0 _ rfl;refine ⟨cv,ot.trans h1,h2,fun j y u hy hu=>?_⟩
    match j,hy with
    | 0,hy =>
     exact mq95
    | 1,hy =>
     cases hy
     obtain ⟨q1,q2⟩:=h3 1 (.sl 0 5 rows) u rfl hu;refine ⟨?_,q2⟩
     cases q1 with
     | sl _ _ _ _ hn hd ht=>exact .d _ _ (hd.later hL)
    | j+2,hy=>simp at hy
   | i+1,hx=>simp at hx
  low:=hS.low
  tkn:=fun x hx=>by cases hx
  own:=fun x hx=>by cases hx
  dis:=fun x y hx=>by cases hx
  xlt:=fun b off hx=>TA (hS.xlt b off hx) hsz
  xown:=fun x hx=>by cases hx
  hid:=fun b q hq=>let ⟨k1,k2,k3,k4,k5⟩:=hS.hid b q hq;⟨k1,TA k2 hsz,k3,(fun x hx=>by cases hx),k5⟩
  glob:=fun b hb=>by
   rw [fg b (TA hb hS.big) fun q hq=>fun h=>by have:=(hS.own 0 sM q hq).1;omega];exact hS.glob b hb
  big:=TT hS.big hsz }
def Y3 (l:Bs):(Zk l).length=l.length:=by simp [Zk]
def ZAa:(Tryz.prog.info? 5).map (·.size)=some 1:=kR
def Zie:PC w0 nG 76 Zcm:=VE (Ze Tryz.func76 kR rfl) fun args σ K h e w vs hS ha=>by
 unfold Zcm at h
 split at h
 ·rename_i t p el rows
  obtain ⟨l,⟨rfl,rfl,rfl,hp,cx⟩,hK⟩:=h;obtain ⟨u,rfl,hu⟩:=Zer ha;obtain ⟨cv,cz,bl,ec⟩:=hS.box 0 _ rfl;have dg:cv.size=2:=bl;obtain ⟨v0,v1,rfl⟩:∃v0 v1,cv=#[v0,v1]:=by
   obtain ⟨lst⟩:=cv
   match lst,dg with
   | [a,b],_=>exact ⟨a,b,rfl⟩
  have ca:=(ec 1 (.sl 0 5 (Zk l)) v1 rfl rfl).1
  cases hu with
  | ptr b off hb =>
  refine ⟨_,_,.string ⟨l.toArray⟩,hK,?_⟩;have fin:∀w',w.heap.size<=w'.heap.size->w'.os=w.os->w'.tape=w.tape->w'.output=w.output ->
    (∀b off u,w.cell? ⟨b,off,none⟩=some u->w'.cell? ⟨b,off,none⟩=some u) ->
    (∀b,b<w.heap.size->(∀q,e.M 0=some q->q.1≠b)->w'.heap[b]?=w.heap[b]?) ->
    VRel (GG w0 nG) e ⟨[.cells 134 [p,.d (.sl (Zk l))]],[],0⟩ w' (.d (.str l)) (.string ⟨l.toArray⟩)/\SRel (GG w0 nG) e ⟨[.cells 134 [p,.d (.sl (Zk l))]],[],0⟩ w'/\Later e ⟨[.cells 134 [p,.sl 0 5 (Zk l)]],[0],1⟩ w e ⟨[.cells 134 [p,.d (.sl (Zk l))]],[],0⟩ w':=fun w' h1 h2 h3 h4 h5 h6 =>
   ⟨.mkstr,Zz9 hp hS h1 h2 h3 h4 h5 h6⟩
  have grown:∀w',Grows w w'->_:=fun w' g=>fin w' g.size g.os g.tape g.output (fun b off u hu=>(g.cell (Vv hu)).trans hu) (fun b hb _=>g.old b hb)
  cases ca with
  | sl _ _ _ _ hn hd ht =>
  rcases ht sM with ⟨rfl,bw,hM⟩ | ⟨sz,g1,g2,g3,g,off,cap,cs,ty,fz,rfl,g4,g5,g6,⟨g7,rfl,rfl,g8⟩,g9,hM⟩
  ·have hl:l=[]:=by simpa [Zk] using bw
   subst hl;refine (Any.Builder_String_nil Tryz.lays169 Tryz.Builder_Extra_169 w.heap.size (e.β 0) v0 w cz).mono fun en w' ⟨h1,h2⟩=>?_
   exact ⟨h1,grown w' (ZF0 h2)⟩
  have kg:sz=1:=by
   have:(Tryz.prog.info? 5).map (·.size)=some sz:=g1
   rw [ZAa] at this;cases this;rfl
  subst kg;rw [Y3] at g5 cz g9 hM hd
  by_cases hl:l=[]
  ·subst hl;refine (Any.Builder_String_room Tryz.lays169 Tryz.Builder_Extra_169 w.heap.size (e.β 0) g cap v0 w oM cz).mono fun en w' ⟨h1,h2⟩=>?_
   exact ⟨h1,grown w' (ZF0 h2)⟩
  have ax:∀j x,l[j]?=some x->w.cell? ⟨g,j,none⟩=some (.int .u8 x.toNat):=by
   exact mq31
  obtain ⟨fz',qn⟩:=Zj9 w g l.length g6;refine (Zpv Tryz.lays169 Tryz.Builder_Extra_169 (e.β 0) g cap v0 cs fz l w hl cz g6 oM oM oM ax).mono fun en w' ⟨h1,h2⟩=>?_
  rw [h2];refine ⟨h1,fin _ ?_ ?_ ?_ ?_ ?_ ?_⟩
  ·unfold World.freeze;split <;> first | exact Tu _ | (simp only [Array.size_modify];exact Tu _)
  ·exact mq158
  ·exact mq158
  ·exact mq158
  ·exact mq118
  intro b hb hq
  exact VG w g l.length b fun h=>hq _ hM h.symm
 exact h.elim
end Go.PM.Lex
end

section
namespace Go.PM.Lex
open Go.Proofs
variable {w0:World} {nG:Nat}
def orB (n:Fin 128):Zh .or .i32 (n.val:Int) 32=((n.val ||| 32:Nat):Int):=by rw [Yl];revert n;decide +kernel
def orM:Zh .or .i32 (-1) 32=-1:=by rw [Yl];decide +kernel
def orL:∀n:Fin 128,(97<=(n.val ||| 32)/\(n.val ||| 32)<=122)↔((97<=n.val/\n.val<=122)\/(65<=n.val/\n.val<=90)):=by decide +kernel
def Zpw {c:Int} (h0:-1<=c) (h1:c<128):(97<=Zh .or .i32 c 32/\Zh .or .i32 c 32<=122)↔((97<=c/\c<=122)\/(65<=c/\c<=90)):=by
 by_cases hc:c=-1
 ·subst hc;rw [orM];omega
 obtain ⟨n,rfl⟩:∃n:Nat,c=n:=⟨c.toNat,oM⟩
 have hn:n<128:=oM;have h2:=orB ⟨n,hn⟩;have h3:=orL ⟨n,hn⟩;simp only at h2 h3;rw [h2];omega
def Zlt {K:PEnd->St->Prop} {b b':Bool} {σ:St} (h:K (.ret (.d (.bool b))) σ) (h1:b=b'):K (.ret (.d (.bool b'))) σ:=by subst h1;exact h
def Zgv:PC w0 nG 262 Zdb:=by
 refine Zh9 Zx mixed (tbl:=[]) trivial Tryz.func262 rfl kR kR ?_;intro args σ K h
 unfold Zdb at h
 split at h
 ·rename_i c
  refine ⟨Zj [],0,false,dM,Tc rfl,?_⟩;refine ZFU (fun h1=>?_) (fun h1=>?_)
  ·refine Zlt h ?_;simp only [Zp,decide_eq_decide];omega
  refine Zlt h ?_;simp only [Zp,decide_eq_false_iff_not];omega
 exact h.elim
def J7:PC w0 nG 223 UN:=by
 refine Zh9 Zx mixed (tbl:=[]) trivial Tryz.func223 rfl kR kR ?_;intro args σ K h
 unfold UN at h
 split at h
 ·rename_i c
  obtain ⟨⟨h0,_⟩,h⟩:=h;refine ⟨Zj [],0,false,dM,Tc rfl,?_⟩
  repeat' ((conv=>whnf);refine ZFU (fun h1=>?_) (fun h1=>?_))
  all_goals (conv=>whnf)
  all_goals (try (have hl:=Zpw (c:=c) h0 oM))
  all_goals (refine Zlt h ?_;simp only [Zm,TP,decide_eq_false_iff_not,decide_eq_decide];omega)
 exact h.elim
def ZFx (r:Bs):Lib.hasPrefix r [239,191,189]=true↔2<r.length/\(r.getD 0 0).toNat=239/\(r.getD 1 0).toNat=191/\(r.getD 2 0).toNat=189:=by
 unfold Lib.hasPrefix
 match r with
 | []=>simp
 | [a]=>simp [List.isPrefixOf]
 | [a,b]=>simp [List.isPrefixOf]
 | a::b::c::l =>
  have ha:=UInt8.toNat_inj (a:=239) (b:=a);have hb:=UInt8.toNat_inj (a:=191) (b:=b);have hc:=UInt8.toNat_inj (a:=189) (b:=c);simp only [List.isPrefixOf,Bool.and_true,Tn,beq_iff_eq,Te,SK,SL];rw [<- ha,<- hb,<- hc];have e1:(239:UInt8).toNat=239:=rfl;have e2:(191:UInt8).toNat=191:=rfl;have e3:(189:UInt8).toNat=189:=rfl;rw [e1,e2,e3];omega
def ZEK (r:Bs) (hv:(Lib.decodeL r).1=65533):(Lib.hasPrefix r [239,191,189]=true/\(Lib.decodeL r).2=3)\/(¬Lib.hasPrefix r [239,191,189]=true/\(Lib.decodeL r).2=1):=by
 rw [ZFx];rw [Lib.decodeL_N] at hv |-;have k0:=(r.getD 0 0).toNat_lt;have k1:=(r.getD 1 0).toNat_lt;have k2:=(r.getD 2 0).toNat_lt;have k3:=(r.getD 3 0).toNat_lt
 by_cases hp:2<r.length/\(r.getD 0 0).toNat=239/\(r.getD 1 0).toNat=191/\(r.getD 2 0).toNat=189
 ·left
  refine ⟨hp,?_⟩;obtain ⟨p0,p1,p2,p3⟩:=hp;rw [p1,p2,p3];unfold Lib.decodeN
  have hl:1<r.length:=oM;simp [p0,hl]
 right
 refine ⟨hp,?_⟩;rcases Lib.decodeN_shape r.length (r.getD 0 0).toNat (r.getD 1 0).toNat (r.getD 2 0).toNat (r.getD 3 0).toNat with ⟨c,e⟩ | ⟨c1,c2,c3,cv,e⟩ | ⟨c1,c2,c3,c4,cv,cs,e⟩ | ⟨c1,c2,c3,c4,c5,cv,cw,e⟩ | e
 all_goals (rw [e] at hv)
 all_goals (dsimp only at hv)
 ·omega
 ·omega
 ·exact absurd ⟨c2,oM,oM,oM⟩ hp
 ·omega
 rw [e]
def ZAb:pk []=(-1,1):=by simp [pk]
def ZsL (r:Bs) (h0:0<r.length) (hv:¬(Lib.decodeL r).1=65533):pk r=(((Lib.decodeL r).1:Int),(Lib.decodeL r).2):=by
 have ah:r≠[]:=fun h=>by subst h;simp at h0
 have:Lib.decodeL r≠(65533,1):=fun h=>hv (by rw [h])
 simp [pk,ah,this]
def ZvV (r:Bs) (h0:0<r.length) (hp:Lib.hasPrefix r [239,191,189]=true) (hv:(Lib.decodeL r).1=65533):pk r=(65533,3):=by
 have ah:r≠[]:=fun h=>by subst h;simp at h0
 rcases ZEK r hv with ⟨_,h2⟩ | ⟨h1,_⟩
 ·have:Lib.decodeL r≠(65533,1):=fun h=>by rw [h] at h2;simp at h2
  simp [pk,ah,this,hv,h2]
 exact absurd hp h1
def ZAc (r:Bs) (hp:¬Lib.hasPrefix r [239,191,189]=true) (hv:(Lib.decodeL r).1=65533):pk r=(-1,1):=by
 rcases ZEK r hv with ⟨h1,h2⟩ | ⟨_,h2⟩
 ·exact absurd h1 hp
 have:Lib.decodeL r=(65533,1):=Prod.ext hv h2;simp [pk,this]
def Zpx (r:Bs):1<=(pk r).2/\(pk r).2<=4:=by
 unfold pk
 split
 ·simp
 rename_i h
 simp only [not_or] at h;simp only;rw [Lib.decodeL_N];rcases Lib.decodeN_shape r.length (r.getD 0 0).toNat (r.getD 1 0).toNat (r.getD 2 0).toNat (r.getD 3 0).toNat with ⟨c,e⟩ | ⟨c1,c2,c3,cv,e⟩ | ⟨c1,c2,c3,c4,cv,cs,e⟩ | ⟨c1,c2,c3,c4,c5,cv,cw,e⟩ | e
 all_goals (rw [e];simp)
def WK (r:Bs):-1<=(pk r).1/\(pk r).1<=1114111:=by
 unfold pk
 split
 ·simp
 simp only;exact mq70
def ZAd (r:Bs) (h:(pk r).1≠-1):1<=(pk r).2/\(pk r).2<=r.length/\r≠[]:=by
 have hl:=Zpx r;unfold pk at h hl |-
 split at h
 ·exact absurd rfl h
 rename_i h1
 simp only [not_or] at h1;rw [Tf (by simp only [not_or];exact h1)] at hl |-;exact ⟨hl.1,Lib.decodeL_le r h1.1,h1.1⟩
def Ui {s:Bs} {n:Nat}:cut s n s.length=s.drop n:=by simp [cut]
def ZvX:OKw w0 nG [(260,Zda),(261,Xr)] 222 ZbH:=by
 refine pwo Tryz.func222 fun args σ K h=>?_
 unfold ZbH at h
 split at h
 ·rename_i at' t s a
  obtain ⟨⟨h0,hs⟩,h⟩:=h;refine pwv [(2,⟨[],[0,1,21],fun vs σ=>vs=[]/\σ=⟨[.cells t [.d (.str s),.d (.int .i64 a)],.iter (s.drop at'.toNat) 0],[],0⟩,fun _ _=>0⟩)] 1 false ?_;have f5:cut s (min at' (s.length:Int)).toNat s.length=s.drop at'.toNat:=by
   rw [Ui]
   by_cases hl:at'<=s.length
   ·rw [Int.min_eq_left hl]
   rw [Int.min_eq_right oM,Tq oM,Tq oM]
  refine ⟨oM,wN ?_⟩;refine ⟨oM,wN ?_⟩;refine ⟨⟨rfl,?_⟩,?_⟩
  ·rw [f5];rfl
  intro vs σ1 hI
  obtain ⟨rfl,rfl⟩:=hI;refine ZFU (fun h1=>wN ?_) (fun h1=>wN ?_)
  ·refine ZFX (fun h2=>wN ?_) (fun h2=>wN ?_)
   ·rw [Zff] at h2;have hl:0<(s.drop at'.toNat).length:=by simpa using h1
    rw [Sn] at h2;have ah:¬(Lib.decodeL (s.drop at'.toNat)).1=65533:=oM;rw [ZsL _ hl ah] at h;rw [Zff,Sn];have hr:=Lib.runeLen_decode _ ah;rw [hr];exact h
   rw [Zff] at h2;have hl:0<(s.drop at'.toNat).length:=by simpa using h1
   have hd:(Lib.decodeL (s.drop at'.toNat)).1=65533:=by rw [Sn] at h2;omega
   refine ⟨h0,by simp at hl;omega,wN ?_⟩;refine ZFY (fun h3=>wN ?_) (fun h3=>wN ?_)
   ·rw [Ui] at h3;rw [ZvV _ hl h3 hd] at h;rw [Zff,Sn,hd];exact h
   rw [Ui] at h3;rw [ZAc _ (by rw [h3];simp) hd] at h;exact h
  have:s.drop at'.toNat=[]:=by simp at h1;exact Tq oM
  rw [this,ZAb] at h;exact h
 exact h.elim
def muI (B:Int):List PV->St->Nat:=fun vs _=>match vs with | .d (.int _ n)::_=>(B - n).toNat | _=>0
def ZvZ:OKw w0 nG [(261,Xr),(289,Wp)] 299 Zlr:=by
 refine pwo Tryz.func299 fun args σ K h=>?_
 unfold Zlr at h
 split at h
 ·rename_i t s a
  obtain ⟨⟨h0,h1,hs⟩,h⟩:=h;refine pwv [(3,⟨[16],[0,3,15],fun vs σ=>σ=⟨[.cells t [.d (.str s),.d (.int .i64 a)]],[],0⟩/\∃i:Nat,i<=5/\vs=[.d (.int .i64 i)]/\(twos.take i).any (Lib.hasPrefix (s.drop a.toNat))=false,muI 5⟩)] 1 false ?_;refine ⟨h0,oM,wN ?_⟩;rw [Ui];refine ⟨⟨rfl,0,oM,rfl,rfl⟩,?_⟩;intro vs σ1 hI
  obtain ⟨rfl,i,hi,rfl,hn⟩:=hI
  match i,hi,hn with
  | 0,hi,hn =>
   conv=>whnf
   refine ⟨oM,oM,wN ?_⟩;refine ZFY (fun h2=>wN ?_) (fun h2=>wN ?_)
   ·exact mq40
   refine Zl ?_;refine ⟨⟨rfl,1,oM,rfl,?_⟩,?_⟩
   ·have dj:Lib.hasPrefix (s.drop a.toNat) (twos.getD 0 [])=false:=h2;exact mq56
   exact (show (5 - (((0:Nat):Int)+1)).toNat<(5 - ((0:Nat):Int)).toNat by omega)
  | 1,hi,hn =>
   conv=>whnf
   refine ⟨oM,oM,wN ?_⟩;refine ZFY (fun h2=>wN ?_) (fun h2=>wN ?_)
   ·exact mq40
   refine Zl ?_;refine ⟨⟨rfl,2,oM,rfl,?_⟩,?_⟩
   ·have dj:Lib.hasPrefix (s.drop a.toNat) (twos.getD 1 [])=false:=h2;exact mq56
   exact (show (5 - (((1:Nat):Int)+1)).toNat<(5 - ((1:Nat):Int)).toNat by omega)
  | 2,hi,hn =>
   conv=>whnf
   refine ⟨oM,oM,wN ?_⟩;refine ZFY (fun h2=>wN ?_) (fun h2=>wN ?_)
   ·exact mq40
   refine Zl ?_;refine ⟨⟨rfl,3,oM,rfl,?_⟩,?_⟩
   ·have dj:Lib.hasPrefix (s.drop a.toNat) (twos.getD 2 [])=false:=h2;exact mq56
   exact (show (5 - (((2:Nat):Int)+1)).toNat<(5 - ((2:Nat):Int)).toNat by omega)
  | 3,hi,hn =>
   conv=>whnf
   refine ⟨oM,oM,wN ?_⟩;refine ZFY (fun h2=>wN ?_) (fun h2=>wN ?_)
   ·exact mq40
   refine Zl ?_;refine ⟨⟨rfl,4,oM,rfl,?_⟩,?_⟩
   ·have dj:Lib.hasPrefix (s.drop a.toNat) (twos.getD 3 [])=false:=h2;exact mq56
   exact (show (5 - (((3:Nat):Int)+1)).toNat<(5 - ((3:Nat):Int)).toNat by omega)
  | 4,hi,hn =>
   conv=>whnf
   refine ⟨oM,oM,wN ?_⟩;refine ZFY (fun h2=>wN ?_) (fun h2=>wN ?_)
   ·exact mq40
   refine Zl ?_;refine ⟨⟨rfl,5,oM,rfl,?_⟩,?_⟩
   ·have dj:Lib.hasPrefix (s.drop a.toNat) (twos.getD 4 [])=false:=h2;exact mq56
   exact (show (5 - (((4:Nat):Int)+1)).toNat<(5 - ((4:Nat):Int)).toNat by omega)
  | 5,hi,hn =>
   conv=>whnf
   refine ⟨oM,sO,wN ?_⟩;refine ZFU (fun h2=>wN ?_) (fun h2=>wN ?_)
   ·have e:XI (s.drop a.toNat)=1:=by
     have hc:ones.contains ((s.drop a.toNat).getD 0 0)=true:=by
      rw [Lib.contains_iff_indexByte];simpa [ones] using h2
     rw [XI,Tf (by simpa [twos] using hn),Tk hc]
    rw [e] at h;exact h
   have e:XI (s.drop a.toNat)=0:=by
    have hc:ones.contains ((s.drop a.toNat).getD 0 0)=false:=by
     rw [Lib.contains_iff_indexByte];simpa [ones] using h2
    rw [XI,Tf (by simpa [twos] using hn),Tf (by rw [hc];simp)]
   rw [e] at h;exact h
 exact h.elim
def ZbJ:Zm (-1)=false:=dM
def Zde:Zp (-1)=false:=dM
def Zno {f:Nat} {r:Bs} (h1:(pk r).1=46) (h2:Zm (pk (r.drop 1)).1=true):YZ (f+1) r=(pk r).2+YZ f (r.drop (pk r).2):=by rw [YZ,Tk h1,Tk h2]
def Zgw {f:Nat} {r:Bs} (h1:(pk r).1=46) (h2:Zm (pk (r.drop 1)).1=false):YZ (f+1) r=0:=by rw [YZ,Tk h1,Tf (by rw [h2];simp)]
def Zif {f:Nat} {r:Bs} (h1:¬(pk r).1=46) (h2:Zm (pk r).1=true\/Zp (pk r).1=true):YZ (f+1) r=(pk r).2+YZ f (r.drop (pk r).2):=by rw [YZ,Tf h1,Tk h2]
def Znp {f:Nat} {r:Bs} (h1:¬(pk r).1=46) (h2:Zm (pk r).1=false) (h3:Zp (pk r).1=false):YZ (f+1) r=0:=by rw [YZ,Tf h1,Tf (by simp [h2,h3])]
def Zgx {s:Bs} {a b:Nat}:cut s a b=(s.drop a).take (b - a):=by simp [cut,List.drop_take]
def Zv1:OKw w0 nG [(222,ZbH),(223,UN),(262,Zdb)] 224 Zib:=by
 refine pwo Tryz.func224 fun args σ K h=>?_
 unfold Zib at h
 split at h
 ·rename_i t s a
  obtain ⟨⟨h0,h1,hs⟩,h⟩:=h;obtain ⟨a,rfl⟩:∃n:Nat,a=n:=⟨a.toNat,oM⟩
  simp only [Tj] at h;refine pwu [(2,⟨[3],[0,2],fun vs σ=>σ=⟨[.cells t [.d (.str s),.d (.int .i64 a)],.cells 170 [.d (.int .u8 0),.d (.str []),.d (.int .i64 0),.d (.int .i64 0),.d (.int .i64 0)]],[],0⟩ /\
   ∃e f:Nat,a<=e/\e<=s.length/\vs=[.d (.int .i64 e)]/\s.length<e+f/\e+YZ f (s.drop e)=a+VB (s.drop a),muI s.length⟩)] 1 false ?_
  conv=>whnf
  refine ⟨⟨rfl,a,s.length - a+1,oM,oM,rfl,oM,by simp [VB]⟩,?_⟩;intro vs σ1 hI
  obtain ⟨rfl,e,f,zx,qd,rfl,hf,hn⟩:=hI;obtain ⟨f,rfl⟩:∃g,f=g+1:=⟨f - 1,oM⟩
  have uf:=WK (s.drop e);have eg:=Zpx (s.drop e);have xj:=ZAd (s.drop e);have j9:=WK (s.drop ((e:Int)+1).toNat);have d7:YZ (f+1) (s.drop e)=0->K (.ret (Zeq 1 (cut s a e) 0 a e)) ⟨[.cells t [.d (.str s),.d (.int .i64 a)]],[],0⟩:=fun h3=>by
   have e2:VB (s.drop a)=e - a:=by rw [h3] at hn;omega
   rw [e2,show (a:Int)+((e - a:Nat):Int)=(e:Int) by omega,<- Zgx] at h;exact h
  have gz:∀n:Nat,1<=n->e+n<=s.length->YZ (f+1) (s.drop e)=n+YZ f ((s.drop e).drop n)->a<=e+n/\e+n<=s.length/\s.length<(e+n)+f/\(e+n)+YZ f (s.drop (e+n))=a+VB (s.drop a):=fun n h1 h2 h3=>by
   rw [TM] at h3;exact ⟨oM,h2,oM,by rw [<- hn,h3];omega⟩
  conv=>whnf
  refine ⟨⟨oM,oM⟩,wN ?_⟩;refine ZFU (fun h2=>wN ?_) (fun h2=>wN ?_)
  ·refine Zl ?_;refine ⟨⟨oM,oM⟩,wN ?_⟩;refine ⟨⟨oM,oM⟩,wN ?_⟩;have hw:((e:Int)+1).toNat=e+1:=oM;refine ZFY (fun h3=>wN ?_) (fun h3=>wN ?_)
   ·rw [hw] at h3;refine ⟨oM,oM,oM,wN ?_⟩;exact d7 (Zgw h2 (by rw [TM];simpa using h3))
   rw [hw] at h3;have ah:(pk (s.drop e)).1≠-1:=by have:(pk (s.drop e)).1=46:=h2;omega
   obtain ⟨g1,g2,g3⟩:=xj ah;have g2':e+(pk (s.drop e)).2<=s.length:=by rw [TH] at g2;omega
   refine Or.inl ⟨InR.i64 tN tN,wN ?_⟩;obtain ⟨k1,k2,k3,k4⟩:=gz _ g1 g2' (Zno h2 (by rw [TM];simpa using h3));exact mq63
  have dj:¬(pk (s.drop e)).1=46:=h2;have fin:∀(h4:Zm (pk (s.drop e)).1=true\/Zp (pk (s.drop e)).1=true),a<=e+(pk (s.drop e)).2/\e+(pk (s.drop e)).2<=s.length/\s.length<(e+(pk (s.drop e)).2)+f/\(e+(pk (s.drop e)).2)+YZ f (s.drop (e+(pk (s.drop e)).2))=a+VB (s.drop a):=fun h4=>by
   have ah:(pk (s.drop e)).1≠-1:=fun h5=>by rw [h5,ZbJ,Zde] at h4;simp at h4
   obtain ⟨g1,g2,g3⟩:=xj ah;have g2':e+(pk (s.drop e)).2<=s.length:=by rw [TH] at g2;omega
   exact gz _ g1 g2' (Zif dj h4)
  refine ⟨⟨uf.1,tN⟩,wN ?_⟩;refine ZFY (fun h3=>wN ?_) (fun h3=>wN ?_)
  ·have ek:Zm (pk (s.drop e)).1=false:=by simpa using h3
   refine ZFY (fun h4=>wN ?_) (fun h4=>wN ?_)
   ·have ju:Zp (pk (s.drop e)).1=false:=by simpa using h4
    refine ⟨oM,oM,oM,wN ?_⟩;exact d7 (Znp dj ek ju)
   have ju:Zp (pk (s.drop e)).1=true:=by simpa using h4
   obtain ⟨k1,k2,k3,k4⟩:=fin (.inr ju);refine Or.inl ⟨InR.i64 tN tN,wN ?_⟩;exact mq63
  have ek:Zm (pk (s.drop e)).1=true:=by simpa using h3
  obtain ⟨k1,k2,k3,k4⟩:=fin (.inl ek);refine Or.inl ⟨InR.i64 tN tN,wN ?_⟩;exact mq63
 exact h.elim
def ZFy (B:Int):List PV->St->Nat:=fun _ σ=>match σ.bx with | .cells _ (_::.d (.int _ n)::_)::_=>(B - n).toNat | _=>0
def Uj (p:UInt8->Bool):∀r:Bs,r.dropWhile p=r.drop (r.length - (r.dropWhile p).length)/\(r.dropWhile p).length<=r.length
 | []=>sM
 | x::r=>by
  have ih:=Uj p r
  by_cases hx:p x=true
  ·simp only [List.dropWhile_cons,hx,if_true,Te];refine ⟨?_,oM⟩;rw [show r.length+1 - (r.dropWhile p).length=(r.length - (r.dropWhile p).length)+1 by omega,List.drop_succ_cons];exact ih.1
  simp [List.dropWhile_cons,hx]
def Uk (c:UInt8):∀l:Bs,Lib.indexByte l c<l.length\/Lib.indexByte l c=-1
 | []=>.inr rfl
 | b::l=>by
  have ih:=Uk c l;unfold Lib.indexByte
  split
  ·left;simp
  split
  ·exact .inr rfl
  rename_i h1 h2
  rcases ih with h | h
  ·left;simp;omega
  rw [h] at h2;simp at h2
def Zgy (p:Bs):∀l:Bs,0<=Lib.index l p->Lib.index l p+p.length<=l.length
 | [],h=>by
  unfold Lib.index at h |-
  split at h
  ·rename_i hp
   simp at hp;subst hp;simp
  omega
 | b::l,h=>by
  have ih:=Zgy p l;unfold Lib.index at h |-
  split at h
  ·rename_i hp
   have:=List.IsPrefix.length_le (List.isPrefixOf_iff_prefix.1 hp);simp only [hp,if_true];simp only [Te] at this |-;omega
  split at h
  ·omega
  rename_i h1 h2
  have:=Lib.index_ge l p;have h3:Lib.index l p≠-1:=by simpa using h2
  simp only [h1,h2,Tv,if_false];have:=ih oM;simp only [Te];omega
def Ys {r:Bs} {a b:UInt8} (h:Lib.hasPrefix r [a,b]=true):2<=r.length/\r=a::b::r.drop 2:=by
 obtain ⟨t,rfl⟩:=List.isPrefixOf_iff_prefix.1 h;simp
def Zgz {r:Bs} {a b c:UInt8} (h:Lib.hasPrefix r [a,b]=true) (ha:a≠c) (hb:b≠c) (h0:0<=Lib.indexByte r c):2<=Lib.indexByte r c:=by
 rw [(Ys h).2] at h0 |-;have h1:(a == c)=false:=by simpa using ha
 have h2:(b == c)=false:=by simpa using hb
 have hg:=Lib.indexByte_ge (r.drop 2) c;simp only [Lib.indexByte,h1,h2,Tv,if_false] at h0 |-
 by_cases hm:Lib.indexByte (r.drop 2) c=-1
 ·rw [hm] at h0;simp at h0
 have xg:(Lib.indexByte (r.drop 2) c == -1)=false:=by simpa using hm
 simp only [xg,Tv,if_false] at h0 |-;have:(Lib.indexByte (r.drop 2) c+1 == -1)=false:=sO;simp only [this,Tv,if_false];omega
def ZAe:∀(j:Nat) (b:UInt8),([32,9,13,10]:Bs)[j]?=some b->b.toNat<128
 | 0,b,h=>by simp at h;subst h;decide
 | 1,b,h=>by simp at h;subst h;decide
 | 2,b,h=>by simp at h;subst h;decide
 | 3,b,h=>by simp at h;subst h;decide
 | j+4,b,h=>by simp at h
def ZsN:OKw w0 nG [(297,ZaY),(261,Xr),(289,Wp),(298,Zj5)] 273 ZaZ:=by
 refine pwo Tryz.func273 fun args σ K h=>?_
 unfold ZaZ at h
 split at h
 ·rename_i t s a
  obtain ⟨⟨h0,h1,hs⟩,h⟩:=h;obtain ⟨a,rfl⟩:∃n:Nat,a=n:=⟨a.toNat,oM⟩
  simp only [Tj] at h;refine pwu [(1,⟨[],[0],fun vs σ=>vs=[] /\
   ∃e f:Nat,σ=⟨[.cells t [.d (.str s),.d (.int .i64 e)]],[],0⟩/\a<=e/\e<=s.length/\s.length<e+f/\(ZV f (s.drop e)).1=(YQ (s.drop a)).1/\e+(ZV f (s.drop e)).2=a+(YQ (s.drop a)).2,ZFy s.length⟩)] 1 false ?_
  conv=>whnf
  refine ⟨⟨rfl,a,s.length - a+1,rfl,oM,oM,oM,by simp [YQ],by simp [YQ]⟩,?_⟩;intro vs σ1 hI
  obtain ⟨rfl,e,f,rfl,zx,qd,hf,gc,ip⟩:=hI;obtain ⟨f,rfl⟩:∃g,f=g+1:=⟨f - 1,oM⟩
  conv=>whnf
  refine ⟨oM,oM,wN ?_⟩;refine ⟨⟨dM,ZAe⟩,wN ?_⟩;generalize ou:Lib.trimLeftS (cut s _ _) _=rest;have am:Lib.trimLeftS (s.drop e) [32,9,13,10]=rest:=by rw [Ui] at ou;exact ou
  have zy:=Uj (([32,9,13,10]:Bs).contains ·) (s.drop e)
  have ca:rest=(s.drop e).drop ((s.drop e).length - rest.length):=by rw [<- am];exact zy.1
  have dy:rest.length<=(s.drop e).length:=by rw [<- am];exact zy.2
  rw [TH] at dy;have pj:rest=s.drop (s.length - rest.length):=by
   rw [TM,TH,show e+(s.length - e - rest.length)=s.length - rest.length by omega] at ca;exact ca
  have hk:(s.drop e).length - rest.length=s.length - rest.length - e:=hD;have gz:∀n:Nat,1<=n->n<=rest.length->ZV (f+1) (s.drop e)=((ZV f (rest.drop n)).1,(s.drop e).length - rest.length+n+(ZV f (rest.drop n)).2) ->
    a<=s.length - rest.length+n/\s.length - rest.length+n<=s.length/\s.length<(s.length - rest.length+n)+f/\(ZV f (s.drop (s.length - rest.length+n))).1=(YQ (s.drop a)).1/\(s.length - rest.length+n)+(ZV f (s.drop (s.length - rest.length+n))).2=a+(YQ (s.drop a)).2:=fun n g1 g2 g3=>by
   have g4:rest.drop n=s.drop (s.length - rest.length+n):=by rw [<- TM,<- pj]
   rw [g3,g4] at gc ip;simp only at gc ip;exact ⟨oM,oM,oM,gc,oM⟩
  have d7:∀b:Bool,ZV (f+1) (s.drop e)=(b,(s.drop e).length - rest.length)->K (.ret (.d (.bool b))) ⟨[.cells t [.d (.str s),.d (.int .i64 ((s.length:Int) - rest.length))]],[],0⟩:=fun b g=>by
   rw [g] at gc ip;simp only at gc ip;rw [<- gc,show (a:Int)+((YQ (s.drop a)).2:Int)=(s.length:Int) - rest.length by omega] at h;exact h
  have bg1:Lib.hasPrefix rest [47,47]=true->ZV (f+1) (s.drop e)=((ZV f (rest.drop (if Lib.indexByte rest 10<0 then rest.length else (Lib.indexByte rest 10).toNat))).1,(s.drop e).length - rest.length+(if Lib.indexByte rest 10<0 then rest.length else (Lib.indexByte rest 10).toNat)+(ZV f (rest.drop (if Lib.indexByte rest 10<0 then rest.length else (Lib.indexByte rest 10).toNat))).2):=fun g=>by
   simp only [ZV,am,g,if_true]
  have bg2:Lib.hasPrefix rest [47,47]=false->Lib.hasPrefix rest [47,42]=true->Lib.index (rest.drop 2) [42,47]<0->ZV (f+1) (s.drop e)=(false,(s.drop e).length - rest.length):=fun g1 g2 g3=>by
   simp only [ZV,am,g1,g2,g3,if_true,Tv,if_false]
  have bg3:Lib.hasPrefix rest [47,47]=false->Lib.hasPrefix rest [47,42]=true->¬Lib.index (rest.drop 2) [42,47]<0->ZV (f+1) (s.drop e)=((ZV f (rest.drop ((Lib.index (rest.drop 2) [42,47]).toNat+4))).1,(s.drop e).length - rest.length+((Lib.index (rest.drop 2) [42,47]).toNat+4)+(ZV f (rest.drop ((Lib.index (rest.drop 2) [42,47]).toNat+4))).2):=fun g1 g2 g3=>by
   simp only [ZV,am,g1,g2,g3,if_true,Tv,if_false]
  have bg4:Lib.hasPrefix rest [47,47]=false->Lib.hasPrefix rest [47,42]=false->ZV (f+1) (s.drop e)=(true,(s.drop e).length - rest.length):=fun g1 g2=>by
   simp only [ZV,am,g1,g2,Tv,if_false]
  refine Zl ?_;refine ZFY (fun h2=>wN ?_) (fun h2=>wN ?_)
  ·have dj:Lib.hasPrefix rest [47,47]=true:=h2;have ug:=(Ys dj).1;have bg:=bg1 dj;have dl:=Lib.indexByte_ge rest 10;have aa:=Uk 10 rest;have h22:=Zgz (c:=10) dj dM dM;refine ZFU (fun h3=>wN ?_) (fun h3=>wN ?_)
   ·have ek:Lib.indexByte rest 10<0:=h3;simp only [ek,if_true] at bg;refine Zl ?_;obtain ⟨k1,k2,k3,k4,k5⟩:=gz _ oM oM bg;refine ⟨⟨rfl,_,f,?_,k1,k2,k3,k4,k5⟩,?_⟩
    ·rw [show (s.length:Int) - (rest.length:Int)+(rest.length:Int)=((s.length - rest.length+rest.length:Nat):Int) by omega];rfl
    exact (show ((s.length:Int) - ((s.length:Int) - (rest.length:Int)+(rest.length:Int))).toNat<((s.length:Int) - (e:Int)).toNat by omega)
   have ek:¬Lib.indexByte rest 10<0:=h3;simp only [ek,if_false] at bg;obtain ⟨n,hn⟩:∃n:Nat,Lib.indexByte rest 10=n:=⟨(Lib.indexByte rest 10).toNat,oM⟩
   have o7:Lib.indexByte rest ((10:Int).toNat.toUInt8)=n:=hn;rw [o7];rw [hn] at h22 aa;rw [hn,Tj] at bg;refine Zl ?_;obtain ⟨k1,k2,k3,k4,k5⟩:=gz _ oM oM bg;refine ⟨⟨rfl,_,f,?_,k1,k2,k3,k4,k5⟩,?_⟩
   ·rw [show (s.length:Int) - (rest.length:Int)+(n:Int)=((s.length - rest.length+n:Nat):Int) by omega];rfl
   exact (show ((s.length:Int) - ((s.length:Int) - (rest.length:Int)+(n:Int))).toNat<((s.length:Int) - (e:Int)).toNat by omega)
  have dj:Lib.hasPrefix rest [47,47]=false:=h2;refine ZFY (fun h3=>wN ?_) (fun h3=>wN ?_)
  ·have ek:Lib.hasPrefix rest [47,42]=true:=h3;have ug:=(Ys ek).1;refine ⟨oM,oM,wN ?_⟩;rw [Ui];have jq:(rest.drop 2).length=rest.length - 2:=sM;refine ⟨by have:(rest.drop ((2:Int).toNat)).length=rest.length - 2:=jq;omega,wN ?_⟩;have dl:=Lib.index_ge (rest.drop 2) [42,47];have aj:=Zgy [42,47] (rest.drop 2);simp only [Te,Tg,jq] at aj;refine ZFU (fun h4=>wN ?_) (fun h4=>wN ?_)
   ·exact d7 _ (bg2 dj ek h4)
   have ju:¬Lib.index (rest.drop 2) [42,47]<0:=h4;have bg:=bg3 dj ek ju;obtain ⟨n,hn⟩:∃n:Nat,Lib.index (rest.drop 2) [42,47]=n:=⟨(Lib.index (rest.drop 2) [42,47]).toNat,oM⟩
   generalize hi:Lib.index _ _=i;have ey:i=n:=by rw [<- hi];exact hn
   subst ey;rw [hn] at aj;rw [hn,Tj] at bg;refine Zl ?_;refine Zl ?_;obtain ⟨k1,k2,k3,k4,k5⟩:=gz _ oM oM bg;refine ⟨⟨rfl,_,f,?_,k1,k2,k3,k4,k5⟩,?_⟩
   ·rw [show (s.length:Int) - (rest.length:Int)+((n:Int)+4)=((s.length - rest.length+(n+4):Nat):Int) by omega];rfl
   exact (show ((s.length:Int) - ((s.length:Int) - (rest.length:Int)+((n:Int)+4))).toNat<((s.length:Int) - (e:Int)).toNat by omega)
  exact d7 _ (bg4 dj h3)
 exact h.elim
def orU (n:Fin 256):Zh .or .u8 (n.val:Int) 32=((n.val ||| 32:Nat):Int):=by rw [Yl];revert n;decide +kernel
def orH:∀n:Fin 256,(97<=(n.val ||| 32)/\(n.val ||| 32)<=102)↔((97<=n.val/\n.val<=102)\/(65<=n.val/\n.val<=70)):=by decide +kernel
def ZAf (b:UInt8):(97<=Zh .or .u8 (b.toNat:Int) 32/\Zh .or .u8 (b.toNat:Int) 32<=102)↔((97<=b.toNat/\b.toNat<=102)\/(65<=b.toNat/\b.toNat<=70)):=by
 have h2:=orU ⟨b.toNat,b.toNat_lt⟩;have h3:=orH ⟨b.toNat,b.toNat_lt⟩;simp only at h2 h3;rw [h2];omega
def WT (p:UInt8->Bool):∀l:Bs,l.takeWhile p=l.take (l.takeWhile p).length
 | []=>rfl
 | x::l=>by
  by_cases h:p x=true
  ·simp only [Sv,h,if_true,Te,List.take_succ_cons];rw [<- WT p l]
  simp [Sv,h]
def VH (p:UInt8->Bool):∀l:Bs,(l.takeWhile p).all p=true
 | []=>rfl
 | x::l=>by
  by_cases h:p x=true
  ·simp only [Sv,h,if_true,List.all_cons,VH p l,Bool.and_self]
  simp [Sv,h]
def Ul (p:UInt8->Bool) (l:Bs):(l.takeWhile p).length<=l.length:=List.Sublist.length_le (List.takeWhile_sublist p)
def Zpy {s:Bs} {e:Nat} (h:e<s.length):s.drop e=s.getD e 0::s.drop (e+1):=by
 rw [Tm h];simp [List.getD,h]
def ZpA:OKw w0 nG [(261,Xr),(262,Zdb),(318,Ju),(222,ZbH),(223,UN)] 301 Zcn:=by
 refine pwo Tryz.func301 fun args σ K h=>?_
 unfold Zcn at h
 split at h
 ·rename_i t s a
  obtain ⟨⟨h0,h1,hs⟩,h⟩:=h;obtain ⟨a,rfl⟩:∃n:Nat,a=n:=⟨a.toNat,oM⟩
  simp only [Tj] at h;refine pwu [(5,⟨[5],[0,2,3,4,6],fun vs σ=>σ=⟨[.cells t [.d (.str s),.d (.int .i64 a)],.cells 170 [.d (.int .u8 0),.d (.str []),.d (.int .i64 0),.d (.int .i64 0),.d (.int .i64 0)],.cells 300 [.d (.int .i64 0),.d (.int .i64 0)]],[],0⟩ /\
   ∃e:Nat,vs=[.d (.int .i64 e)]/\a+(if W9 (s.drop a) then 2 else 0)<=e/\e<=s.length/\e - (a+(if W9 (s.drop a) then 2 else 0))+((s.drop e).takeWhile (X6 (W9 (s.drop a)))).length=(Zd (s.drop a)).length,muI s.length⟩)] 1 false ?_
  have cy:Z1 (s.drop a)=none->K (.ret (.tuple [Zeq 0 [] 0 0 0,Zia a 142])) ⟨[.cells t [.d (.str s),.d (.int .i64 a)]],[],0⟩:=fun g=>by
   have e1:WS a (s.drop a)=.bad a 142:=by rw [WS,g]
   rw [e1] at h;exact h
  have dt:∀n:Nat,Z1 (s.drop a)=some n->K (.ret (.tuple [Zeq 2 [] (IntKind.i64.wrap n) a ((a+ZH (s.drop a):Nat):Int),Zia 0 0])) ⟨[.cells t [.d (.str s),.d (.int .i64 a)]],[],0⟩:=fun n g=>by
   have e1:WS a (s.drop a)=.tok ⟨2,[],IntKind.i64.wrap n,a,a+ZH (s.drop a)⟩:=by rw [WS,g]
   rw [e1] at h;exact h
  conv=>whnf
  refine ⟨oM,oM,wN ?_⟩;rw [Ui];refine ZFY (fun hx=>?_) (fun hx=>?_)
  ·have ge:W9 (s.drop a)=true:=hx;simp only [ge,if_true,Tv,if_false];have iv:Zd (s.drop a)=(s.drop (a+2)).takeWhile (X6 true):=by simp [Zd,ge,TM]
   have tq:ZH (s.drop a)=2+(Zd (s.drop a)).length:=by simp [ZH,ge]
   have gy:=(Ys hx).1;rw [TH] at gy;(conv=>whnf);refine Zl ?_;refine ⟨⟨rfl,(a+2),rfl,oM,oM,by rw [iv];simp⟩,?_⟩;intro vs σ1 hI
   obtain ⟨rfl,e,rfl,zx,qd,hn⟩:=hI;have fu:∀(g:((s.drop e).takeWhile (X6 true)).length=0),e=a+ZH (s.drop a)/\Zd (s.drop a)=cut s (a+2) e:=fun g=>by
    rw [g] at hn;refine ⟨oM,?_⟩;rw [Zgx,show e - (a+2)=(Zd (s.drop a)).length by omega,iv];exact WT _ _
   have ce:(Zd (s.drop a)).all (X6 true)=true:=by rw [iv];exact VH _ _
   have xk:(Zd (s.drop a)).length<=s.length:=by
    rw [iv];have:=Ul (X6 true) (s.drop (a+2));rw [TH] at this;omega
   conv=>whnf
   refine ZFU (fun h2=>wN ?_) (fun h2=>wN ?_)
   ·have dj:e<s.length:=by omega
    have iw:=Zpy dj;have hb:=(s.getD e 0).toNat_lt;have bi:X6 true (s.getD e 0)=true->e+1 - (a+2)+((s.drop (e+1)).takeWhile (X6 true)).length=(Zd (s.drop a)).length:=fun g=>by
     rw [<- hn,iw,Sv,Tk g,Te];omega
    have mb:X6 true (s.getD e 0)=false->((s.drop e).takeWhile (X6 true)).length=0:=fun g=>by
     rw [iw,Sv,Tf (by rw [g];simp)];rfl
    refine ⟨oM,oM,wN ?_⟩;refine Or.inl ⟨InR.i32 oM tN,wN ?_⟩;refine ZFY (fun h3=>wN ?_) (fun h3=>wN ?_)
    ·exact mq84
    have ek:Zp ((s.getD e 0).toNat:Int)=false:=h3;have hoh:=ZAf (s.getD e 0);refine ZFU (fun h4=>wN ?_) (fun h4=>wN ?_)
    ·refine ZFU (fun h5=>wN ?_) (fun h5=>wN ?_)
     ·have hd:X6 true (s.getD e 0)=true:=by
       have:=hoh.1 ⟨h4,h5⟩;simp only [X6,ek,Bool.false_or,TW,TP];omega
      refine Zl ?_;refine ⟨⟨rfl,e+1,rfl,oM,oM,bi hd⟩,?_⟩;exact (show ((s.length:Int) - ((e:Int)+1)).toNat<((s.length:Int) - (e:Int)).toNat by omega)
     have hd:X6 true (s.getD e 0)=false:=by
      have:¬((97<=(s.getD e 0).toNat/\(s.getD e 0).toNat<=102)\/(65<=(s.getD e 0).toNat/\(s.getD e 0).toNat<=70)):=fun g=>h5 (hoh.2 g).2
      simp only [X6,ek,Bool.false_or,TW,decide_eq_false_iff_not];exact this
     have hst:=fu (mb hd);exact mq2
    have hd:X6 true (s.getD e 0)=false:=by
     have:¬((97<=(s.getD e 0).toNat/\(s.getD e 0).toNat<=102)\/(65<=(s.getD e 0).toNat/\(s.getD e 0).toNat<=70)):=fun g=>h4 (hoh.2 g).1
     simp only [X6,ek,Bool.false_or,TW,decide_eq_false_iff_not];exact this
    have hst:=fu (mb hd);exact mq2
   have kb:((s.drop e).takeWhile (X6 true)).length=0:=by rw [Tq oM];rfl
   have hst:=fu (kb);exact mq2
  have ge:W9 (s.drop a)=false:=hx;simp only [ge,if_true,Tv,if_false];have iv:Zd (s.drop a)=(s.drop (a+0)).takeWhile (X6 false):=by simp [Zd,ge,TM]
  have tq:ZH (s.drop a)=0+(Zd (s.drop a)).length:=by simp [ZH,ge]
  conv=>whnf
  refine ⟨⟨rfl,a,rfl,oM,oM,by rw [iv];simp⟩,?_⟩;intro vs σ1 hI
  obtain ⟨rfl,e,rfl,zx,qd,hn⟩:=hI;have fu:∀(g:((s.drop e).takeWhile (X6 false)).length=0),e=a+ZH (s.drop a)/\Zd (s.drop a)=cut s (a+0) e:=fun g=>by
   rw [g] at hn;refine ⟨oM,?_⟩;rw [Zgx,show e - (a+0)=(Zd (s.drop a)).length by omega,iv];exact WT _ _
  have ce:(Zd (s.drop a)).all (X6 false)=true:=by rw [iv];exact VH _ _
  have xk:(Zd (s.drop a)).length<=s.length:=by
   rw [iv];have:=Ul (X6 false) (s.drop (a+0));rw [TH] at this;omega
  conv=>whnf
  refine ZFU (fun h2=>wN ?_) (fun h2=>wN ?_)
  ·have dj:e<s.length:=by omega
   have iw:=Zpy dj;have hb:=(s.getD e 0).toNat_lt;have bi:X6 false (s.getD e 0)=true->e+1 - (a+0)+((s.drop (e+1)).takeWhile (X6 false)).length=(Zd (s.drop a)).length:=fun g=>by
    rw [<- hn,iw,Sv,Tk g,Te];omega
   have mb:X6 false (s.getD e 0)=false->((s.drop e).takeWhile (X6 false)).length=0:=fun g=>by
    rw [iw,Sv,Tf (by rw [g];simp)];rfl
   refine ⟨oM,oM,wN ?_⟩;refine Or.inl ⟨InR.i32 oM tN,wN ?_⟩;refine ZFY (fun h3=>wN ?_) (fun h3=>wN ?_)
   ·exact mq84
   have ek:Zp ((s.getD e 0).toNat:Int)=false:=h3;have hd:X6 false (s.getD e 0)=false:=by simp only [X6,ek,TV,SA]
   have hst:=fu (mb hd);(conv=>whnf);exact mq5
  have kb:((s.drop e).takeWhile (X6 false)).length=0:=by rw [Tq oM];rfl
  have hst:=fu (kb);exact mq5
 exact h.elim
structure GlobOK (w0:World) (nG:Nat):Prop where
 big:7<nG
 maxLen:∃m,w0.cell? ⟨2,0,none⟩=some (.int .i64 m)
 errSyntax:∃ev,w0.cell? ⟨6,0,none⟩=some ev/\(ev=.nilIface\/∃te pe,ev=.iface te pe)
 errRange:∃ev,w0.cell? ⟨7,0,none⟩=some ev/\(ev=.nilIface\/∃te pe,ev=.iface te pe)
def Znq:Zn:=fun args σ K=>match args with
 | [.d (.str _),.d (.str s)]=>s.length<4294967281/\K (.ret .undef) σ
 | _=>False
def Zig {e:Env} {σ:St} {w:World} {k:Nat} {u:Value} (hS:SRel (GG w0 nG) e σ w) (hk:k<nG) (h:w0.cell? ⟨k,0,none⟩=some u):w.cell? ⟨k,0,none⟩=some u:=by
 have:=hS.glob k hk;simpa [World.cell?,this] using h
def Zes (hg:GlobOK w0 nG):PC w0 nG 340 Znq where
 enters:=Ze Tryz.func340 kR rfl
 calls:=fun args σ K hs n e w vs hS ha=>by
  unfold Znq at hs
  split at hs
  ·rename_i fn s
   obtain ⟨hl,hK⟩:=hs;obtain ⟨u,v,rfl,hu,hv⟩:=Zj6 ha
   cases hu.dstr;cases hv.dstr
   obtain ⟨ev,h1,h2⟩:=hg.errSyntax;refine CallsIn.mono (callsIn_wide.2 (Tryz.strconv_syntaxError _ _ ev w (show s.toArray.size<=_ by simp;omega) (Zig hS (by have:=hg.big;omega) h1) h2)) fun en w' ⟨N,h3,_,_,h4⟩=>?_
   exact mq135
  exact hs.elim
def ZgA (hg:GlobOK w0 nG):PC w0 nG 341 Znq where
 enters:=Ze Tryz.func341 kR rfl
 calls:=fun args σ K hs n e w vs hS ha=>by
  unfold Znq at hs
  split at hs
  ·rename_i fn s
   obtain ⟨hl,hK⟩:=hs;obtain ⟨u,v,rfl,hu,hv⟩:=Zj6 ha
   cases hu.dstr;cases hv.dstr
   obtain ⟨ev,h1,h2⟩:=hg.errRange;refine CallsIn.mono (callsIn_wide.2 (Tryz.strconv_rangeError _ _ ev w (show s.toArray.size<=_ by simp;omega) (Zig hS (by have:=hg.big;omega) h1) h2)) fun en w' ⟨N,h3,_,_,h4⟩=>?_
   exact mq135
  exact hs.elim
def Zdf:Zn:=fun args σ K=>match args,σ with
 | [.d (.str _),.d (.str s),.d (.int .i64 _),.d (.int .i64 _),.iface 374 (.d (.int .i64 c))],⟨[],[],0⟩=>((c=1\/c=2)/\s.length<4294967281)/\K (.ret (.iface 376 .undef)) ⟨[],[],0⟩
 | _,_=>False
def ZDi:Tbl:=[(340,Znq),(341,Znq)]
def Znr (hg:GlobOK w0 nG):PC w0 nG 331 Zdf:=by
 refine pwt (tbl:=ZDi) ⟨Zes hg,ZgA hg,trivial⟩ Tryz.func331 fun args σ K h=>?_
 unfold Zdf at h
 split at h
 ·rename_i fn s b0 b1 c
  obtain ⟨⟨hc,hl⟩,h⟩:=h;refine pwu [] 0 false ?_;rcases hc with rfl | rfl
  ·conv=>whnf
   refine ⟨hl,wN ?_⟩;exact h
  conv=>whnf
  refine ⟨hl,wN ?_⟩;exact h
 exact h.elim
def Zka:Zn:=fun args σ K=>match args,σ with
 | [.d (.int .u8 c)],⟨[],[],0⟩=>K (.ret (.d (.int .u8 (Zh .or .u8 c 32)))) ⟨[],[],0⟩
 | _,_=>False
def ZsO:PC w0 nG 338 Zka:=by
 refine pwe Tryz.func338 fun args σ K h=>?_
 unfold Zka at h
 split at h
 ·refine pwv [] 0 false ?_;exact h
 exact h.elim
def lowV:∀n:Fin 256,X6 true (UInt8.ofNat n.val)=true->¬(48<=n.val/\n.val<=57)->Zh .or .u8 (n.val:Int) 32=Zgu (UInt8.ofNat n.val)+87/\10<=Zgu (UInt8.ofNat n.val)/\Zgu (UInt8.ofNat n.val)<=15:=by rw [Yl];decide +kernel
def Zih {b:UInt8} (h:X6 true b=true) (hn:¬(48<=b.toNat/\b.toNat<=57)):Zh .or .u8 (b.toNat:Int) 32=Zgu b+87/\10<=Zgu b/\Zgu b<=15:=by
 have:=lowV ⟨b.toNat,b.toNat_lt⟩;simp only [UInt8.ofNat_toNat] at this;exact this h hn
def Zii (B:Nat) (l:Bs) (b:UInt8):WC B (l++[b])=WC B l * B+Zgu b:=by simp [WC,Sr]
def Zij {l:Bs} {i:Nat} (h:i<l.length):l.take (i+1)=l.take i++[l.getD i 0]:=by
 rw [List.take_succ,Ta h];simp [List.getD,h]
def Zlu (B:Nat) (hB:1<=B):∀(l:Bs) (n:Nat),n<=l.foldl (fun n b=>n * B+Zgu b) n
 | [],n=>Tu _
 | b::l,n=>by
  have:=Zlu B hB l (n * B+Zgu b);have h2:n<=n * B:=Nat.le_mul_of_pos_right n hB;simp only [List.foldl_cons];omega
def ZbK (B:Nat) (hB:1<=B) (l:Bs) (i:Nat):WC B (l.take i)<=WC B l:=by
 conv=>rhs;rw [<- List.take_append_drop i l]
 unfold WC
 rw [Sr];exact Zlu B hB _ _
def ZDj:Zn:=fun args σ K=>match args,σ with
 | [.d (.str l),.d (.int .i64 base),.d (.int .i64 bits)],⟨[],[],0⟩=>∃fx:Bool,((l.all (X6 fx)=true/\l.length<4294967281)/\base=(if fx then 16 else 10)/\bits=(if fx then 64 else 63)) /\
   (l=[]->K (.ret (.tuple [.d (.int .u64 0),.iface 374 (.d (.int .i64 2))])) ⟨[],[],0⟩) /\
   (l≠[]->(if fx then 18446744073709551616 else 9223372036854775808)<=WC (if fx then 16 else 10) l->K (.ret (.tuple [.d (.int .u64 (if fx then 18446744073709551615 else 9223372036854775807)),.iface 374 (.d (.int .i64 1))])) ⟨[],[],0⟩) /\
   (l≠[]->¬(if fx then 18446744073709551616 else 9223372036854775808)<=WC (if fx then 16 else 10) l->K (.ret (.tuple [.d (.int .u64 (WC (if fx then 16 else 10) l)),.d .nili])) ⟨[],[],0⟩)
 | _,_=>False
def ZDk:Tbl:=[(338,Zka)]
def ZDl:PC w0 nG 330 ZDj:=by
 refine pwt (tbl:=ZDk) ⟨ZsO,trivial⟩ Tryz.func330 fun args σ K h=>?_
 unfold ZDj at h
 split at h
 ·rename_i l base bits
  obtain ⟨fx,⟨⟨ce,hl⟩,rfl,rfl⟩,ez,mc,dt⟩:=h;have hml:((l.map fun b=>[D.int .u8 (b.toNat:Int)]:List (List D))).length=l.length:=sM
  cases fx with
  | true =>
   simp only [if_true,Tv,if_false] at mc dt |-;refine ⟨Zj [(36,⟨[101,13,12],[0,1,8,10,11,99,100],fun vs σ=>σ=⟨[],[],0⟩/\∃i:Nat,vs=[.d (.int .i64 i),.d (.int .u64 (WC 16 (l.take i))),.d (.bool false)]/\i<=l.length/\WC 16 (l.take i)<18446744073709551616,muI l.length⟩)],0,false,sM,Tc rfl,wN ?_⟩;refine ZFU (fun h0=>wN ?_) (fun h0=>wN ?_)
   ·exact ez h0
   have ah:l≠[]:=h0;have rt:=mc ah;have j8:=dt ah;refine Zc9 ?_;refine ⟨dM,Or.inr ?_⟩;rw [show IntKind.u64.wrap (1 * 2 ^ min (Int.toNat 64) IntKind.u64.bits)=0 from dM];(conv=>whnf);refine Or.inr ?_;rw [show IntKind.u64.wrap (0 - 1)=18446744073709551615 from dM];(conv=>whnf);refine ⟨⟨rfl,0,rfl,oM,by simp [WC]⟩,?_⟩;intro vs σ1 hI
   obtain ⟨rfl,i,rfl,hi,hN⟩:=hI;have aj:=ZbK 16 oM l;have bi:=fun h:i<l.length=>Zii 16 (l.take i) (l.getD i 0)
   generalize hNN:WC 16 (l.take i)=N at hN bi |-;(conv=>whnf);refine ZFU (fun h2=>?_) (fun h2=>wN ?_)
   ·have dj:i<l.length:=by simpa using h2
    have bz:(l.map fun b=>[D.int .u8 (b.toNat:Int)])[((i:Int)).toNat]?=some [D.int .u8 ((l.getD i 0).toNat:Int)]:=by
     rw [Tj,Th,Ta dj];simp [List.getD,dj]
    have hd:X6 true (l.getD i 0)=true:=Tr.1 ce _ (by rw [T2,Ta dj];exact TC dj);have hs:=bi dj;rw [<- Zij dj] at hs;have dv:=aj (i+1);have hb:=(l.getD i 0).toNat_lt;generalize j7:l.getD i 0=b at bz hd hs hb;(conv=>whnf);refine ⟨_,oM,bz,wN ?_⟩;refine ZFU (fun h3=>?_) (fun h3=>wN ?_)
    ·have ek:b.toNat=95:=by omega
     simp [X6,Zp,ek] at hd
    refine ZFU (fun h4=>wN ?_) (fun h4=>?_)
    ·refine ZFU (fun h5=>wN ?_) (fun h5=>?_)
     ·refine V5 ?_;have hD:(Zgu b:Int)=(b.toNat:Int) - 48:=by unfold Zgu;rw [Tk oM];omega
      refine V5 ?_;refine ZFU (fun h6=>?_) (fun h6=>wN ?_)
      ·omega
      refine ZFU (fun h7=>wN ?_) (fun h7=>wN ?_)
      ·exact rt oM
      refine Zc9 ?_;refine Zc9 ?_;refine Zc9 ?_
      by_cases cx:(N:Int) * 16+((b.toNat:Int) - 48)<=18446744073709551615
      ·refine Zc9 ?_;refine ZFU (fun h8=>?_) (fun h8=>wN ?_)
       ·omega
       refine ZFU (fun h9=>wN ?_) (fun h9=>wN ?_)
       ·exact rt oM
       refine Zl ?_;refine ⟨⟨rfl,i+1,?_,oM,oM⟩,?_⟩
       ·have e:((WC 16 (l.take (i+1)):Nat):Int)=(N:Int) * 16+((b.toNat:Int) - 48):=by omega
        rw [e];rfl
       exact mq185
      have hw:IntKind.u64.wrap ((N:Int) * 16+((b.toNat:Int) - 48))=(N:Int) * 16+((b.toNat:Int) - 48) - 18446744073709551616:=by
       exact mq65
      exact mq61
     skip
     exact mq10
    skip
    exact mq10
   exact mq136
  | false =>
  simp only [if_true,Tv,if_false] at mc dt |-;refine ⟨Zj [(36,⟨[101,13,12],[0,1,8,10,11,99,100],fun vs σ=>σ=⟨[],[],0⟩/\∃i:Nat,vs=[.d (.int .i64 i),.d (.int .u64 (WC 10 (l.take i))),.d (.bool false)]/\i<=l.length/\WC 10 (l.take i)<9223372036854775808,muI l.length⟩)],0,false,sM,Tc rfl,wN ?_⟩;refine ZFU (fun h0=>wN ?_) (fun h0=>wN ?_)
  ·exact ez h0
  have ah:l≠[]:=h0;have rt:=mc ah;have j8:=dt ah;refine Zc9 ?_;refine ⟨dM,Or.inr ?_⟩;rw [show IntKind.u64.wrap (1 * 2 ^ min (Int.toNat 63) IntKind.u64.bits)=9223372036854775808 from dM];(conv=>whnf);refine Or.inr ?_;rw [show IntKind.u64.wrap (9223372036854775808 - 1)=9223372036854775807 from dM];(conv=>whnf);refine ⟨⟨rfl,0,rfl,oM,by simp [WC]⟩,?_⟩;intro vs σ1 hI
  obtain ⟨rfl,i,rfl,hi,hN⟩:=hI;have aj:=ZbK 10 oM l;have bi:=fun h:i<l.length=>Zii 10 (l.take i) (l.getD i 0)
  generalize hNN:WC 10 (l.take i)=N at hN bi |-;(conv=>whnf);refine ZFU (fun h2=>?_) (fun h2=>wN ?_)
  ·have dj:i<l.length:=by simpa using h2
   have bz:(l.map fun b=>[D.int .u8 (b.toNat:Int)])[((i:Int)).toNat]?=some [D.int .u8 ((l.getD i 0).toNat:Int)]:=by
    rw [Tj,Th,Ta dj];simp [List.getD,dj]
   have hd:X6 false (l.getD i 0)=true:=Tr.1 ce _ (by rw [T2,Ta dj];exact TC dj);have hs:=bi dj;rw [<- Zij dj] at hs;have dv:=aj (i+1);have hb:=(l.getD i 0).toNat_lt;generalize j7:l.getD i 0=b at bz hd hs hb;(conv=>whnf);refine ⟨_,oM,bz,wN ?_⟩;refine ZFU (fun h3=>?_) (fun h3=>wN ?_)
   ·have ek:b.toNat=95:=by omega
    simp [X6,Zp,ek] at hd
   have zq:48<=b.toNat/\b.toNat<=57:=by
    simp only [X6,TV,SA,Zp,TP] at hd;omega
   refine ZFU (fun h4=>wN ?_) (fun h4=>?_)
   ·refine ZFU (fun h5=>wN ?_) (fun h5=>?_)
    ·refine V5 ?_;have hD:(Zgu b:Int)=(b.toNat:Int) - 48:=by unfold Zgu;rw [Tk oM];omega
     refine V5 ?_;refine ZFU (fun h6=>?_) (fun h6=>wN ?_)
     ·omega
     refine ZFU (fun h7=>wN ?_) (fun h7=>wN ?_)
     ·exact rt oM
     refine Zc9 ?_;refine Zc9 ?_;refine Zc9 ?_
     by_cases cx:(N:Int) * 10+((b.toNat:Int) - 48)<=18446744073709551615
     ·refine Zc9 ?_;refine ZFU (fun h8=>?_) (fun h8=>wN ?_)
      ·omega
      refine ZFU (fun h9=>wN ?_) (fun h9=>wN ?_)
      ·exact rt oM
      refine Zl ?_;refine ⟨⟨rfl,i+1,?_,oM,oM⟩,?_⟩
      ·have e:((WC 10 (l.take (i+1)):Nat):Int)=(N:Int) * 10+((b.toNat:Int) - 48):=by omega
       rw [e];rfl
      exact mq185
     have hw:IntKind.u64.wrap ((N:Int) * 10+((b.toNat:Int) - 48))=(N:Int) * 10+((b.toNat:Int) - 48) - 18446744073709551616:=by
      exact mq65
     exact mq61
    omega
   omega
  exact mq136
 exact h.elim
def Zv2:∀n:Fin 64,Zh .or .u8 128 (n.val:Int)=128+n.val:=by rw [Yl];decide +kernel
def Zv3:∀n:Fin 32,Zh .or .u8 192 (n.val:Int)=192+n.val:=by rw [Yl];decide +kernel
def Zv4:∀n:Fin 16,Zh .or .u8 224 (n.val:Int)=224+n.val:=by rw [Yl];decide +kernel
def Zv5:∀n:Fin 8,Zh .or .u8 240 (n.val:Int)=240+n.val:=by rw [Yl];decide +kernel
def Zv6:∀n:Fin 256,Zh .and .u8 (n.val:Int) 63=n.val % 64:=by rw [Yl];decide +kernel
def ZuZ {x:Int} (h0:0<=x) (h1:x<64):Zh .or .u8 128 x=128+x:=by obtain ⟨n,rfl⟩:∃n:Nat,x=n:=⟨x.toNat,oM⟩;exact Zv2 ⟨n,oM⟩
def ZFz {x:Int} (h0:0<=x) (h1:x<32):Zh .or .u8 192 x=192+x:=by obtain ⟨n,rfl⟩:∃n:Nat,x=n:=⟨x.toNat,oM⟩;exact Zv3 ⟨n,oM⟩
def ZEL {x:Int} (h0:0<=x) (h1:x<16):Zh .or .u8 224 x=224+x:=by obtain ⟨n,rfl⟩:∃n:Nat,x=n:=⟨x.toNat,oM⟩;exact Zv4 ⟨n,oM⟩
def ZFA {x:Int} (h0:0<=x) (h1:x<8):Zh .or .u8 240 x=240+x:=by obtain ⟨n,rfl⟩:∃n:Nat,x=n:=⟨x.toNat,oM⟩;exact Zv5 ⟨n,oM⟩
def a63 {x:Int} (h0:0<=x) (h1:x<256):Zh .and .u8 x 63=x % 64:=by obtain ⟨n,rfl⟩:∃n:Nat,x=n:=⟨x.toNat,oM⟩;rw [Zv6 ⟨n,oM⟩]
def wu8 (n:Int):IntKind.u8.wrap n=n % 256:=by simp [IntKind.wrap,IntKind.bits,IntKind.signed]
def Wd (c:Int):Zk (Lib.encodeRune c)=(Lib.encodeRuneZ c).map fun x=>[D.int .u8 x]:=by
 have h:=Lib.encodeRuneZ_byte c;unfold Lib.encodeRune Zk
 rw [SN];refine Su fun x hx=>?_
 have:=h x hx;simp [UInt8.toNat_ofNat'];omega
def Um:Zn:=fun args σ K=>match args,σ with
 | [.sl 0 e rows,.d (.int .i32 c)],⟨[],[0],1⟩=>(e=5/\(∀r∈rows,r.length=1)/\rows.length<70368744177664/\0<=c/\c<=1114111)/\K (.ret (.sl 0 5 (rows++Zk (Lib.encodeRune c)))) ⟨[],[0],1⟩
 | _,_=>False
def VI:Zn:=fun args σ K=>match args,σ with
 | [.sl 0 e rows,.d (.int .i32 c)],⟨[],[0],1⟩=>(e=5/\(∀r∈rows,r.length=1)/\rows.length<70368744177664/\128<=c/\c<=1114111)/\K (.ret (.sl 0 5 (rows++Zk (Lib.encodeRune c)))) ⟨[],[0],1⟩
 | _,_=>False
def Zet:PC w0 nG 308 VI:=by
 refine pwe Tryz.func308 fun args σ K h=>?_
 unfold VI at h
 split at h
 ·rename_i e rows c
  obtain ⟨⟨rfl,ca,ug,jb,cz⟩,h⟩:=h;refine pwv [] 0 true ?_;have e6:c.fdiv (2 ^ min (Int.toNat 6) IntKind.i32.bits)=c / 64:=by rw [show (2:Int) ^ min (Int.toNat 6) IntKind.i32.bits=64 by decide];exact Int.fdiv_eq_ediv_of_nonneg _ oM
  have e12:c.fdiv (2 ^ min (Int.toNat 12) IntKind.i32.bits)=c / 4096:=by rw [show (2:Int) ^ min (Int.toNat 12) IntKind.i32.bits=4096 by decide];exact Int.fdiv_eq_ediv_of_nonneg _ oM
  have e18:c.fdiv (2 ^ min (Int.toNat 18) IntKind.i32.bits)=c / 262144:=by rw [show (2:Int) ^ min (Int.toNat 18) IntKind.i32.bits=262144 by decide];exact Int.fdiv_eq_ediv_of_nonneg _ oM
  refine Or.inl ⟨InR.u32 oM oM,wN ?_⟩;refine ZFU (fun h1=>?_) (fun h1=>wN ?_)
  ·skip
   have g:K (.ret (.sl 0 5 (rows++[[D.int .u8 (Zh .or .u8 192 (IntKind.u8.wrap (c.fdiv (2 ^ min (Int.toNat 6) IntKind.i32.bits))))],[D.int .u8 (Zh .or .u8 128 (Zh .and .u8 (IntKind.u8.wrap (c)) 63))]]))) ⟨[],[0],1⟩:=by
    have e:Zk (Lib.encodeRune c)=[[D.int .u8 (Zh .or .u8 192 (IntKind.u8.wrap (c.fdiv (2 ^ min (Int.toNat 6) IntKind.i32.bits))))],[D.int .u8 (Zh .or .u8 128 (Zh .and .u8 (IntKind.u8.wrap (c)) 63))]]:=by
     rw [Wd,Lib.encodeRuneZ_two jb oM];simp only [e6,e12,e18,wu8,TF,TQ];rw [ZFz oM oM,a63 oM oM,ZuZ oM oM,show c / 64 % 256=c / 64 by omega,show c % 256 % 64=c % 64 by omega]
     all_goals (try omega)
     (try (congr 1 <;> omega))
    rw [e] at h;exact h
   conv=>whnf
   refine ⟨dM,wN ?_⟩;refine Or.inr (wN ?_);refine Or.inr (wN ?_);refine ⟨fun r hr=>by (simp at hr;rcases hr with rfl | rfl <;> rfl),(show (rows.length+2) * 1<=2 ^ 47 by omega),(show rows.length+2<=2 ^ 47 by omega),?_⟩;(conv=>whnf);exact g
  refine ZFU (fun h2=>wN ?_) (fun h2=>wN ?_)
  ·refine ZFU (fun dj=>wN ?_) (fun dj=>absurd h2 dj);have g:K (.ret (.sl 0 5 (rows++[[D.int .u8 (Zh .or .u8 224 (IntKind.u8.wrap (c.fdiv (2 ^ min (Int.toNat 12) IntKind.i32.bits))))],[D.int .u8 (Zh .or .u8 128 (Zh .and .u8 (IntKind.u8.wrap (c.fdiv (2 ^ min (Int.toNat 6) IntKind.i32.bits))) 63))],[D.int .u8 (Zh .or .u8 128 (Zh .and .u8 (IntKind.u8.wrap (c)) 63))]]))) ⟨[],[0],1⟩:=by
    exact mq35
   exact mq194
  refine ZFU (fun h3=>wN ?_) (fun h3=>wN ?_)
  ·refine ZFU (fun h4=>?_) (fun h4=>wN ?_)
   ·skip
    have g:K (.ret (.sl 0 5 (rows++[[D.int .u8 (Zh .or .u8 224 (IntKind.u8.wrap (c.fdiv (2 ^ min (Int.toNat 12) IntKind.i32.bits))))],[D.int .u8 (Zh .or .u8 128 (Zh .and .u8 (IntKind.u8.wrap (c.fdiv (2 ^ min (Int.toNat 6) IntKind.i32.bits))) 63))],[D.int .u8 (Zh .or .u8 128 (Zh .and .u8 (IntKind.u8.wrap (c)) 63))]]))) ⟨[],[0],1⟩:=by
     exact mq35
    conv=>whnf
    exact mq194
   refine ZFU (fun h5=>wN ?_) (fun h5=>?_)
   ·refine ZFU (fun h6=>?_) (fun h6=>?_)
    ·skip
     have g:K (.ret (.sl 0 5 (rows++[[D.int .u8 (Zh .or .u8 240 (IntKind.u8.wrap (c.fdiv (2 ^ min (Int.toNat 18) IntKind.i32.bits))))],[D.int .u8 (Zh .or .u8 128 (Zh .and .u8 (IntKind.u8.wrap (c.fdiv (2 ^ min (Int.toNat 12) IntKind.i32.bits))) 63))],[D.int .u8 (Zh .or .u8 128 (Zh .and .u8 (IntKind.u8.wrap (c.fdiv (2 ^ min (Int.toNat 6) IntKind.i32.bits))) 63))],[D.int .u8 (Zh .or .u8 128 (Zh .and .u8 (IntKind.u8.wrap (c)) 63))]]))) ⟨[],[0],1⟩:=by
      have e:Zk (Lib.encodeRune c)=[[D.int .u8 (Zh .or .u8 240 (IntKind.u8.wrap (c.fdiv (2 ^ min (Int.toNat 18) IntKind.i32.bits))))],[D.int .u8 (Zh .or .u8 128 (Zh .and .u8 (IntKind.u8.wrap (c.fdiv (2 ^ min (Int.toNat 12) IntKind.i32.bits))) 63))],[D.int .u8 (Zh .or .u8 128 (Zh .and .u8 (IntKind.u8.wrap (c.fdiv (2 ^ min (Int.toNat 6) IntKind.i32.bits))) 63))],[D.int .u8 (Zh .or .u8 128 (Zh .and .u8 (IntKind.u8.wrap (c)) 63))]]:=by
       rw [Wd,Lib.encodeRuneZ_four oM oM];simp only [e6,e12,e18,wu8,TF,TQ];rw [ZFA oM oM,a63 oM oM,a63 oM oM,a63 oM oM,ZuZ oM oM,ZuZ oM oM,ZuZ oM oM,show c / 262144 % 256=c / 262144 by omega,show c / 4096 % 256 % 64=c / 4096 % 64 by omega,show c / 64 % 256 % 64=c / 64 % 64 by omega,show c % 256 % 64=c % 64 by omega]
       all_goals (try omega)
       (try (congr 1 <;> omega))
      rw [e] at h;exact h
     conv=>whnf
     refine ⟨dM,wN ?_⟩;refine Or.inr (wN ?_);refine ⟨dM,wN ?_⟩;refine Or.inr (wN ?_);refine ⟨dM,wN ?_⟩;refine Or.inr (wN ?_);refine Or.inr (wN ?_);refine ⟨fun r hr=>by (simp at hr;rcases hr with rfl | rfl | rfl | rfl <;> rfl),(show (rows.length+4) * 1<=2 ^ 47 by omega),(show rows.length+4<=2 ^ 47 by omega),?_⟩;(conv=>whnf);exact g
    omega
   omega
  refine ZFU (fun h5=>?_) (fun h5=>?_)
  ·omega
  skip
  have g:K (.ret (.sl 0 5 (rows++[[D.int .u8 (239)],[D.int .u8 (191)],[D.int .u8 (189)]]))) ⟨[],[0],1⟩:=by
   have e:Zk (Lib.encodeRune c)=[[D.int .u8 (239)],[D.int .u8 (191)],[D.int .u8 (189)]]:=by
    rw [Wd,Lib.encodeRuneZ_bad oM];rfl
   rw [e] at h;exact h
  conv=>whnf
  exact mq60
 exact h.elim
def ZDm:Tbl:=[(308,VI)]
def ZgB:PC w0 nG 293 Um:=by
 refine pwt (tbl:=ZDm) ⟨Zet,trivial⟩ Tryz.func293 fun args σ K h=>?_
 unfold Um at h
 split at h
 ·rename_i e rows c
  obtain ⟨⟨rfl,ca,ug,jb,cz⟩,h⟩:=h;refine pwv [] 0 true ?_;refine Or.inl ⟨InR.u32 oM oM,wN ?_⟩;refine ZFU (fun h1=>wN ?_) (fun h1=>wN ?_)
  ·have e:Zk (Lib.encodeRune c)=[[D.int .u8 c]]:=by rw [Wd,Lib.encodeRuneZ_one jb h1];rfl
   rw [e] at h;refine V5 ?_;exact mq167
  refine ⟨⟨rfl,ca,oM,oM,oM⟩,wN ?_⟩;exact h
 exact h.elim
def ZsP:TO w0 nG [(235,VF)]:=⟨ZbI,trivial⟩
def ZbL:PC w0 nG 264 VC:=by
 refine pwt ZsP Tryz.func264 fun args σ K h=>?_
 unfold VC at h
 split at h
 ·rename_i c t p e rows
  obtain ⟨⟨hp,rfl,rfl,ca,ug⟩,h⟩:=h;refine pwu [] 1 true ?_;rcases hp with rfl | rfl
  ·conv=>whnf
   refine ⟨⟨.inl rfl,rfl⟩,wN ?_⟩;exact mq167
  conv=>whnf
  refine ⟨⟨.inr rfl,rfl⟩,wN ?_⟩;exact mq167
 exact h.elim
def ZDo (c:Int):(Lib.encodeRune c).length<=4:=by unfold Lib.encodeRune;rw [Td];exact (Lib.encodeRuneZ_length c).2
def ZsQ:TO w0 nG [(235,VF),(293,Um)]:=⟨ZbI,ZgB,trivial⟩
def ZbM:PC w0 nG 266 VD:=by
 refine pwt ZsQ Tryz.func266 fun args σ K h=>?_
 unfold VD at h
 split at h
 ·rename_i c t p e rows
  obtain ⟨⟨hp,rfl,rfl,ca,ug,jb,cz⟩,h⟩:=h;refine pwu [] 1 true ?_;rcases hp with rfl | rfl
  ·conv=>whnf
   refine ⟨⟨.inl rfl,rfl⟩,wN ?_⟩;refine ⟨⟨rfl,ca,ug,jb,cz⟩,wN ?_⟩;refine Or.inl ⟨InR.i64 (by rw [Tb,Y3];have:=Lib.encodeRuneZ_length c;omega) (by rw [Tb,Y3];have:=ZDo c;omega),wN ?_⟩;exact h
  conv=>whnf
  refine ⟨⟨.inr rfl,rfl⟩,wN ?_⟩;refine ⟨⟨rfl,ca,ug,jb,cz⟩,wN ?_⟩;refine Or.inl ⟨InR.i64 (by rw [Tb,Y3];omega) (by rw [Tb,Y3];have:=ZDo c;omega),wN ?_⟩;exact h
 exact h.elim
def Jv:Zn:=fun args σ K=>match args with
 | [.d (.int .i32 c)]=>K (.ret (.d (.bool (Lib.validRune c)))) σ
 | _=>False
def ZAg (c:Int) (h:128<=c) (h2:c<=1114111):2<=(Utf8.encode c).data.toList.length/\(Utf8.encode c).data.toList.length<=4/\∀b∈(Utf8.encode c).data.toList,128<=b.toNat:=by
 unfold Utf8.encode
 simp only;generalize hn:(if Utf8.valid c then c.toNat else Utf8.runeError)=n;have gc:128<=n/\n<=1114111:=by
  rw [<- hn];split
  ·omega
  simp [Utf8.runeError]
 rw [Tf oM];split
 ·simp [UInt8.toNat_ofNat'];omega
 split
 ·simp [UInt8.toNat_ofNat'];omega
 simp [UInt8.toNat_ofNat'];omega
def ZpB {l:Bs} {c:UInt8} (h:∀b∈l,b.toNat<128) (hc:128<=c.toNat):Lib.indexByte l c=-1:=by
 induction l with
 | nil=>rfl
 | cons b l ih =>
 have h1:=ih (fun x hx=>h x (Tx _ hx));have h2:(b == c)=false:=by
  simp only [beq_eq_false_iff_ne];intro e;subst e;have:=h b sM;omega
 simp [Lib.indexByte,h1,h2]
def ZsR {s:Bs} (h:∀b∈s,b.toNat<128) (i:Nat):(s.getD i 0).toNat<128:=by
 rw [T2]
 by_cases hi:i<s.length
 ·rw [Ta hi];exact h _ (TC hi)
 rw [Sd oM];decide
def ZpC {s:Bs} (h:∀b∈s,128<=b.toNat) {i:Nat} (hi:i<s.length):128<=(s.getD i 0).toNat:=by
 rw [T2,Ta hi];exact h _ (TC hi)
def ZDq {n:Int} {k:Nat} (h:n=k) (hk:k<256):(n.toNat.toUInt8).toNat=k:=by
 subst h;simp [UInt8.toNat_ofNat'];omega
def Zik:OKw w0 nG [(289,Wp),(290,Jv)] 265 Wq:=by
 refine pwo Tryz.func265 fun args σ K h=>?_
 unfold Wq at h
 split at h
 ·rename_i s c
  obtain ⟨⟨hs,jb,cz⟩,h⟩:=h;have eo:s.length=4:=by rcases hs with rfl | rfl <;> rfl
  have vu:∀b∈s,b.toNat<128:=by rcases hs with rfl | rfl <;> decide
  have vw:∀p,p<4->(decodeL s p).1<128/\(decodeL s p).2=1:=by
   intro p hp
   rcases hs with rfl | rfl
   all_goals (match p,hp with | 0,_=>exact ⟨dM,dM⟩ | 1,_=>exact ⟨dM,dM⟩ | 2,_=>exact ⟨dM,dM⟩ | 3,_=>exact ⟨dM,dM⟩)
  refine pwu [(38,⟨[],[0,175],fun vs σ=>vs=[]/\∃p:Nat,p<=4/\σ=⟨[.iter s p],[],0⟩,fun _ σ=>match σ.bx with | [.iter _ p]=>4 - p | _=>0⟩),
    (5,⟨[9],[0,1,7,8],fun vs σ=>σ=⟨[],[],0⟩/\vs=[.d (.int .i64 (((Utf8.encode c).data.toList.length:Int) - 1))],fun _ _=>0⟩)] 0 false ?_
  have uh:128<=c->K (.ret (.d (.int .i64 (-1)))) ⟨[],[],0⟩:=fun g=>by
   have:Zdc s c=-1:=by unfold Zdc;rw [Tf oM]
   rw [this] at h;exact h
  conv=>whnf
  refine ZFU (fun h1=>wN ?_) (fun h1=>?_)
  ·refine ZFU (fun h2=>wN ?_) (fun h2=>wN ?_)
   ·have e:Zdc s c=Lib.indexByte s c.toNat.toUInt8:=by unfold Zdc;rw [Tk h2]
    rw [e] at h;refine V5 ?_;exact h
   refine ZFU (fun h3=>wN ?_) (fun h3=>wN ?_)
   ·refine ⟨⟨rfl,0,oM,rfl⟩,?_⟩;intro vs σ1 hI
    obtain ⟨rfl,p,hp,rfl⟩:=hI;(conv=>whnf);refine ZFU (fun h4=>wN ?_) (fun h4=>wN ?_)
    ·have hd:=vw p oM;refine ZFU (fun h5=>?_) (fun h5=>wN ?_)
     ·omega
     refine ⟨⟨rfl,p+1,oM,by rw [hd.2];rfl⟩,?_⟩;exact (show 4 - (p+(decodeL s p).2)<4 - p by omega)
    exact uh oM
   refine ZFY (fun h4=>wN ?_) (fun h4=>wN ?_)
   ·exact uh oM
   obtain ⟨e1,e2,e3⟩:=ZAg c oM cz;have hl:=ZpC e3 (i:=(Utf8.encode c).data.toList.length - 1) oM;refine Zl ?_;refine ⟨⟨rfl,rfl⟩,?_⟩;intro vs σ1 hI
   obtain ⟨rfl,rfl⟩:=hI;(conv=>whnf);refine ZFU (fun h5=>wN ?_) (fun h5=>?_)
   ·refine ⟨oM,oM,wN ?_⟩;refine ⟨oM,oM,wN ?_⟩;have j6:=ZsR vu (((Utf8.encode c).data.toList.length:Int) - 1).toNat;have qw:128<=((Utf8.encode c).data.toList.getD (((Utf8.encode c).data.toList.length:Int) - 1).toNat 0).toNat:=ZpC e3 oM;refine ZFX (fun h6=>wN ?_) (fun h6=>?_)
    ·refine Zl ?_;refine ⟨oM,oM,wN ?_⟩;refine ⟨oM,oM,wN ?_⟩;generalize hx:Lib.indexByte _ _=x;have:x=-1:=by
      rw [<- hx];refine ZpB (fun b hb=>vu b (List.mem_of_mem_take (List.mem_of_mem_drop hb))) ?_;rw [ZDq rfl (UInt8.toNat_lt _)];exact qw
     subst this;(conv=>whnf);exact uh oM
    omega
   omega
  omega
 exact h.elim
def ZgC (r:Bs):(Lib.decodeL r).1<=1114111/\1<=(Lib.decodeL r).2/\(Lib.decodeL r).2<=4:=by
 exact mq70
def Zkb (c:Int):(Lib.encodeRune c).length<=4:=by
 unfold Lib.encodeRune Lib.encodeRuneZ
 rw [Td]
 repeat' split
 all_goals simp
def Uo {n k:Nat} (h:n<128) (hk:k<128) (ah:n≠k):(n:Int).toNat.toUInt8≠UInt8.ofNat k:=by
 intro h1
 have h2:=congrArg UInt8.toNat h1;simp [UInt8.toNat_ofNat'] at h2;omega
def Zlv {n:Nat} (h:ZvU n=none):Zdc [110,116,34,92] n=-1:=by
 unfold ZvU at h
 split at h;· cases h
 split at h;· cases h
 split at h;· cases h
 split at h;· cases h
 rename_i h1 h2 h3 h4
 unfold Zdc
 split
 ·rename_i h5
  have hc:([110,116,34,92]:Bs).contains ((n:Int).toNat.toUInt8)=false:=by
   have b1:=Uo (n:=n) (k:=110) oM oM h1;have b2:=Uo (n:=n) (k:=116) oM oM h2;exact mq110
  rw [Lib.contains_iff_indexByte,decide_eq_false_iff_not] at hc;have:=Lib.indexByte_ge [110,116,34,92] ((n:Int).toNat.toUInt8);omega
 rfl
def Zlw {n:Nat} {b:UInt8} (h:ZvU n=some b):(Zdc [110,116,34,92] n=0/\b=10)\/(Zdc [110,116,34,92] n=1/\b=9)\/(Zdc [110,116,34,92] n=2/\b=34)\/(Zdc [110,116,34,92] n=3/\b=92):=by
 unfold ZvU at h
 exact mq67
def Jw (l:Bs) (b:UInt8):Zk (l++[b])=Zk l++[[.int .u8 b.toNat]]:=by simp [Zk]
def Va (l m:Bs):Zk (l++m)=Zk l++Zk m:=by simp [Zk]
def Zfh (l:Bs):∀r∈Zk l,r.length=1:=by
 intro r hr
 simp only [Zk,Sl] at hr;obtain ⟨b,_,rfl⟩:=hr;rfl
def Zfi (l:Bs):(Zk l).length=l.length:=by simp [Zk]
def ZFB (B:Nat):List PV->St->Nat:=fun _ σ=>match σ.bx with | [_,_,_,_,.iter _ p]=>B - p | _=>0
def Zv8:OKw w0 nG [(265,Wq),(264,VC),(222,ZbH),(266,VD),(76,Zcm)] 300 Zls:=by
 refine pwo Tryz.func300 fun args σ K h=>?_
 unfold Zls at h
 split at h
 ·rename_i t s a
  obtain ⟨⟨h0,h1,hs⟩,h⟩:=h;obtain ⟨a,rfl⟩:∃n:Nat,a=n:=⟨a.toNat,oM⟩
  simp only [Tj] at h;obtain ⟨u,hu⟩:∃u,u=s.drop (a+1):=⟨_,rfl⟩
  have zd:u.length=s.length - (a+1):=by rw [hu,TH]
  refine pwu [(4,⟨[5],[0,2,3,4,22],fun vs σ=>∃(esc:Bool) (l:Bs) (i f:Nat) (p:PV),vs=[.d (.bool esc)] /\
   σ=⟨[.cells t [.d (.str s),.d (.int .i64 a)],.cells 170 [.d (.int .u8 0),.d (.str []),.d (.int .i64 0),.d (.int .i64 0),.d (.int .i64 0)],.cells 300 [.d (.int .i64 0),.d (.int .i64 0)],.cells 134 [p,.sl 0 5 (Zk l)],.iter u i],[0],1⟩ /\
   (p=.d .nilp\/p=.ptr 3 0)/\(i<=u.length/\u.length<i+f/\l.length<=4 * i)/\Z9 f (u.drop i) esc l (1+i)=WQ (s.drop a),ZFB u.length⟩)] 1 false ?_
  have cy:∀n:Nat,WQ (s.drop a)=.err n->K (.ret (.tuple [Zeq 0 [] 0 0 0,Zia ((a+n:Nat):Int) 141])) ⟨[.cells t [.d (.str s),.d (.int .i64 a)]],[],0⟩:=fun n g=>by
   have e1:Zeo a (s.drop a)=.bad (a+n) 141:=by rw [Zeo,g]
   rw [e1] at h;exact h
  have dt:∀(l:Bs) (n:Nat),WQ (s.drop a)=.ok l n->K (.ret (.tuple [Zeq 3 l 0 a ((a+n:Nat):Int),Zia 0 0])) ⟨[.cells t [.d (.str s),.d (.int .i64 a)]],[],0⟩:=fun l n g=>by
   have e1:Zeo a (s.drop a)=.tok ⟨3,l,0,a,a+n⟩:=by rw [Zeo,g]
   rw [e1] at h;exact h
  have ia:((a:Int)+1).toNat=a+1:=oM;(conv=>whnf);refine Zl ?_;refine ⟨oM,oM,wN ?_⟩;rw [Ui,ia,<- hu];refine ⟨⟨false,[],0,(s.drop a).length+1,.d .nilp,rfl,rfl,.inl rfl,⟨oM,hD,sM⟩,?_⟩,?_⟩
  ·rw [WQ,TM,<- hu];rfl
  intro vs σ1 hI
  obtain ⟨esc,l,i,f,p,rfl,rfl,hp,⟨zi,ab,jv⟩,gz⟩:=hI;obtain ⟨f,rfl⟩:∃g,f=g+1:=⟨f - 1,oM⟩
  have cm:=Zfh l;have cf:=Zfi l;have bo:=Zff u i;have iw:=ZgC (u.drop i);have jq:=Lib.decodeL_le (u.drop i);rw [TH] at jq
  cases esc with
  | true =>
   rcases hp with rfl | rfl
   ·conv=>whnf
    refine ZFU (fun h2=>wN ?_) (fun h2=>wN ?_)
    ·have ah:u.drop i≠[]:=fun g=>by have:=congrArg List.length g;rw [TH] at this;simp at this;omega
     refine Zl ?_;refine Zl ?_;refine ⟨⟨.inl rfl,oM,by rw [bo];omega⟩,wN ?_⟩;generalize hk:Zdc _ _=k;have gk:Zdc [110,116,34,92] ((Lib.decodeL (u.drop i)).1:Int)=k:=by rw [<- bo];exact hk
     cases hE:ZvU (Lib.decodeL (u.drop i)).1 with
     | none =>
      exact mq80
     | some b =>
     have g1:WQ (s.drop a)=Z9 f (u.drop (i+(decodeL u i).2)) false (l++[b]) (1+(i+(decodeL u i).2)):=by rw [<- gz,bo];simp [Z9,ah,hE,TM,So]
     have g3:i+(decodeL u i).2<=u.length:=by rw [bo];have:=jq ah;omega
     have qo:1<=(decodeL u i).2:=by rw [bo];omega
     rcases Zlw hE with ⟨e1,rfl⟩ | ⟨e1,rfl⟩ | ⟨e1,rfl⟩ | ⟨e1,rfl⟩
     all_goals (rw [e1] at gk;subst gk)
     all_goals (conv=>whnf)
     all_goals (refine ⟨oM,by first | omega | (simp;done) | (simp;omega),?_⟩)
     all_goals (conv=>whnf)
     all_goals (refine ⟨⟨.inl rfl,rfl,rfl,cm,oM⟩,?_⟩)
     all_goals (conv=>whnf)
     all_goals (refine ⟨⟨false,_,_,f,_,rfl,?_,.inr rfl,⟨g3,oM,?_⟩,g1.symm⟩,?_⟩)
     all_goals (first | (rw [Jw];rfl) | (rw [Tb];simp;omega) | exact (show u.length - (i+(decodeL u i).2)<u.length - i by omega))
    exact mq45
   conv=>whnf
   refine ZFU (fun h2=>wN ?_) (fun h2=>wN ?_)
   ·have ah:u.drop i≠[]:=fun g=>by have:=congrArg List.length g;rw [TH] at this;simp at this;omega
    refine Zl ?_;refine Zl ?_;refine ⟨⟨.inl rfl,oM,by rw [bo];omega⟩,wN ?_⟩;generalize hk:Zdc _ _=k;have gk:Zdc [110,116,34,92] ((Lib.decodeL (u.drop i)).1:Int)=k:=by rw [<- bo];exact hk
    cases hE:ZvU (Lib.decodeL (u.drop i)).1 with
    | none =>
     exact mq80
    | some b =>
    have g1:WQ (s.drop a)=Z9 f (u.drop (i+(decodeL u i).2)) false (l++[b]) (1+(i+(decodeL u i).2)):=by rw [<- gz,bo];simp [Z9,ah,hE,TM,So]
    have g3:i+(decodeL u i).2<=u.length:=by rw [bo];have:=jq ah;omega
    have qo:1<=(decodeL u i).2:=by rw [bo];omega
    rcases Zlw hE with ⟨e1,rfl⟩ | ⟨e1,rfl⟩ | ⟨e1,rfl⟩ | ⟨e1,rfl⟩
    all_goals (rw [e1] at gk;subst gk)
    all_goals (conv=>whnf)
    all_goals (refine ⟨oM,by first | omega | (simp;done) | (simp;omega),?_⟩)
    all_goals (conv=>whnf)
    all_goals (refine ⟨⟨.inr rfl,rfl,rfl,cm,oM⟩,?_⟩)
    all_goals (conv=>whnf)
    all_goals (refine ⟨⟨false,_,_,f,_,rfl,?_,.inr rfl,⟨g3,oM,?_⟩,g1.symm⟩,?_⟩)
    all_goals (first | (rw [Jw];rfl) | (rw [Tb];simp;omega) | exact (show u.length - (i+(decodeL u i).2)<u.length - i by omega))
   exact mq45
  | false =>
  rcases hp with rfl | rfl
  ·conv=>whnf
   refine ZFU (fun h2=>wN ?_) (fun h2=>wN ?_)
   ·have ah:u.drop i≠[]:=fun g=>by have:=congrArg List.length g;rw [TH] at this;simp at this;omega
    have g3:i+(decodeL u i).2<=u.length:=by rw [bo];have:=jq ah;omega
    have qo:1<=(decodeL u i).2:=by rw [bo];omega
    have lm:((a:Int)+1+(i:Int)).toNat=a+1+i:=oM;have vw:s.drop (a+1+i)=u.drop i:=by rw [hu,TM]
    refine Zl ?_;refine Zl ?_;refine ⟨⟨oM,oM⟩,wN ?_⟩;refine ZFU (fun h3=>wN ?_) (fun h3=>wN ?_)
    ·have ek:(Lib.decodeL (u.drop i)).1=34:=by rw [bo] at h3;omega
     have g1:WQ (s.drop a)=.ok l (1+i+1):=by rw [<- gz];simp [Z9,ah,ek]
     refine Zl ?_;refine ⟨l,⟨rfl,rfl,rfl,.inl rfl,oM⟩,wN ?_⟩;exact mq111
    have ek:¬(Lib.decodeL (u.drop i)).1=34:=by rw [bo] at h3;omega
    refine ZFU (fun h4=>wN ?_) (fun h4=>wN ?_)
    ·have ju:(Lib.decodeL (u.drop i)).1=92:=by rw [bo] at h4;omega
     have g1:WQ (s.drop a)=Z9 f (u.drop (i+(decodeL u i).2)) true l (1+(i+(decodeL u i).2)):=by rw [<- gz,bo];simp [Z9,ah,ek,ju,TM,So]
     refine ⟨⟨true,_,_,f,_,rfl,rfl,.inl rfl,⟨g3,oM,oM⟩,g1.symm⟩,?_⟩;exact mq199
    have ju:¬(Lib.decodeL (u.drop i)).1=92:=by rw [bo] at h4;omega
    refine ZFU (fun h5=>wN ?_) (fun h5=>wN ?_)
    ·exact mq85
    have f6:¬(pk (u.drop i)).1<32:=by rw [lm,vw] at h5;exact h5
    have g1:WQ (s.drop a)=Z9 f (u.drop (i+(decodeL u i).2)) false (l++Lib.encodeRune ((decodeL u i).1:Int)) (1+(i+(decodeL u i).2)):=by rw [<- gz,bo];simp [Z9,ah,ek,ju,f6,TM,So]
    have hen:=Zkb ((decodeL u i).1:Int);refine ⟨⟨.inl rfl,rfl,rfl,cm,oM,oM,by rw [bo];omega⟩,wN ?_⟩;exact mq109
   exact mq45
  conv=>whnf
  refine ZFU (fun h2=>wN ?_) (fun h2=>wN ?_)
  ·have ah:u.drop i≠[]:=fun g=>by have:=congrArg List.length g;rw [TH] at this;simp at this;omega
   have g3:i+(decodeL u i).2<=u.length:=by rw [bo];have:=jq ah;omega
   have qo:1<=(decodeL u i).2:=by rw [bo];omega
   have lm:((a:Int)+1+(i:Int)).toNat=a+1+i:=oM;have vw:s.drop (a+1+i)=u.drop i:=by rw [hu,TM]
   refine Zl ?_;refine Zl ?_;refine ⟨⟨oM,oM⟩,wN ?_⟩;refine ZFU (fun h3=>wN ?_) (fun h3=>wN ?_)
   ·have ek:(Lib.decodeL (u.drop i)).1=34:=by rw [bo] at h3;omega
    have g1:WQ (s.drop a)=.ok l (1+i+1):=by rw [<- gz];simp [Z9,ah,ek]
    refine Zl ?_;refine ⟨l,⟨rfl,rfl,rfl,.inr rfl,oM⟩,wN ?_⟩;exact mq111
   have ek:¬(Lib.decodeL (u.drop i)).1=34:=by rw [bo] at h3;omega
   refine ZFU (fun h4=>wN ?_) (fun h4=>wN ?_)
   ·have ju:(Lib.decodeL (u.drop i)).1=92:=by rw [bo] at h4;omega
    have g1:WQ (s.drop a)=Z9 f (u.drop (i+(decodeL u i).2)) true l (1+(i+(decodeL u i).2)):=by rw [<- gz,bo];simp [Z9,ah,ek,ju,TM,So]
    refine ⟨⟨true,_,_,f,_,rfl,rfl,.inr rfl,⟨g3,oM,oM⟩,g1.symm⟩,?_⟩;exact mq199
   have ju:¬(Lib.decodeL (u.drop i)).1=92:=by rw [bo] at h4;omega
   refine ZFU (fun h5=>wN ?_) (fun h5=>wN ?_)
   ·exact mq85
   have f6:¬(pk (u.drop i)).1<32:=by rw [lm,vw] at h5;exact h5
   have g1:WQ (s.drop a)=Z9 f (u.drop (i+(decodeL u i).2)) false (l++Lib.encodeRune ((decodeL u i).1:Int)) (1+(i+(decodeL u i).2)):=by rw [<- gz,bo];simp [Z9,ah,ek,ju,f6,TM,So]
   have hen:=Zkb ((decodeL u i).1:Int);refine ⟨⟨.inr rfl,rfl,rfl,cm,oM,oM,by rw [bo];omega⟩,wN ?_⟩;exact mq109
  exact mq45
 exact h.elim
def ZpD (r:Bs) (h:0<r.length):XI r<=r.length/\XI r<=2:=by
 unfold XI
 split
 ·rename_i h1
  simp only [twos,List.any_cons,List.any_nil,SA,Sx] at h1;rcases h1 with h1 | h1 | h1 | h1 | h1
  all_goals (have:=(Ys h1).1;omega)
 split <;> omega
def Xf (a:Nat) (r:Bs) (room:Bool):Jt a r room=if XI r=0/\(pk r).1≠34/\Zm (pk r).1=false/\Zp (pk r).1=false then .bad a 140
 else if room=false then .bad a 3
 else if 0<XI r then .tok ⟨4,r.take (XI r),0,a,a+XI r⟩
 else if (pk r).1=34 then Zeo a r
 else if Zp (pk r).1=true then WS a r
 else .tok ⟨1,r.take (VB r),0,a,a+VB r⟩:=rfl
def Zwa:OKw w0 nG [(222,ZbH),(299,Zlr),(223,UN),(262,Zdb),(300,Zls),(301,Zcn),(224,Zib)] 274 Zfg:=by
 refine pwo Tryz.func274 fun args σ K h=>?_
 unfold Zfg at h
 split at h
 ·rename_i room t s a
  obtain ⟨⟨h0,h1,hs⟩,h⟩:=h;obtain ⟨a,rfl⟩:∃n:Nat,a=n:=⟨a.toNat,oM⟩
  simp only [Tj] at h;have uf:-1<=(pk (s.drop ((a:Int)).toNat)).1/\(pk (s.drop ((a:Int)).toNat)).1<=1114111:=WK (s.drop a);have eo:=ZpD (s.drop a) hD;rw [TH] at eo;have cy:∀e:Nat,Jt a (s.drop a) room=.bad a e->K (.ret (.tuple [Zeq 0 [] 0 0 0,Zia a e])) ⟨[.cells t [.d (.str s),.d (.int .i64 a)]],[],0⟩:=fun e g=>by
   rw [g] at h;exact h
  have xl:∀n:Nat,XI (s.drop a)=n->Jt a (s.drop a) room=.tok ⟨4,(s.drop a).take n,0,a,a+n⟩->K (.ret (.tuple [Zeq 4 (cut s ((a:Int)).toNat ((a:Int)+(n:Int)).toNat) 0 a ((a:Int)+(n:Int)),Zia 0 0])) ⟨[.cells t [.d (.str s),.d (.int .i64 a)]],[],0⟩:=fun n g1 g2=>by
   rw [g2] at h;rw [Zgx,show ((a:Int)+(n:Int)).toNat - ((a:Int)).toNat=n by omega];exact h
  have ip:Jt a (s.drop a) room=.tok ⟨1,(s.drop a).take (VB (s.drop a)),0,a,a+VB (s.drop a)⟩->K (.ret (.tuple [Zeq 1 ((s.drop a).take (VB (s.drop a))) 0 a ((a:Int)+(VB (s.drop a):Int)),Zia 0 0])) ⟨[.cells t [.d (.str s),.d (.int .i64 a)]],[],0⟩:=fun g=>by
   rw [g] at h;exact h
  refine pwv [] 1 false ?_;refine ⟨⟨oM,oM⟩,wN ?_⟩;refine ⟨⟨oM,oM,oM⟩,wN ?_⟩;generalize jb:(pk (s.drop ((a:Int)).toNat)).1=c at uf |-;have hc:(pk (s.drop a)).1=c:=jb;generalize dq:XI (s.drop ((a:Int)).toNat)=n;have hn:XI (s.drop a)=n:=dq;rw [hn] at eo;refine ZFU (fun h2=>?_) (fun h2=>?_)
  ·obtain rfl:n=0:=by omega
   conv=>whnf
   refine ZFX (fun h3=>wN ?_) (fun h3=>?_)
   ·refine ⟨⟨oM,oM⟩,wN ?_⟩;refine ZFY (fun h4=>wN ?_) (fun h4=>?_)
    ·have ju:Zm c=false:=by simpa using h4
     refine ZFY (fun h5=>wN ?_) (fun h5=>?_)
     ·have f6:Zp c=false:=by simpa using h5
      (try (refine ⟨rfl,?_⟩;conv=>whnf))
      (try (refine ⟨rfl,?_⟩;conv=>whnf))
      exact cy 140 (by rw [Xf,hn,hc,Tk ⟨rfl,h3,ju,f6⟩])
     have f6:Zp c=true:=by simpa using h5
     have jo:¬(0=0/\c≠34/\Zm c=false/\Zp c=false):=fun g=>by rw [f6] at g;simp at g
     cases room with
     | false =>
      exact mq55
     | true =>
     conv=>whnf
     refine ZFU (fun h6=>?_) (fun h6=>wN ?_)
     ·exact absurd h6 (by simpa using h3)
     refine ZFY (fun h7=>wN ?_) (fun h7=>?_)
     ·refine ⟨⟨oM,oM,oM⟩,wN ?_⟩;have g:Jt a (s.drop a) true=WS a (s.drop a):=by
       rw [Xf,hn,hc,Tf jo,Tf sM,Tf oM,Tf h3,Tk f6]
      rw [g] at h;exact h
     rw [f6] at h7;cases h7
    have ju:Zm c=true:=by simpa using h4
    have f6:Zp c=false:=by
     have aff:(c=95\/128<=c\/(97<=c/\c<=122)\/(65<=c/\c<=90)):=by simpa [Zm] using ju
     simp only [Zp,decide_eq_false_iff_not];omega
    have jo:¬(0=0/\c≠34/\Zm c=false/\Zp c=false):=fun g=>by rw [ju] at g;simp at g
    cases room with
    | false =>
     exact mq55
    | true =>
    conv=>whnf
    refine ZFU (fun h6=>?_) (fun h6=>wN ?_)
    ·exact absurd h6 (by simpa using h3)
    refine ZFY (fun h7=>?_) (fun h7=>wN ?_)
    ·rw [f6] at h7;cases h7
    refine ⟨⟨oM,oM,oM⟩,wN ?_⟩;exact ip (by rw [Xf,hn,hc,Tf jo,Tf sM,Tf oM,Tf h3,Tf (by rw [f6];simp)])
   obtain rfl:c=34:=h3;have jo:¬(0=0/\(34:Int)≠34/\Zm 34=false/\Zp 34=false):=fun g=>g.2.1 rfl
   cases room with
   | false =>
    exact mq55
   | true =>
   conv=>whnf
   refine ⟨⟨oM,oM,oM⟩,wN ?_⟩;have g:Jt a (s.drop a) true=Zeo a (s.drop a):=by
    rw [Xf,hn,hc,Tf jo,Tf sM,Tf oM,Tk rfl]
   rw [g] at h;exact h
  have jo:¬(n=0/\c≠34/\Zm c=false/\Zp c=false):=fun g=>by omega
  cases room with
  | false =>
   exact mq55
  | true =>
  conv=>whnf
  refine ZFU (fun h6=>wN ?_) (fun h6=>?_)
  ·refine Zl ?_;refine ⟨oM,oM,oM,wN ?_⟩;refine Zl ?_
   (try (refine ⟨rfl,?_⟩;conv=>whnf))
   (try (refine ⟨rfl,?_⟩;conv=>whnf))
   exact xl n hn (by rw [Xf,hn,hc,Tf jo,Tf sM,Tk oM])
  omega
 exact h.elim
def Zil:∀(f:Nat) (r:Bs),YZ f r<=r.length
 | 0,r=>Sa _
 | f+1,r=>by
  have ih:=Zil f (r.drop (pk r).2);rw [TH] at ih;have hl:(pk r).1≠-1->(pk r).2<=r.length:=fun h=>(ZAd r h).2.1
  unfold YZ
  split
  ·rename_i h;have:=hl oM;split <;> omega
  split
  ·rename_i h
   have:=hl (fun h1=>by rw [h1,ZbJ,Zde] at h;simp at h);omega
  omega
def ZpE (r:Bs) (h:Zm (pk r).1=true):1<=VB r/\VB r<=r.length:=by
 refine ⟨?_,Zil _ _⟩;have:=Zpx r;have h46:¬(pk r).1=46:=fun g=>by rw [g] at h;revert h;decide
 rw [VB,Zif h46 (.inl h)];omega
def UO:∀(f:Nat) (r:Bs) (esc:Bool) (acc:Bs) (p:Nat) (t:Bs) (l:Nat),Z9 f r esc acc p=.ok t l->p<l/\l<=p+r.length
 | 0,r,esc,acc,p,t,l,h=>by simp [Z9] at h
 | f+1,r,esc,acc,p,t,l,h=>by
  unfold Z9 at h
  split at h
  ·cases h
  rename_i ah
  have hd:=Lib.decodeL_le r ah;have hr:=ZgC r;split at h
  ·split at h
   ·cases h
   have:=UO f _ _ _ _ _ _ h;rw [TH] at this;omega
  split at h
  ·cases h;have:=List.length_pos_iff.2 ah;omega
  split at h
  ·have:=UO f _ _ _ _ _ _ h;rw [TH] at this;omega
  split at h
  ·cases h
  have:=UO f _ _ _ _ _ _ h;rw [TH] at this;omega
def ZpF (r:Bs):ZH r<=r.length:=by
 unfold ZH Zd
 have:=Ul (X6 (W9 r)) (r.drop (if W9 r then 2 else 0));rw [TH] at this
 by_cases h:W9 r=true
 ·have:=(Ys h).1;simp only [h,if_true] at *;omega
 simp only [h,Tv,if_false] at *;omega
def ZpG {a:Nat} {r:Bs} {room:Bool} {t:Tok} (h0:0<r.length) (h:Jt a r room=.tok t):t.at'=a/\a<t.fin/\t.fin<=a+r.length:=by
 rw [Xf] at h;split at h
 ·cases h
 rename_i g0
 split at h
 ·cases h
 split at h
 ·cases h;rename_i g1;have:=ZpD r h0;exact ⟨rfl,by simp only;omega,by simp only;omega⟩
 rename_i g1
 split at h
 ·unfold Zeo at h
  split at h
  ·cases h
  rename_i t' l hx
  cases h
  have:=UO _ _ _ _ _ _ _ hx;rw [TH] at this;exact ⟨rfl,by simp only;omega,by simp only;omega⟩
 rename_i g2
 split at h
 ·rename_i g3
  unfold WS at h
  split at h
  ·cases h
  rename_i n hx
  cases h
  have aj:=ZpF r;refine ⟨rfl,?_,by simp only;omega⟩;simp only;have ah:Zd r≠[]:=fun g=>by rw [Z1,Tk g] at hx;cases hx
  have:=List.length_pos_iff.2 ah;unfold ZH;omega
 rename_i g3
 cases h
 have h4:Zm (pk r).1=true:=by
  cases hb:Zm (pk r).1 with
  | true=>rfl
  | false=>exact absurd ⟨oM,g2,hb,by simpa using g3⟩ g0
 have:=ZpE r h4;exact ⟨rfl,by simp only;omega,by simp only;omega⟩
def ZpH {a:Nat} {r:Bs} {room:Bool} {p e:Nat} (h:Jt a r room=.bad p e):e≠0/\e<=142:=by
 rw [Xf] at h
 repeat' split at h
 all_goals first | (cases h;done) | (cases h;omega) | (cases h;decide) | skip
 ·unfold Zeo at h;split at h <;> cases h;decide
 unfold WS at h;split at h <;> cases h;decide
def Zdg:∀(f:Nat) (r:Bs),(ZV f r).2<=r.length
 | 0,r=>Sa _
 | f+1,r=>by
  have zy:=Uj (([32,9,13,10]:Bs).contains ·) r
  obtain ⟨rest,am⟩:∃x,x=Lib.trimLeftS r [32,9,13,10]:=⟨_,rfl⟩
  have dy:rest.length<=r.length:=by rw [am];exact zy.2
  simp only [ZV,<- am];split
  ·rename_i h1
   have ih:=fun n=>Zdg f (rest.drop n)
   have aa:=Uk 10 rest;have dl:=Lib.indexByte_ge rest 10;have ih2:=ih (if Lib.indexByte rest 10<0 then rest.length else (Lib.indexByte rest 10).toNat);rw [TH] at ih2;simp only;have:(if Lib.indexByte rest 10<0 then rest.length else (Lib.indexByte rest 10).toNat)<=rest.length:=by split <;> omega
   omega
  split
  ·rename_i h1 h2
   have hl:=(Ys h2).1;split
   ·simp only;omega
   rename_i h3
   have aj:=Zgy [42,47] (rest.drop 2) oM;simp only [TH,Te,Tg] at aj;have ih2:=Zdg f (rest.drop ((Lib.index (rest.drop 2) [42,47]).toNat+4));rw [TH] at ih2;simp only;omega
  simp only;omega
end Go.PM.Lex
end

section
namespace Go.PM
def ZgD (T:Tab) (tbl:Tbl) (it:Zfe) (gid:FuncId) (fn:Func):Zfe:=fun g args raw σ K=>∃loops,Zps T tbl it gid fn loops g args raw σ K
def Jx {G : GE} {T : Tab} {tbl : Tbl} (hT : TabOK T G.P) (az : G.P.follows .mixedOrders = true) (ht : TblOK G tbl) (hm : TblM tbl) {it : Zfe} (ki : IterSem G it) {gid : FuncId} {fn : Func} {c : Code} (hf : G.P.funcs[gid]? = some fn) (hb : fn.body = some c) (ak : (fn.name == "runtime.NumGoroutine") = false)
  (ao:ZE fn.ntmps c=true):IterSem G (ZgD T tbl it gid fn):=fun g args raw σ K h=>by
 obtain ⟨loops,h⟩:=h;exact Znl hT az ht hm ki hf hb ak ao loops g args raw σ K h
end Go.PM
namespace Go.PM.Lex
open Go.Proofs
variable {w0:World} {nG:Nat}
def ZpI:Zn:=fun args σ K=>match args,σ with
 | [.d (.str s),.d (.int .i64 m)],⟨[],[],0⟩=>K (.ret (.func 272 [] [.ptr 0 0,.ptr 1 0])) ⟨[.cells 9 [.d (.str s)],.cells 3 [.d (.int .i64 m)]],[],0⟩
 | _,_=>False
def Zns:Zy ZpI:=fun args σ K K' hK h=>by
 unfold ZpI at h |-;split at h <;> first | exact hK _ _ h | exact h.elim
def ZAh:PC w0 nG 240 ZpI:=by
 refine pwe Tryz.func240 fun args σ K h=>?_
 unfold ZpI at h
 split at h
 ·rename_i s m
  refine pwv [] 2 false ?_;exact h
 exact h.elim
def ZAi (t:Tok):List D:=[.int .u8 t.kind,.str t.text,.int .i64 t.n,.int .i64 t.at',.int .i64 t.fin]
def ZR (l:List Tok):List (List D):=l.map ZAi
def XJ (l:List Tok):(ZR l).length=l.length:=by simp [ZR]
def Znt (l:List Tok) (t:Tok):ZR (l++[t])=ZR l++[ZAi t]:=by simp [ZR]
def J8:Zn:=fun args σ K=>match args,σ with
 | [.d (.str s),.d (.int .i64 m)],⟨[],[],0⟩=>s.length<4294967281 /\
   K (.ret (.tuple [.d (.sl (if (Zep s m).2.2=0 then ZR (Zep s m).1 else [])),.d (.int .i64 (Zep s m).2.1),.d (.int .i64 (Zep s m).2.2)])) ⟨[],[],0⟩
 | _,_=>False
def ZgE:Tbl:=[(273,ZaZ),(274,Zfg)]
def ZDs:Zfe:=ZgD Vq ZgE Zc8 272 Tryz.f272
def ZpK (ht:TO w0 nG ZgE):IterSem (GG w0 nG) ZDs:=Jx Zx mixed ht ⟨Zic,Zj8,trivial⟩ noIter_sem Tryz.func272 rfl kR kR
def muX (B:Int) (k:Nat):List PV->St->Nat:=fun _ σ=>match σ.bx[k]? with | some (.cells _ (_::.d (.int _ n)::_))=>(B - n).toNat | _=>0
def ZpL (fj:TO w0 nG ZgE) (ht:TO w0 nG [(240,ZpI)]):PC w0 nG 191 J8:=by
 refine Zj2 Zx mixed ht ⟨Zns,trivial⟩ (ZpK fj) Tryz.func191 rfl kR kR ?_;intro args σ K h
 unfold J8 at h
 split at h
 ·rename_i s m
  obtain ⟨hs,h⟩:=h;refine ⟨Zj [],0,false,sM,Tc rfl,wN ?_⟩;intro y r
  refine ⟨Zj [(3,⟨[5],[0,1,2,4],fun vs σ=>∃(l:List Tok) (e f:Nat),vs=[.d (.int .i64 (l.length:Int))] /\
   σ=⟨[.cells 108 [.sl 0 170 []],.cells 3 [.d (.int .i64 0)],.cells 37 [.d (.int .i64 0)],.cells 108 [.sl 1 170 (ZR l)],.cells 9 [.d (.str s)],.cells 3 [.d (.int .i64 m)],.loop .ready none r,.cells 280 [.d (.str s),.d (.int .i64 e)]],[1,0],2⟩ /\
   (e<=s.length/\s.length<e+f/\l.length<=e)/\Zep s m=(l++(Ug f (m - l.length) e (s.drop e)).1,(Ug f (m - l.length) e (s.drop e)).2),muX s.length 7⟩)],rfl,?_⟩
  conv=>whnf
  refine ⟨⟨[],0,s.length+1,rfl,rfl,⟨oM,oM,sM⟩,by simp [Zep]⟩,?_⟩;intro vs σ1 hI
  obtain ⟨l,e,f,rfl,rfl,⟨zx,qd,aj⟩,ce⟩:=hI;obtain ⟨f,rfl⟩:∃g,f=g+1:=⟨f - 1,oM⟩
  have cf:(YQ (s.drop e)).2<=s.length - e:=by have:(YQ (s.drop e)).2<=(s.drop e).length:=Zdg _ _;rw [TH] at this;exact this
  have cy:∀p c:Nat,(Ug (f+1) (m - l.length) e (s.drop e)).2=(p,c)->c≠0->K (.ret (.tuple [.d (.sl []),.d (.int .i64 p),.d (.int .i64 c)])) ⟨[],[],0⟩:=fun p c g1 g2=>by
   have e1:(Zep s m).2=(p,c):=by rw [ce];exact g1
   rw [e1] at h;simp only at h;rw [Tf g2] at h;exact h
  have d7:Ug (f+1) (m - l.length) e (s.drop e)=([],(0,0))->K (.ret (.tuple [.d (.sl (ZR l)),.d (.int .i64 0),.d (.int .i64 0)])) ⟨[],[],0⟩:=fun g=>by
   rw [ce,g] at h;simp only [T1,if_true] at h;exact h
  conv=>whnf
  refine ⟨⟨oM,oM,oM⟩,wN ?_⟩;generalize hk0:(YQ (s.drop ((e:Int)).toNat)).2=k;have hk:(YQ (s.drop e)).2=k:=hk0;rw [hk] at cf;refine ZFY (fun h2=>wN ?_) (fun h2=>wN ?_)
  ·have dj:(YQ (s.drop e)).1=false:=by simpa using h2
   have g1:Ug (f+1) (m - l.length) e (s.drop e)=([],(e+k,140)):=by rw [Ug,Tk dj,hk]
   have g2:=cy _ _ (by rw [g1]) dM;rw [show ((e+k:Nat):Int)=(e:Int)+(k:Int) by omega] at g2;refine ⟨rfl,rfl,rfl,wN ?_⟩;refine ⟨rfl,wN ?_⟩
   iterate 6 (try (refine ⟨rfl,?_⟩;conv=>whnf))
   exact g2
  have dj:(YQ (s.drop e)).1=true:=by simpa using h2
  have cm:¬(YQ (s.drop e)).1=false:=by rw [dj];simp
  refine ZFU (fun h3=>wN ?_) (fun h3=>wN ?_)
  ·have ez:(s.drop e).drop k=[]:=by rw [TM];exact Tq oM
   have g1:Ug (f+1) (m - l.length) e (s.drop e)=([],(0,0)):=by rw [Ug,Tf cm,hk,Tk ez]
   exact d7 g1
  have aa:e+k<s.length:=by omega
  have ah:¬(s.drop e).drop k=[]:=fun g=>by have:=congrArg List.length g;rw [TM,TH] at this;simp at this;omega
  have g1:Ug (f+1) (m - l.length) e (s.drop e)=(match Jt (e+k) (s.drop (e+k)) (decide ((l.length:Int)<m)) with
    | .bad p e=>([],(p,e))
    | .tok t=>(t::(Ug f (m - l.length - 1) t.fin ((s.drop (e+k)).drop (t.fin - (e+k)))).1,(Ug f (m - l.length - 1) t.fin ((s.drop (e+k)).drop (t.fin - (e+k)))).2)):=by
   rw [Ug,Tf cm,hk,Tf ah,TM,show (decide (0<m - (l.length:Int)))=decide ((l.length:Int)<m) from by rw [decide_eq_decide];omega] <;> rfl
  refine ⟨⟨oM,oM,oM⟩,wN ?_⟩;generalize gf:Jt ((e:Int)+(k:Int)).toNat (s.drop ((e:Int)+(k:Int)).toNat) _=x;have hx:Jt (e+k) (s.drop (e+k)) (decide ((l.length:Int)<m))=x:=by
   rw [show ((e:Int)+(k:Int)).toNat=e+k by omega] at gf;exact gf
  rw [hx] at g1
  cases x with
  | bad p c =>
   have hc:=ZpH hx;have g2:=cy p c (by rw [g1]) hc.1;(conv=>whnf);refine ⟨rfl,rfl,rfl,wN ?_⟩;refine ⟨rfl,wN ?_⟩;refine ZFX (fun h4=>wN ?_) (fun h4=>?_)
   ·iterate 6 (try (refine ⟨rfl,?_⟩;conv=>whnf))
    exact g2
   exact absurd h4 (by have:((c:Nat):Int)≠0:=oM;exact this)
  | tok t =>
  obtain ⟨fj,kp,ht3⟩:=ZpG hD hx;rw [TH] at ht3;(conv=>whnf);refine ⟨rfl,rfl,rfl,wN ?_⟩;refine ⟨rfl,wN ?_⟩;refine ⟨fun r hr=>by (simp at hr;subst hr;rfl),(show ((ZR l).length+1) * 48<=2 ^ 47 by rw [XJ];omega),(show (ZR l).length+1<=2 ^ 47 by rw [XJ];omega),wN ?_⟩
  iterate 3 (try (refine ⟨rfl,?_⟩;conv=>whnf))
  refine Zl ?_;refine ⟨⟨l++[t],t.fin,f,?_,?_,⟨oM,oM,by rw [Tb];simp;omega⟩,?_⟩,?_⟩
  ·rw [Tb];rfl
  ·rw [Znt];rfl
  ·have hd:(s.drop (e+k)).drop (t.fin - (e+k))=s.drop t.fin:=by rw [TM,show e+k+(t.fin - (e+k))=t.fin by omega]
   rw [ce,g1,Tb];simp only [hd,Te,Tg,Int.natCast_add,Int.sub_sub,To,T5,Sm];rfl
  exact (show ((s.length:Int) - (t.fin:Int)).toNat<((s.length:Int) - (e:Int)).toNat by omega)
 exact h.elim
end Go.PM.Lex
end

section
namespace Go.PM.Lex
open Go.Proofs
variable {w0:World} {nG:Nat}
def ZAj:Tbl:=[(330,ZDj),(331,Zdf)]
def Zim (hg:GlobOK w0 nG):PC w0 nG 318 Ju:=by
 refine pwt (tbl:=ZAj) ⟨ZDl,Znr hg,trivial⟩ Tryz.func318 fun args σ K h=>?_
 unfold Ju at h
 split at h
 ·rename_i l base bits
  obtain ⟨fx,⟨hl,rfl,rfl⟩,cy,dt⟩:=h;refine pwv [] 0 false ?_;refine ⟨fx,⟨hl,rfl,rfl⟩,fun h0=>?_,fun h0 h1=>?_,fun h0 h1=>?_⟩
  ·conv=>whnf
   refine ⟨⟨.inr rfl,hl.2⟩,wN ?_⟩;exact cy (.inl h0) _
  ·conv=>whnf
   refine ⟨⟨.inl rfl,hl.2⟩,wN ?_⟩;exact cy (.inr h1) _
  conv=>whnf
  exact dt (by simp only [not_or];exact ⟨h0,h1⟩)
 exact h.elim
def ZpM:PC w0 nG 222 ZbH:=ZvX ⟨Znm,WJ,trivial⟩
def ZDt:PC w0 nG 299 Zlr:=ZvZ ⟨WJ,Uh,trivial⟩
def ZAk:PC w0 nG 224 Zib:=Zv1 ⟨ZpM,J7,Zgv,trivial⟩
def ZAl (hg:GlobOK w0 nG):PC w0 nG 273 ZaZ:=ZsN ⟨Zj7,WJ,Uh,ZsK (by have:=hg.big;omega) hg.maxLen,trivial⟩
def Zwb (hg:GlobOK w0 nG):PC w0 nG 301 Zcn:=ZpA ⟨WJ,Zgv,Zim hg,ZpM,J7,trivial⟩
def Zin:PC w0 nG 290 Jv:=YK (Ze Tryz.func290 kR rfl) fun args σ K h e w vs hS ha=>by
 unfold Jv at h
 split at h
 ·obtain ⟨u,rfl,hu⟩:=Zer ha
  cases hu.dint
  exact ⟨_,h,_,fun _ _=>.mkbool,(Tryz.utf8_ValidRune _ w).mono fun en w' ⟨h1,h2⟩=>⟨h1,by rw [h2];exact Grows.refl _⟩⟩
 exact h.elim
def Zfj:PC w0 nG 265 Wq:=Zik ⟨Uh,Zin,trivial⟩
def ZDu:PC w0 nG 300 Zls:=Zv8 ⟨Zfj,ZbL,ZpM,ZbM,Zie,trivial⟩
def ZDv (hg:GlobOK w0 nG):PC w0 nG 274 Zfg:=Zwa ⟨ZpM,ZDt,J7,Zgv,ZDu,Zwb hg,ZAk,trivial⟩
def ZDw (hg:GlobOK w0 nG):TO w0 nG ZgE:=⟨ZAl hg,ZDv hg,trivial⟩
def Zwc (hg:GlobOK w0 nG):PC w0 nG 191 J8:=ZpL (ZDw hg) ⟨ZAh,trivial⟩
structure T0 where
 kind:Nat
 text:Bs
 n:Int
 deriving DecidableEq
def Tok.t0 (t:Tok):T0:=⟨t.kind,t.text,t.n⟩
abbrev Ts:=List T0
inductive R (α:Type) where
 | ok (a:α) (ts:Ts) | err (r e:Nat)
def R.bind {α β:Type} (x:R α) (f:α->Ts->R β):R β:=match x with
 | .ok a ts=>f a ts
 | .err r e=>.err r e
@[simp] theorem R.bind_ok {α β:Type} (a:α) (ts:Ts) (f:α->Ts->R β):(R.ok a ts).bind f=f a ts:=rfl
@[simp] theorem R.bind_err {α β:Type} (r e:Nat) (f:α->Ts->R β):(R.err r e:R α).bind f=.err r e:=rfl
inductive Ex where
 | mk (op:Nat) (text:Bs) (n:Int) (args:List Ex) (at':Nat)
inductive Li where
 | mk (op:Nat) (rel:Bs) (args:List Ex) (body:List Li) (at':Nat)
structure Ru where
 head:Bs
 args:List Ex
 body:List Li
 at':Nat
structure Fi where
 name:Bs
 typ:Bs
structure Ca where
 name:Bs
 fields:List Fi
structure Ty where
 kind:Nat
 name:Bs
 base:Bs
 fields:List Fi
 cases:List Ca
 at':Nat
structure Re where
 name:Bs
 fields:List Fi
 inn:Bool
 out:Bool
 inl:Bool
 at':Nat
structure Ini where
 name:Bs
 comp:Bs
 types:List Bs
 at':Nat
structure Ov where
 rel:Bs
 at':Nat
mutual
inductive Un where
 | mk (types:List Ty) (rels:List Re) (rules:List Ru) (comps:List Co) (inits:List Ini) (overs:List Ov)
inductive Co where
 | mk (name:Bs) (params:List Bs) (base:Bs) (types:List Bs) (unit:Un) (at':Nat)
end
def hd (ts:Ts):T0:=match ts with
 | []=>⟨0,[],0⟩
 | t::_=>t
def YL (s:Bs):Nat :=
 if s=[99,97,116] then 20 else if s=[115,116,114,108,101,110] then 21 else if s=[115,117,98,115,116,114] then 22 else if s=[99,111,100,101] then 23 else if s=[115,116,114] then 24 else if s=[110,117,109] then 25 else 0
def keptWords:List Bs:=[[116,121,112,101],[100,101,99,108],[105,110,112,117,116],[111,117,116,112,117,116],[105,110,108,105,110,101],[99,111,109,112],[105,110,105,116],[111,118,101,114,114,105,100,101],[110,105,108],[99,111,117,110,116],[115,117,109],[109,105,110],[109,97,120],[98,111,114],[98,120,111,114],[98,97,110,100],[115,104,108],[115,104,114]]
def Znu (s:Bs):Bool:=keptWords.contains s || decide (YL s≠0)
def isW (ts:Ts) (ws:List Bs):Bool:=(decide ((hd ts).kind=1) || decide ((hd ts).kind=4)) && ws.contains (hd ts).text
def ZN (ts:Ts):Bool:=decide ((hd ts).kind=1) && (!decide ((hd ts).text=[95]) && !Znu (hd ts).text)
def Z2 (ts:Ts):Bool :=
 if (hd ts).kind=2\/(hd ts).kind=3 then true
 else if (hd ts).kind=4 then isW ts [[45],[126],[40],[91],[36]]
 else if (hd ts).kind=1 then !Znu (hd ts).text || (decide ((hd ts).text=[110,105,108]) || decide (YL (hd ts).text≠0))
 else false
def Za0 (ts:Ts):Nat×Nat :=
 if (hd ts).kind≠1/\(hd ts).kind≠4 then (0,0)
 else if (hd ts).text=[98,111,114] then (1,16) else if (hd ts).text=[98,120,111,114] then (1,17) else if (hd ts).text=[98,97,110,100] then (2,15) else if (hd ts).text=[115,104,108] then (3,18) else if (hd ts).text=[115,104,114] then (3,19)
 else if (hd ts).text=[43] then (4,10) else if (hd ts).text=[45] then (4,11) else if (hd ts).text=[42] then (5,12) else if (hd ts).text=[47] then (5,13) else if (hd ts).text=[37] then (5,14) else (0,0)
def Z3 (w:Bs) (ts:Ts):R Unit:=if isW ts [w]=true then .ok () ts.tail else .err ts.length 150
def XO (ts:Ts):R Bs:=if ZN ts=true then .ok (hd ts).text ts.tail else .err ts.length 150
def Zu {α:Type} (d:Nat) (fr tw:Bs) (read:Ts->R α) (ts:Ts):R α :=
 if isW ts [fr]=true then
  (if d=0 then .err ts.length 151 else (read ts.tail).bind fun x ts=>if tw=[] then .ok x ts else (Z3 tw ts).bind fun _ ts=>.ok x ts)
 else .err ts.length 150
def Wr {α:Type} (sign:Bs) (bc:Nat) (starts:Ts->Bool) (one:Ts->R α):Nat->List α->Ts->R (List α)
 | 0,_,_=>.err 0 150
 | f+1,l,ts=>if starts ts=true/\l.length=bc then .err ts.length 3
   else (one ts).bind fun x ts=>if isW ts [sign]=true then Wr sign bc starts one f (l++[x]) ts.tail else .ok (l++[x]) ts
def XP {α:Type} (sign:Bs) (bc:Nat) (starts:Ts->Bool) (one:Ts->R α) (ts:Ts):R (List α):=Wr sign bc starts one (ts.length+1) [] ts
def Uq (ts:Ts):R Fi:=(XO ts).bind fun a ts=>(Z3 [58] ts).bind fun _ ts=>(XO ts).bind fun b ts=>.ok ⟨a,b⟩ ts
def Za1 (fin:Bs) (ts:Ts):R (List Fi):=if isW ts [fin]=true then .ok [] ts else XP [44] 12 ZN Uq ts
def Zfk (ts:Ts):R (List Bs):=if isW ts [[60]]=true then (XP [44] 12 ZN XO ts.tail).bind fun l ts=>(Z3 [62] ts).bind fun _ ts=>.ok l ts else .ok [] ts
def Zdh (ts:Ts):R Ca:=(XO ts).bind fun a ts=>(Z3 [123] ts).bind fun _ ts=>(Za1 [125] ts).bind fun l ts=>(Z3 [125] ts).bind fun _ ts=>.ok ⟨a,l⟩ ts
def Zio (t0:Ts):R Ty:=(XO t0).bind fun nm ts =>
 if isW ts [[60,58]]=true then (XO ts.tail).bind fun b ts=>.ok ⟨1,nm,b,[],[],t0.length⟩ ts
 else (Z3 [61] ts).bind fun _ ts =>
  if isW ts [[91]]=true then (Za1 [93] ts.tail).bind fun l ts=>(Z3 [93] ts).bind fun _ ts=>.ok ⟨2,nm,[],l,[],t0.length⟩ ts
  else (XP [124] 64 ZN Zdh ts).bind fun l ts=>.ok ⟨3,nm,[],[],l,t0.length⟩ ts
def Y4:Nat->Bool->Bool->Bool->Ts->(Bool×Bool×Bool)×Ts
 | 0,i,o,n,ts=>((i,o,n),ts)
 | f+1,i,o,n,ts=>if i=false/\isW ts [[105,110,112,117,116]]=true then Y4 f true o n ts.tail
   else if o=false/\isW ts [[111,117,116,112,117,116]]=true then Y4 f i true n ts.tail
   else if n=false/\isW ts [[105,110,108,105,110,101]]=true then Y4 f i o true ts.tail
   else ((i,o,n),ts)
def ZpN (t0:Ts):R Re:=(XO t0).bind fun nm ts=>(Z3 [40] ts).bind fun _ ts=>(Za1 [41] ts).bind fun l ts=>(Z3 [41] ts).bind fun _ ts =>
 .ok ⟨nm,l,(Y4 4 false false false ts).1.1,(Y4 4 false false false ts).1.2.1,(Y4 4 false false false ts).1.2.2,t0.length⟩ (Y4 4 false false false ts).2
def Zip (d:Nat) (ex:Ts->R Ex) (fr tw:Bs) (ts:Ts):R (List Ex):=Zu d fr tw (fun ts=>if isW ts [tw]=true then .ok [] ts else XP [44] 12 Z2 ex ts) ts
def J9 (ex:Ts->R Ex):Nat->List Ex->Ts->R (List Ex)
 | 0,l,ts=>.ok l ts
 | k+1,l,ts=>(if l=[] then .ok () ts else Z3 [44] ts).bind fun _ ts=>(ex ts).bind fun e ts=>J9 ex k (l++[e]) ts
def Znv (op:Nat):Nat:=if op=22 then 3 else if op=20 then 2 else 1
def Zaa (d:Nat) (ex:Ts->R Ex) (ts:Ts):R Ex :=
 if Z2 ts=false then .err ts.length 150
 else if (hd ts).kind=2 then .ok (.mk 3 [] (hd ts).n [] ts.length) ts.tail
 else if (hd ts).kind=3 then .ok (.mk 4 (hd ts).text 0 [] ts.length) ts.tail
 else if (hd ts).text=[40] then Zu d [40] [41] ex ts
 else if (hd ts).text=[91] then (Zip d ex [91] [93] ts).bind fun l ts'=>.ok (.mk 6 [] 0 l ts.length) ts'
 else if (hd ts).text=[36] then (XO ts.tail).bind fun nm ts'=>if isW ts' [[40]]=true then (Zip d ex [40] [41] ts').bind fun l ts'=>.ok (.mk 7 nm 0 l ts.length) ts' else .ok (.mk 7 nm 0 [] ts.length) ts'
 else if YL (hd ts).text≠0 then (Zu d [40] [41] (J9 ex (Znv (YL (hd ts).text)) []) ts.tail).bind fun l ts'=>.ok (.mk (YL (hd ts).text) [] 0 l ts.length) ts'
 else if (hd ts).text=[110,105,108] then .ok (.mk 5 [] 0 [] ts.length) ts.tail
 else if (hd ts).text=[95] then .ok (.mk 2 [] 0 [] ts.length) ts.tail
 else .ok (.mk 1 (hd ts).text 0 [] ts.length) ts.tail
def Ex.at':Ex->Nat | .mk _ _ _ _ a=>a
def U9 (sub:Nat->Ts->R Ex) (least:Nat):Nat->Ex->Ts->R Ex
 | 0,_,_=>.err 0 150
 | f+1,e,ts=>if (Za0 ts).1<least\/(Za0 ts).1=0 then .ok e ts
   else (sub ((Za0 ts).1+1) ts.tail).bind fun g ts'=>U9 sub least f (.mk (Za0 ts).2 [] 0 [e,g] e.at') ts'
def Jy (sg:Ts->R Ex):Nat->Nat->Ts->R Ex
 | 0,_,ts=>sg ts
 | k+1,least,ts=>(sg ts).bind fun e ts=>U9 (Jy sg k) least (ts.length+1) e ts
def Zdi (d:Nat) (sg:Ts->R Ex) (ts:Ts):R Ex :=
 if isW ts [[45]]=true then (Zu d [45] [] sg ts).bind fun e ts'=>.ok (.mk 8 [] 0 [e] ts.length) ts'
 else if isW ts [[126]]=true then (Zu d [126] [] sg ts).bind fun e ts'=>.ok (.mk 9 [] 0 [e] ts.length) ts'
 else Zaa d (Jy sg 6 1) ts
def Xs:Nat->Ts->R Ex
 | 0=>Zdi 0 fun _=>.err 0 150
 | d+1=>Zdi (d+1) (Xs d)
def Zab (d:Nat) (ts:Ts):R Ex:=Jy (Xs d) 6 1 ts
def Zdj:Nat->Ts->R Ex
 | 0=>fun _=>.err 0 150
 | d+1=>Zab d
def ZbN (ts:Ts):Nat->List Bs->Option Nat
 | _,[]=>none
 | i,w::ws=>if isW ts [w]=true then some i else ZbN ts (i+1) ws
def Z4:List Bs:=[[61],[33,61],[60],[60,61],[62],[62,61]]
def Yt:List Bs:=[[99,111,117,110,116],[115,117,109],[109,105,110],[109,97,120]]
def Zdk (ts:Ts):R Nat:=match ZbN ts 0 Z4 with
 | none=>.err ts.length 150
 | some 0=>match ZbN ts.tail 0 Yt with
  | some j=>.ok (9+j) ts.tail.tail
  | none=>.ok 3 ts.tail
 | some k=>.ok (3+k) ts.tail
def Zdl (d op a:Nat) (ts:Ts):R Li:=(XO ts).bind fun nm ts=>(Zip d (Zdj d) [40] [41] ts).bind fun l ts=>.ok (.mk op nm l [] a) ts
def Ws (d:Nat) (bd:Ts->R (List Li)) (a op:Nat) (l:List Ex) (ts:Ts):R Li :=
 if 9<=op then (Z3 [58] ts).bind fun _ ts=>(Zu d [123] [125] bd ts).bind fun b ts=>.ok (.mk op [] l b a) ts
 else .ok (.mk op [] l [] a) ts
def Zlx (d:Nat) (bd:Ts->R (List Li)) (t0:Ts):R Li:=(Zab d t0).bind fun e ts=>(Zdk ts).bind fun op ts =>
 if op=9 then Ws d bd t0.length op [e] ts else (Zab d ts).bind fun g ts=>Ws d bd t0.length op [e,g] ts
def Znw (d:Nat) (bd:Ts->R (List Li)) (t0:Ts):R Li :=
 if isW t0 [[33]]=true then Zdl d 2 t0.length t0.tail
 else if ZN t0=true/\(hd t0.tail).kind=4/\(hd t0.tail).text=[40] then Zdl d 1 t0.length t0
 else Zlx d bd t0
def Yd (ts:Ts):Bool:=Z2 ts || isW ts [[33]]
def Znx:Nat->Ts->R (List Li)
 | 0=>XP [44] 32 Yd (Znw 0 fun _=>.err 0 150)
 | d+1=>XP [44] 32 Yd (Znw (d+1) (Znx d))
def Zeu:Nat->Ts->R (List Li)
 | 0=>fun _=>.err 0 150
 | d+1=>Znx d
def ZpO (d:Nat) (bodies:Bool) (t0:Ts):R Ru:=(XO t0).bind fun nm ts=>(Zip d (Zdj d) [40] [41] ts).bind fun l ts =>
 if bodies=true/\isW ts [[58,45]]=true then (Znx d ts.tail).bind fun b ts=>(Z3 [46] ts).bind fun _ ts=>.ok ⟨nm,l,b,t0.length⟩ ts
 else (Z3 [46] ts).bind fun _ ts=>.ok ⟨nm,l,[],t0.length⟩ ts
def ZpP (d:Nat) (un:Ts->R Un) (t0:Ts):R Co:=(XO t0).bind fun nm ts=>(Zfk ts).bind fun ps ts =>
 if isW ts [[58]]=true then (XO ts.tail).bind fun b ts=>(Zfk ts).bind fun tys ts=>(Zu d [123] [125] un ts).bind fun u ts=>.ok (.mk nm ps b tys u t0.length) ts
 else (Zu d [123] [125] un ts).bind fun u ts=>.ok (.mk nm ps [] [] u t0.length) ts
def ZpQ (t0:Ts):R Ini:=(XO t0).bind fun nm ts=>(Z3 [61] ts).bind fun _ ts=>(XO ts).bind fun c ts=>(Zfk ts).bind fun tys ts=>.ok ⟨nm,c,tys,t0.length⟩ ts
def ZpR (t0:Ts):R Ov:=(XO t0).bind fun nm ts=>.ok ⟨nm,t0.length⟩ ts
def XV (inside:Bool) (d:Nat) (un:Ts->R Un):Nat->Un->Ts->R Un
 | 0,_,_=>.err 0 150
 | f+1,.mk tys rels rules comps inits overs,ts =>
  if ts=[]\/(inside=true/\isW ts [[125]]=true) then .ok (.mk tys rels rules comps inits overs) ts
  else if isW ts [[116,121,112,101]]=true then (if tys.length=256 then .err ts.length 3 else (Zio ts.tail).bind fun x ts=>XV inside d un f (.mk (tys++[x]) rels rules comps inits overs) ts)
  else if isW ts [[100,101,99,108]]=true then (if rels.length=256 then .err ts.length 3 else (ZpN ts.tail).bind fun x ts=>XV inside d un f (.mk tys (rels++[x]) rules comps inits overs) ts)
  else if isW ts [[99,111,109,112]]=true then (if comps.length=64 then .err ts.length 3 else (ZpP d un ts.tail).bind fun x ts=>XV inside d un f (.mk tys rels rules (comps++[x]) inits overs) ts)
  else if isW ts [[105,110,105,116]]=true then (if inits.length=256 then .err ts.length 3 else (ZpQ ts.tail).bind fun x ts=>XV inside d un f (.mk tys rels rules comps (inits++[x]) overs) ts)
  else if isW ts [[111,118,101,114,114,105,100,101]]=true then (if overs.length=256 then .err ts.length 3 else (ZpR ts.tail).bind fun x ts=>XV inside d un f (.mk tys rels rules comps inits (overs++[x])) ts)
  else if ZN ts=true then (if rules.length=1024 then .err ts.length 3 else (ZpO d true ts).bind fun x ts=>XV inside d un f (.mk tys rels (rules++[x]) comps inits overs) ts)
  else .err ts.length 150
def Un.nil:Un:=.mk [] [] [] [] [] []
def Zny (inside:Bool) (d:Nat) (un:Ts->R Un) (ts:Ts):R Un:=XV inside d un (ts.length+1) .nil ts
def ZpS:Nat->Ts->R Un
 | 0=>Zny true 0 fun _=>.err 0 150
 | d+1=>Zny true (d+1) (ZpS d)
def Za2 (ts:Ts):R Un:=Zny false 64 (ZpS 63) ts
end Go.PM.Lex
end
