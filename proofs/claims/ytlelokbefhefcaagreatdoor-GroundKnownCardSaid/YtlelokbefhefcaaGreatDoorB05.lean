/- A part of the proof: plain logic, contracts and laws over the given program. -/
import Derived.Test.YtlelokbefhefcaaGreatDoorProg
import Derived.Lib.MapLaws
import Derived.Lib.Strings
import Derived.Lib.Bytealg
import Derived.Lib.Index
import Derived.Lib.SlTrimSet
import Derived.Lib.Small
import Derived.Test.YtlelokbefhefcaaGreatDoorShelf
import Derived.Shelf.Strings.SlTrimAscii
import Derived.Shelf.Strings.Builder1
import Derived.Shelf.RegionOpenPlain
import Derived.Lib.Walk
import Derived.Lib.UnsafeStr
import Derived.Lib.Builder
import Derived.WalkKit
import Derived.Laws.Externs
import Derived.Lib.IndexAny
import Derived.KernelRfl
import Derived.Test.YtlelokbefhefcaaGreatDoorB04
set_option linter.unusedVariables false
set_option linter.unusedSimpArgs false
set_option linter.all false
set_option maxRecDepth 100000
set_option maxHeartbeats 16000000
noncomputable section
section
namespace Go.PM.Lex
open Go.Proofs
abbrev yi:PV:=.d (.int .i64 0)
abbrev yb:PV:=.d (.int .u8 0)
abbrev ys:PV:=.d (.str [])
abbrev yf:PV:=.d (.bool false)
abbrev yp:PV:=.d .nilp
abbrev ya (a b:Nat) (k:TK) (z:D):TI:=⟨a,b,k,[.d z],false⟩
abbrev yr (n:Nat):TI:=⟨1,8,.ptr n,[yp],false⟩
abbrev yl (n:Nat):TI:=⟨1,24,.slice n,[.nils n],false⟩
abbrev yn (n:Nat) (t:TI):Tab:=.node .leaf n t .leaf
def VU:Tab:=(.node (.node (.node (.node (.node (.node (.node (yn 2 ⟨1,8,.int .i64,[yi],true⟩) 3 ⟨1,8,.int .i64,[yi],true⟩ .leaf) 4 ⟨1,1,.bool,[yf],false⟩ (yn 5 ⟨1,1,.int .u8,[yb],true⟩)) 6 ⟨1,1,.int .u8,[yb],true⟩ (.node (.node (yn 7 ⟨4,24,.struct [(0,2),(1,3),(2,4),(3,6)],[yi,yi,yf,yb],false⟩) 8 ⟨4,24,.struct [(0,2),(1,3),(2,4),(3,6)],[yi,yi,yf,yb],false⟩ .leaf) 9 ⟨1,16,.string,[ys],false⟩ (yn 10 ⟨1,16,.string,[ys],false⟩))) 11 ⟨1,16,.string,[ys],false⟩ (.node (.node (.node (yn 12 ⟨1,8,.int .u64,[.d (.int .u64 (0))],true⟩) 13 ⟨2,24,.struct [(0,9),(1,12)],[ys,.d (.int .u64 (0))],false⟩ .leaf) 14 ⟨2,24,.struct [(0,9),(1,12)],[ys,.d (.int .u64 (0))],false⟩ (yn 15 (yr 385))) 16 (yr 388) (.node (yn 17 (yr 395)) 18 ⟨1,8,.struct [(0,17)],[yp],false⟩ (yn 19 ⟨1,8,.struct [(0,17)],[yp],false⟩)))) 20 ⟨1,16,.iface,[.d .nili],false⟩ (.node (.node (.node (.node (yn 21 ⟨1,4,.int .i32,[.d (.int .i32 (0))],true⟩) 23 (yl 25) .leaf) 24 ⟨5,64,.struct [(0,5),(1,9),(2,2),(3,23),(4,3)],[yb,ys,yi,.nils 25,yi],false⟩ (yn 25 ⟨5,64,.struct [(0,5),(1,9),(2,2),(3,23),(4,3)],[yb,ys,yi,.nils 25,yi],false⟩)) 26 (yl 9) (.node (yn 28 (yl 30)) 29 ⟨5,80,.struct [(0,5),(1,9),(2,23),(3,28),(4,3)],[yb,ys,.nils 25,.nils 30,yi],false⟩ (yn 30 ⟨5,80,.struct [(0,5),(1,9),(2,23),(3,28),(4,3)],[yb,ys,.nils 25,.nils 30,yi],false⟩))) 31 ⟨1,8,.int .i64,[yi],true⟩ (.node (.node (.node (yn 34 (yl 144)) 35 (yl 148) .leaf) 36 (yl 51) (yn 37 ⟨3,72,.struct [(0,34),(1,35),(2,36)],[.nils 144,.nils 148,.nils 51],false⟩)) 38 ⟨3,72,.struct [(0,34),(1,35),(2,36)],[.nils 144,.nils 148,.nils 51],false⟩ (.node (yn 42 ⟨1,8,.map 9 4,[.nilm],false⟩) 43 ⟨1,8,.map 9 4,[.nilm],false⟩ (yn 50 ⟨4,72,.struct [(0,9),(1,23),(2,28),(3,3)],[ys,.nils 25,.nils 30,yi],false⟩))))) 51 ⟨4,72,.struct [(0,9),(1,23),(2,28),(3,3)],[ys,.nils 25,.nils 30,yi],false⟩ (.node (.node (.node (.node (.node (yn 53 (yl 172)) 54 (yl 175) .leaf) 55 (yl 179) (yn 56 ⟨6,144,.struct [(0,34),(1,35),(2,36),(3,53),(4,54),(5,55)],[.nils 144,.nils 148,.nils 51,.nils 172,.nils 175,.nils 179],false⟩)) 57 ⟨6,144,.struct [(0,34),(1,35),(2,36),(3,53),(4,54),(5,55)],[.nils 144,.nils 148,.nils 51,.nils 172,.nils 175,.nils 179],false⟩ (.node (.node (yn 62 (ya 1 8 .func .nilf)) 65 (ya 1 8 .func .nilf) .leaf) 69 (yr 139) (yn 70 ⟨2,16,.struct [(0,3),(1,31)],[yi,yi],false⟩))) 71 ⟨2,16,.struct [(0,3),(1,31)],[yi,yi],true⟩ (.node (.node (.node (yn 74 ⟨1,8,.struct [(0,3)],[yi],false⟩) 75 ⟨1,8,.struct [(0,3)],[yi],true⟩ .leaf) 78 (yr 108) (yn 89 ⟨1,8,.int .u64,[.d (.int .u64 (0))],true⟩)) 101 (yr 160) (.node (yn 104 (yl 166)) 107 ⟨6,64,.struct [(0,104),(1,3),(2,3),(3,3),(4,31),(5,3)],[.nils 166,yi,yi,yi,yi,yi],false⟩ (yn 108 ⟨6,64,.struct [(0,104),(1,3),(2,3),(3,3),(4,31),(5,3)],[.nils 166,yi,yi,yi,yi,yi],false⟩)))) 114 ⟨1,8,.int .i64,[yi],true⟩ (.node (.node (.node (.node (yn 122 ⟨1,4,.int .u32,[.d (.int .u32 (0))],true⟩) 124 ⟨1,8,.int .u64,[.d (.int .u64 (0))],true⟩ .leaf) 126 (yr 132) (yn 127 (yr 130))) 128 (yl 5) (.node (yn 129 ⟨2,32,.struct [(0,127),(1,128)],[yp,.nils 5],false⟩) 130 ⟨2,32,.struct [(0,127),(1,128)],[yp,.nils 5],false⟩ (yn 131 ⟨2,32,.struct [(0,130)],[yp,.nils 5],false⟩))) 132 ⟨2,32,.struct [(0,130)],[yp,.nils 5],false⟩ (.node (.node (.node (yn 136 ⟨1,8,.map 9 152,[.nilm],false⟩) 137 ⟨1,8,.map 9 3,[.nilm],false⟩ .leaf) 138 ⟨7,104,.struct [(0,137),(1,137),(2,137),(3,136),(4,38)],[.nilm,.nilm,.nilm,.nilm,.nils 144,.nils 148,.nils 51],false⟩ (yn 139 ⟨7,104,.struct [(0,137),(1,137),(2,137),(3,136),(4,38)],[.nilm,.nilm,.nilm,.nilm,.nils 144,.nils 148,.nils 51],false⟩)) 141 (yl 192) (.node (yn 142 (yl 151)) 143 ⟨6,96,.struct [(0,5),(1,9),(2,9),(3,141),(4,142),(5,3)],[yb,ys,ys,.nils 192,.nils 151,yi],false⟩ (yn 144 ⟨6,96,.struct [(0,5),(1,9),(2,9),(3,141),(4,142),(5,3)],[yb,ys,ys,.nils 192,.nils 151,yi],false⟩)))))) 147 ⟨6,56,.struct [(0,9),(1,141),(2,4),(3,4),(4,4),(5,3)],[ys,.nils 192,yf,yf,yf,yi],false⟩ (.node (.node (.node (.node (.node (.node (yn 148 ⟨6,56,.struct [(0,9),(1,141),(2,4),(3,4),(4,4),(5,3)],[ys,.nils 192,yf,yf,yf,yi],false⟩) 150 ⟨2,40,.struct [(0,9),(1,141)],[ys,.nils 192],false⟩ .leaf) 151 ⟨2,40,.struct [(0,9),(1,141)],[ys,.nils 192],false⟩ (yn 152 ⟨2,16,.array 2 3,[yi,yi],false⟩)) 156 (ya 1 8 .func .nilf) (.node (.node (yn 159 ⟨7,96,.struct [(0,69),(1,51),(5,137),(6,4)],[yp,ys,.nils 25,.nils 30,yi,.nilm,yf],false⟩) 160 ⟨7,96,.struct [(0,69),(1,51),(5,137),(6,4)],[yp,ys,.nils 25,.nils 30,yi,.nilm,yf],false⟩ .leaf) 165 ⟨5,48,.struct [(0,5),(1,9),(2,2),(3,3),(4,3)],[yb,ys,yi,yi,yi],false⟩ (yn 166 ⟨5,48,.struct [(0,5),(1,9),(2,2),(3,3),(4,3)],[yb,ys,yi,yi,yi],true⟩))) 171 ⟨11,232,.struct [(0,9),(1,26),(2,9),(3,26),(4,57),(10,3)],[ys,.nils 9,ys,.nils 9,.nils 144,.nils 148,.nils 51,.nils 172,.nils 175,.nils 179,yi],false⟩ (.node (.node (.node (yn 172 ⟨11,232,.struct [(0,9),(1,26),(2,9),(3,26),(4,57),(10,3)],[ys,.nils 9,ys,.nils 9,.nils 144,.nils 148,.nils 51,.nils 172,.nils 175,.nils 179,yi],false⟩) 174 ⟨4,64,.struct [(0,9),(1,9),(2,26),(3,3)],[ys,ys,.nils 9,yi],false⟩ .leaf) 175 ⟨4,64,.struct [(0,9),(1,9),(2,26),(3,3)],[ys,ys,.nils 9,yi],false⟩ (yn 178 ⟨2,24,.struct [(0,9),(1,3)],[ys,yi],false⟩)) 179 ⟨2,24,.struct [(0,9),(1,3)],[ys,yi],true⟩ (.node (yn 181 ⟨1,8,.int .u64,[.d (.int .u64 (0))],true⟩) 185 (yr 3) (yn 188 (ya 1 8 .func .nilf))))) 191 ⟨2,32,.struct [(0,9),(1,9)],[ys,ys],false⟩ (.node (.node (.node (.node (yn 192 ⟨2,32,.struct [(0,9),(1,9)],[ys,ys],true⟩) 193 (ya 1 8 .func .nilf) .leaf) 194 (ya 1 8 .func .nilf) (yn 196 (ya 1 8 .func .nilf))) 199 (ya 1 8 .func .nilf) (.node (yn 201 (ya 1 8 .func .nilf)) 203 (ya 1 8 .func .nilf) (yn 208 ⟨3,3,.array 3 4,[yf,yf,yf],false⟩))) 209 ⟨3,48,.array 3 9,[ys,ys,ys],false⟩ (.node (.node (.node (yn 213 (yr 253)) 215 (yr 5) .leaf) 218 (yl 3) (yn 222 ⟨1,8,.map 9 26,[.nilm],false⟩)) 234 (yr 181) (.node (yn 237 (ya 1 8 .func .nilf)) 238 ⟨1,16,.iface,[.d .nili],false⟩ (yn 239 ⟨1,16,.iface,[.d .nili],false⟩))))) 247 ⟨2,16,.struct [(0,3),(1,31)],[yi,yi],false⟩ (.node (.node (.node (.node (.node (yn 248 ⟨2,16,.struct [(0,3),(1,31)],[yi,yi],true⟩) 250 ⟨3,40,.struct [(0,104),(1,3),(2,3)],[.nils 166,yi,yi],false⟩ .leaf) 251 ⟨3,40,.struct [(0,104),(1,3),(2,3)],[.nils 166,yi,yi],false⟩ (yn 252 ⟨4,48,.struct [(0,251),(3,3)],[.nils 166,yi,yi,yi],false⟩)) 253 ⟨4,48,.struct [(0,251),(3,3)],[.nils 166,yi,yi,yi],false⟩ (.node (.node (yn 273 (yr 275)) 275 ⟨2,24,.struct [(0,9),(1,3)],[ys,yi],true⟩ .leaf) 282 ⟨3,32,.struct [(0,3),(1,9),(2,3)],[yi,ys,yi],true⟩ (yn 289 ⟨6,96,.array 6 9,[ys,ys,ys,ys,ys,ys],false⟩))) 290 ⟨4,64,.array 4 9,[ys,ys,ys,ys],false⟩ (.node (.node (.node (yn 294 ⟨2,16,.struct [(0,3),(1,31)],[yi,yi],false⟩) 295 ⟨2,16,.struct [(0,3),(1,31)],[yi,yi],true⟩ .leaf) 296 (yr 251) (yn 331 ⟨2,2,.struct [(0,5),(1,5)],[yb,yb],false⟩)) 332 ⟨2,2,.struct [(0,5),(1,5)],[yb,yb],false⟩ (.node (yn 333 ⟨32,32,.array 16 332,(.replicate 32 yb),false⟩) 343 ⟨24,24,.array 24 5,(.replicate 24 yb),false⟩ (yn 353 (yr 349))))) 354 ⟨5,80,.array 5 9,[ys,ys,ys,ys,ys],false⟩ (.node (.node (.node (.node (yn 360 ⟨20,160,.array 20 124,[.d (.int .u64 (0)),.d (.int .u64 (0)),.d (.int .u64 (0)),.d (.int .u64 (0)),.d (.int .u64 (0)),.d (.int .u64 (0)),.d (.int .u64 (0)),.d (.int .u64 (0)),.d (.int .u64 (0)),.d (.int .u64 (0)),.d (.int .u64 (0)),.d (.int .u64 (0)),.d (.int .u64 (0)),.d (.int .u64 (0)),.d (.int .u64 (0)),.d (.int .u64 (0)),.d (.int .u64 (0)),.d (.int .u64 (0)),.d (.int .u64 (0)),.d (.int .u64 (0))],false⟩) 366 ⟨2,24,.struct [(0,9),(1,5)],[ys,yb],false⟩ .leaf) 367 ⟨4,48,.array 2 366,[ys,yb,ys,yb],false⟩ (yn 370 ⟨1,8,.int .i64,[yi],true⟩)) 372 (yr 379) (.node (yn 375 ⟨32,32,.array 32 5,(.replicate 32 yb),false⟩) 376 ⟨64,64,.array 64 5,(.replicate 64 yb),false⟩ (yn 379 ⟨3,48,.struct [(0,9),(1,9),(2,239)],[ys,ys,.d .nili],false⟩))) 381 (yr 383) (.node (.node (.node (yn 383 ⟨1,16,.struct [(0,9)],[ys],false⟩) 385 ⟨4,40,.struct [(0,17),(1,17),(2,17),(3,9)],[yp,yp,yp,ys],false⟩ .leaf) 389 ⟨1,1,.int .u8,[yb],true⟩ (yn 390 ⟨1,1,.int .u8,[yb],true⟩)) 391 (ya 1 8 .func .nilf) (.node (yn 392 ⟨1,4,.int .i32,[.d (.int .i32 (0))],true⟩) 393 ⟨1,4,.int .i32,[.d (.int .i32 (0))],true⟩ (yn 395 ⟨11,48,.struct [(0,12),(1,12),(2,122),(3,389),(4,5),(5,5),(6,390),(7,391),(8,215),(9,392),(10,393)],[.d (.int .u64 (0)),.d (.int .u64 (0)),.d (.int .u32 (0)),yb,yb,yb,yb,.d .nilf,yp,.d (.int .i32 (0)),.d (.int .i32 (0))],false⟩)))))))
def Zr:TabOK VU Tryz.prog:=by unfold TabOK;kernel_rfl
def mixed:Tryz.prog.follows .mixedOrders=true:=by kernel_rfl
abbrev Bs:=List UInt8
def Zo (c:Int):Bool:=decide (48<=c/\c<=57)
def Zm (c:Int):Bool:=decide (c=95\/128<=c\/(97<=c/\c<=122)\/(65<=c/\c<=90))
def pk (r:Bs):Int×Nat:=if r=[]\/Lib.decodeL r=(65533,1) then (-1,1) else ((Lib.decodeL r).1,(Lib.decodeL r).2)
def Y1:Nat->Bs->Nat
 | 0,_=>0
 | f+1,r=>if (pk r).1=46 then (if Zm (pk (r.drop 1)).1=true then (pk r).2+Y1 f (r.drop (pk r).2) else 0)
   else if Zm (pk r).1=true\/Zo (pk r).1=true then (pk r).2+Y1 f (r.drop (pk r).2) else 0
def Vy (r:Bs):Nat:=Y1 (r.length+1) r
def ZX:Nat->Bs->Bool×Nat
 | 0,_=>(false,0)
 | f+1,r =>
  let rest:=Lib.trimLeftS r [32,9,13,10]
  let k:=r.length - rest.length
  if Lib.hasPrefix rest [47,47]=true then
   let n:=if Lib.indexByte rest 10<0 then rest.length else (Lib.indexByte rest 10).toNat
   let t:=ZX f (rest.drop n)
   (t.1,k+n+t.2)
  else if Lib.hasPrefix rest [47,42]=true then
   if Lib.index (rest.drop 2) [42,47]<0 then (false,k) else
   let n:=(Lib.index (rest.drop 2) [42,47]).toNat+4
   let t:=ZX f (rest.drop n)
   (t.1,k+n+t.2)
  else (true,k)
def YT (r:Bs):Bool×Nat:=ZX (r.length+1) r
def XZ (f8:Bool) (b:UInt8):Bool:=Zo b.toNat || (f8 && decide ((97<=b.toNat/\b.toNat<=102)\/(65<=b.toNat/\b.toNat<=70)))
def ZgY (b:UInt8):Nat:=if b.toNat<=57 then b.toNat - 48 else if b.toNat<=70 then b.toNat - 55 else b.toNat - 87
def Ww (base:Nat) (l:Bs):Nat:=l.foldl (fun n b=>n * base+ZgY b) 0
def W8 (r:Bs):Bool:=Lib.hasPrefix r [48,120]
def Zd (r:Bs):Bs:=(r.drop (if W8 r then 2 else 0)).takeWhile (XZ (W8 r))
def ZH (r:Bs):Nat:=(if W8 r then 2 else 0)+(Zd r).length
def Z1 (r:Bs):Option Nat :=
 if Zd r=[] then none
 else if (if W8 r then 18446744073709551616 else 9223372036854775808)<=Ww (if W8 r then 16 else 10) (Zd r) then none
 else if Zm (pk (r.drop (ZH r))).1=true\/Zo (pk (r.drop (ZH r))).1=true\/(W8 r=true/\16<(Zd r).length) then none
 else some (Ww (if W8 r then 16 else 10) (Zd r))
def Zwd (c:Nat):Option UInt8:=if c=110 then some 10 else if c=116 then some 9 else if c=34 then some 34 else if c=92 then some 92 else none
inductive TR where
 | err (at':Nat) | ok (txt:Bs) (len:Nat)
 deriving DecidableEq
def Z7:Nat->Bs->Bool->Bs->Nat->TR
 | 0,_,_,_,_=>.err 0
 | f+1,r,esc,acc,p =>
  if r=[] then .err 0
  else if esc=true then (match Zwd (Lib.decodeL r).1 with
   | none=>.err (p - 1)
   | some b=>Z7 f (r.drop (Lib.decodeL r).2) false (acc++[b]) (p+(Lib.decodeL r).2))
  else if (Lib.decodeL r).1=34 then .ok acc (p+1)
  else if (Lib.decodeL r).1=92 then Z7 f (r.drop (Lib.decodeL r).2) true acc (p+(Lib.decodeL r).2)
  else if (pk r).1<32 then .err p
  else Z7 f (r.drop (Lib.decodeL r).2) false (acc++Lib.encodeRune (Lib.decodeL r).1) (p+(Lib.decodeL r).2)
def WO (r:Bs):TR:=Z7 (r.length+1) (r.drop 1) false [] 1
def twos:List Bs:=[[58,45],[33,61],[60,61],[62,61],[60,58]]
def ones:Bs:=[40,41,91,93,123,125,44,46,58,33,61,60,62,43,45,42,47,37,124,36,126]
def Yg (r:Bs):Nat:=if twos.any (Lib.hasPrefix r) then 2 else if ones.contains (r.getD 0 0) then 1 else 0
structure Tok where
 kind:Nat
 text:Bs
 n:Int
 at':Nat
 fin:Nat
 deriving DecidableEq
inductive NR where
 | bad (at':Nat) (e:Nat) | tok (t:Tok)
 deriving DecidableEq
def WP (a:Nat) (r:Bs):NR:=match Z1 r with | none=>.bad a 142 | some n=>.tok ⟨2,[],IntKind.i64.wrap n,a,a+ZH r⟩
def ZeS (a:Nat) (r:Bs):NR:=match WO r with | .err p=>.bad (a+p) 141 | .ok t l=>.tok ⟨3,t,0,a,a+l⟩
def JF (a:Nat) (r:Bs) (room:Bool):NR :=
 let c:=(pk r).1
 let n:=Yg r
 if n=0/\c≠34/\Zm c=false/\Zo c=false then .bad a 140
 else if room=false then .bad a 3
 else if 0<n then .tok ⟨4,r.take n,0,a,a+n⟩
 else if c=34 then ZeS a r
 else if Zo c=true then WP a r
 else .tok ⟨1,r.take (Vy r),0,a,a+Vy r⟩
def Ug:Nat->Int->Nat->Bs->List Tok×(Nat×Nat)
 | 0,_,_,_=>([],(0,0))
 | f+1,ce,a,r =>
  if (YT r).1=false then ([],(a+(YT r).2,140))
  else
   let a:=a+(YT r).2
   let r:=r.drop (YT r).2
   if r=[] then ([],(0,0))
   else match JF a r (decide (0<ce)) with
    | .bad p e=>([],(p,e))
    | .tok t=>let u:=Ug f (ce - 1) t.fin (r.drop (t.fin - a));(t::u.1,u.2)
def ZeT (s:Bs) (ce:Int):List Tok×(Nat×Nat):=Ug (s.length+1) ce 0 s
end Go.PM.Lex
end

section
noncomputable section
namespace Go.PM.Lex
open Go.Proofs
def kR {P:Prop} (h:P:=by kernel_rfl):P:=h
abbrev GG (w0:World) (nG:Nat):GE:=⟨Tryz.prog,w0,nG⟩
def pc {w0:World} {nG:Nat} {tbl:Tbl} {sp:Zk} {g:FuncId} {fn:Func} {c:Code} (ht:TblOK (GG w0 nG) tbl) (hf:Tryz.prog.funcs[g]?=some fn) (h:∀args σ K,sp args σ K->∃loops keep own,σ.bx.length<=keep/\args.length<=fn.ntmps/\WF (ctx VU tbl loops) fn keep own args σ K) (hb:fn.body=some c:=by rfl) (hn:(fn.name == "runtime.NumGoroutine") = false:=by kernel_rfl) (hk:ZG fn.ntmps c=true:=by kernel_rfl):PCalls (GG w0 nG) g sp:=Ziv Zr mixed ht hf hb hn hk h
abbrev PC (w0:World) (nG:Nat):=PCalls (GG w0 nG)
abbrev TO (w0:World) (nG:Nat):=TblOK (GG w0 nG)
abbrev OKw (w0:World) (nG:Nat) (T:Tbl) (g:FuncId) (sp:Zk):Prop:=TO w0 nG T->PC w0 nG g sp
def pwt {w0:World} {nG:Nat} {tbl:Tbl} (ht:TO w0 nG tbl) {g:FuncId} {fn:Func} {sp:Zk} (hf:Tryz.prog.funcs[g]?=some fn) (h:∀args σ K,sp args σ K->∃loops keep own,σ.bx.length<=keep/\args.length<=fn.ntmps/\WF (ctx VU tbl loops) fn keep own args σ K) (hb:fn.body=some (Xd fn):=by rfl) (hn:(fn.name=="runtime.NumGoroutine")=false:=by kernel_rfl) (ho:ZG fn.ntmps (Xd fn)=true:=by kernel_rfl):PC w0 nG g sp:=Ziv Zr mixed ht hf hb hn ho h
def pwo {w0:World} {nG:Nat} {tbl:Tbl} {g:FuncId} {fn:Func} {sp:Zk} (hf:Tryz.prog.funcs[g]?=some fn) (h:∀args σ K,sp args σ K->∃loops keep own,σ.bx.length<=keep/\args.length<=fn.ntmps/\WF (ctx VU tbl loops) fn keep own args σ K) (hb:fn.body=some (Xd fn):=by rfl) (hn:(fn.name=="runtime.NumGoroutine")=false:=by kernel_rfl) (ho:ZG fn.ntmps (Xd fn)=true:=by kernel_rfl):OKw w0 nG tbl g sp:=fun ht=>pwt ht hf h hb hn ho
def pwe {w0:World} {nG:Nat} {g:FuncId} {fn:Func} {sp:Zk} (hf:Tryz.prog.funcs[g]?=some fn) (h:∀args σ K,sp args σ K->∃loops keep own,σ.bx.length<=keep/\args.length<=fn.ntmps/\WF (ctx VU [] loops) fn keep own args σ K) (hb:fn.body=some (Xd fn):=by rfl) (hn:(fn.name=="runtime.NumGoroutine")=false:=by kernel_rfl) (ho:ZG fn.ntmps (Xd fn)=true:=by kernel_rfl):PC w0 nG g sp:=pwt (tbl:=[]) trivial hf h hb hn ho
def pwv {T:Tab} {tbl:Tbl} {fn:Func} {args:List PV} {σ:St} {K:PEnd->St->Prop} {Q:Prop} (l:List (Nat×LoopAnn)) (k:Nat) (b:Bool) (q:Q) (h:Q->WF (ctx T tbl (Zg l)) fn k b args σ K:=by intro k;(conv=>whnf);exact k) (h1:σ.bx.length<=k:=by simp) (h2:args.length<=fn.ntmps:=by exact Tc rfl):∃loops keep own,σ.bx.length<=keep/\args.length<=fn.ntmps/\WF (ctx T tbl loops) fn keep own args σ K:=⟨Zg l,k,b,h1,h2,h q⟩
def pwu {T:Tab} {tbl:Tbl} {fn:Func} {args:List PV} {σ:St} {K:PEnd->St->Prop} (l:List (Nat×LoopAnn)) (k:Nat) (b:Bool) (q:WF (ctx T tbl (Zg l)) fn k b args σ K) (h1:σ.bx.length<=k:=by simp) (h2:args.length<=fn.ntmps:=by exact Tc rfl):∃loops keep own,σ.bx.length<=keep/\args.length<=fn.ntmps/\WF (ctx T tbl loops) fn keep own args σ K:=⟨Zg l,k,b,h1,h2,q⟩
def lzI {i n m:Nat} (e:n=m) (h:(i:Int)<(n:Int)):i<m:=by omega
def lzE {i n m:Nat} (e:n=m) (hi:i<=m) (h:¬(i:Int)<(n:Int)):i=m:=by omega
def lzG {i n m:Nat} (e:n=m) (h:¬(i:Int)<(n:Int)):m<=i:=by omega
def lzM {i n:Nat} (h:i<n):((n:Int) - ((i:Int)+1)).toNat<((n:Int) - (i:Int)).toNat:=by omega
def mu1 (n:Nat):List PV->St->Nat:=fun vs _=>match vs with | [.d (.int _ i)]=>((n:Int) - i).toNat | _=>0
def mu2 (n:Nat):List PV->St->Nat:=fun vs _=>match vs with | [_,.d (.int _ i)]=>((n:Int) - i).toNat | _=>0
def Zdq (s:Bs) (pos:Nat):decodeL s pos=Lib.decodeL (s.drop pos):=by
 have:=Lib.decodeL_drop ⟨s.toArray⟩ pos;simpa [decodeL] using this.symm
def Xu:Zk:=fun args σ K=>match args with
 | [.d (.str s),.d (.str p)]=>K (.ret (.d (.bool (Lib.hasPrefix s p)))) σ
 | _=>False
def Wj:Zk:=fun args σ K=>match args with
 | [.d (.str s),.d (.int .u8 c)]=>K (.ret (.d (.int .i64 (Lib.indexByte s c.toNat.toUInt8)))) σ
 | _=>False
def Zke:Zk:=fun args σ K=>match args with
 | [.d (.str s),.d (.str p)]=>s.length<4294967281/\K (.ret (.d (.int .i64 (Lib.index s p)))) σ
 | _=>False
def Zdr:Zk:=fun args σ K=>match args with
 | [.d (.int .i32 c)]=>K (.ret (.d (.int .i64 (Lib.runeLen c)))) σ
 | _=>False
def Zbe:Zk:=fun args σ K=>match args with
 | [.d (.str s),.d (.str p)]=>(p.length<4294967281/\∀(j:Nat) b,p[j]?=some b->b.toNat<128)/\K (.ret (.d (.str (Lib.trimLeftS s p)))) σ
 | _=>False
abbrev Zaj (k:Int) (x:Bs) (n a f:Int):PV:=.agg [.d (.int .u8 k),.d (.str x),.d (.int .i64 n),.d (.int .i64 a),.d (.int .i64 f)]
abbrev Ziw (a e:Int):PV:=.agg [.d (.int .i64 a),.d (.int .i64 e)]
def NR.t:NR->Tok | .bad _ _=>⟨0,[],0,0,0⟩ | .tok t=>t
def NR.p:NR->Nat | .bad p _=>p | .tok _=>0
def NR.e:NR->Nat | .bad _ e=>e | .tok _=>0
abbrev ZDF (x:NR):PV:=.tuple [Zaj x.t.kind x.t.text x.t.n x.t.at' x.t.fin,Ziw x.p x.e]
def UP:Zk:=fun args σ K=>match args,σ with
 | [.d (.int .i32 c)],⟨[],[],0⟩=>(-1<=c/\c<2147483648)/\K (.ret (.d (.bool (Zm c)))) ⟨[],[],0⟩
 | _,_=>False
def Wk:Zk:=fun args σ K=>match args,σ with
 | [.d (.int .i32 c)],⟨[],[],0⟩=>K (.ret (.d (.bool (Zo c)))) ⟨[],[],0⟩
 | _,_=>False
def ZbU:Zk:=fun args σ K=>match args,σ with
 | [.ptr 0 0,.d (.int .i64 at')],⟨[.cells t [.d (.str s),.d (.int .i64 a)]],[],0⟩=>(0<=at'/\s.length<4611686018427387904) /\
   K (.ret (.tuple [.d (.int .i32 (pk (s.drop at'.toNat)).1),.d (.int .i64 (pk (s.drop at'.toNat)).2)])) ⟨[.cells t [.d (.str s),.d (.int .i64 a)]],[],0⟩
 | _,_=>False
def Zix:Zk:=fun args σ K=>match args,σ with
 | [.ptr 0 0],⟨[.cells t [.d (.str s),.d (.int .i64 a)]],[],0⟩=>(0<=a/\a<=s.length/\s.length<4294967281) /\
   K (.ret (Zaj 1 ((s.drop a.toNat).take (Vy (s.drop a.toNat))) 0 a (a+Vy (s.drop a.toNat)))) ⟨[.cells t [.d (.str s),.d (.int .i64 a)]],[],0⟩
 | _,_=>False
def Zbf:Zk:=fun args σ K=>match args,σ with
 | [.ptr 0 0],⟨[.cells t [.d (.str s),.d (.int .i64 a)]],[],0⟩=>(0<=a/\a<=s.length/\s.length<4294967281) /\
   K (.ret (.d (.bool (YT (s.drop a.toNat)).1))) ⟨[.cells t [.d (.str s),.d (.int .i64 (a+(YT (s.drop a.toNat)).2))]],[],0⟩
 | _,_=>False
def Zly:Zk:=fun args σ K=>match args,σ with
 | [.ptr 0 0],⟨[.cells t [.d (.str s),.d (.int .i64 a)]],[],0⟩=>(0<=a/\a<s.length/\s.length<4294967281) /\
   K (.ret (.d (.int .i64 (Yg (s.drop a.toNat))))) ⟨[.cells t [.d (.str s),.d (.int .i64 a)]],[],0⟩
 | _,_=>False
def Ziy:Zx Zbf:=fun args σ K K' hK h=>by
 unfold Zbf at h |-;split at h <;> first | exact ⟨h.1,hK _ _ h.2⟩ | exact h.elim
end Go.PM.Lex
end
end

section
noncomputable section
namespace Go.PM
def YN {G:GE} {g:FuncId} {sp:Zk} (f5:XR G.P g)
  (h:∀args σ K,sp args σ K->∀(e:Env) (w:World) (vs:Array Value),SRel G e σ w->ArgsRel G e σ w args vs->∃pv,K (.ret pv) σ/\∃v,(∀w',Grows w w'->VRel G e σ w' pv v)/\Calls G.P g vs w fun en w'=>en=.returned v/\Grows w w'):PCalls G g sp where
 enters:=f5
 calls:=fun args σ K hs n e w vs hS ha=>by
  obtain ⟨pv,hK,v,hv,hc⟩:=h args σ K hs e w vs hS ha;refine CallsIn.mono (callsIn_wide.2 hc) fun en w' ⟨he,hg⟩=>?_
  subst he;exact ⟨.ret pv,σ,e,hK,⟨v,rfl,hv w' hg⟩,hS.grow hg,(hg.stepped e σ).toLater⟩
def ZGm {w w':World} (h:RowKit.Below w.heap.size w w'):Grows w w':=⟨h.os,h.tape,h.output,h.size,h.block⟩
section
variable {G:GE} {e:Env} {σ:St} {w:World} {vs:Array Value}
def ZeU {x:PV} (h:ArgsRel G e σ w [x] vs):∃u,vs=#[u]/\VRel G e σ w x u:=by
 obtain ⟨hs,hr⟩:=h;obtain ⟨l⟩:=vs
 match l,hs with
 | [u],_=>exact ⟨u,rfl,hr 0 x u rfl rfl⟩
def ZgZ {x y:PV} (h:ArgsRel G e σ w [x,y] vs):∃u v,vs=#[u,v]/\VRel G e σ w x u/\VRel G e σ w y v:=by
 obtain ⟨hs,hr⟩:=h;obtain ⟨l⟩:=vs
 match l,hs with
 | [u,v],_=>exact ⟨u,v,rfl,hr 0 x u rfl rfl,hr 1 y v rfl rfl⟩
end
end Go.PM
namespace Go.PM.Lex
open Go.Proofs
variable {w0:World} {nG:Nat}
def WG:PC w0 nG 258 Xu:=YN (Zf Tryz.func258 kR rfl) fun args σ K h e w vs hS ha=>by
 unfold Xu at h
 split at h
 ·obtain ⟨u,v,rfl,hu,hv⟩:=ZgZ ha
  cases hu.dstr;cases hv.dstr
  exact ⟨_,h,_,fun _ _=>.mkbool,(Tryz.strings_HasPrefix _ _ w).mono fun en w' ⟨h1,h2⟩=>⟨h1,by rw [h2];exact Grows.refl _⟩⟩
 exact h.elim
def Uh:PC w0 nG 286 Wj:=YN (Zf Tryz.func286 kR rfl) fun args σ K h e w vs hS ha=>by
 unfold Wj at h
 split at h
 ·obtain ⟨u,v,rfl,hu,hv⟩:=ZgZ ha
  cases hu.dstr;cases hv.dint
  exact ⟨_,h,_,fun _ _=>.mkint,(Tryz.strings_IndexByte _ _ w).mono fun en w' ⟨h1,h2⟩=>⟨h1,by rw [h2];exact Grows.refl _⟩⟩
 exact h.elim
def Zno:PC w0 nG 257 Zdr:=YN (Zf Tryz.func257 kR rfl) fun args σ K h e w vs hS ha=>by
 unfold Zdr at h
 split at h
 ·obtain ⟨u,rfl,hu⟩:=ZeU ha
  cases hu.dint
  exact ⟨_,h,_,fun _ _=>.mkint,(Tryz.utf8_RuneLen _ w).mono fun en w' ⟨h1,h2⟩=>⟨h1,by rw [h2];exact Grows.refl _⟩⟩
 exact h.elim
def ZsJ (h2:2<nG) (hm:∃m,w0.cell? ⟨2,0,none⟩=some (.int .i64 m)):PC w0 nG 295 Zke:=YN (Zf Tryz.func295 kR rfl) fun args σ K h e w vs hS ha=>by
 unfold Zke at h
 split at h
 ·rename_i s p
  obtain ⟨u,v,rfl,hu,hv⟩:=ZgZ ha
  cases hu.dstr;cases hv.dstr
  obtain ⟨m,hm⟩:=hm;have hm':w.cell? ⟨2,0,none⟩=some (.int .i64 m):=by
   have:=hS.glob 2 h2;simpa [World.cell?,this] using hm
  exact ⟨_,h.2,_,fun _ _=>.mkint,(Tryz.strings_Index ⟨s.toArray⟩ ⟨p.toArray⟩ m w (show s.toArray.size<_ by simpa using h.1) hm').mono fun en w' ⟨h1,h2⟩=>⟨h1,by rw [h2];exact Grows.refl _⟩⟩
 exact h.elim
def Zkf:PC w0 nG 294 Zbe:=YN (Zf Tryz.func294 kR rfl) fun args σ K h e w vs hS ha=>by
 unfold Zbe at h
 split at h
 ·rename_i s p
  obtain ⟨u,v,rfl,hu,hv⟩:=ZgZ ha
  cases hu.dstr;cases hv.dstr
  refine ⟨_,h.2,_,fun _ _=>.mkstr,(Any.strings_TrimLeft_laid Tryz.lays161 kR ⟨s.toArray⟩ ⟨p.toArray⟩ w (show p.toArray.size<_ by simpa using h.1.1) h.1.2).mono fun en w' ⟨h1,h2⟩=>⟨h1,ZGm h2⟩⟩
 exact h.elim
end Go.PM.Lex
end
end

section
noncomputable section
namespace Go.PM.Lex
open Go.Proofs
def Zl (l:Bs):List (List D):=l.map fun b=>[.int .u8 b.toNat]
def JG:Zk:=fun args σ K=>match args,σ with
 | [.d (.str l),.d (.int .i64 base),.d (.int .i64 bits)],⟨[],[],0⟩=>∃f8:Bool,((l.all (XZ f8)=true/\l.length<4294967281)/\base=(if f8 then 16 else 10)/\bits=(if f8 then 64 else 63)) /\
   ((l=[]\/(if f8 then 18446744073709551616 else 9223372036854775808)<=Ww (if f8 then 16 else 10) l)->∀n,K (.ret (.tuple [.d (.int .u64 n),.iface 372 .undef])) ⟨[],[],0⟩) /\
   (¬(l=[]\/(if f8 then 18446744073709551616 else 9223372036854775808)<=Ww (if f8 then 16 else 10) l)->K (.ret (.tuple [.d (.int .u64 (Ww (if f8 then 16 else 10) l)),.d .nili])) ⟨[],[],0⟩)
 | _,_=>False
def Vz:Zk:=fun args σ K=>match args,σ with
 | [.ptr 0 0,.d (.int .u8 c)],⟨[.cells t [p,.sl 0 e rows]],[0],1⟩=>((p=.d .nilp\/p=.ptr 0 0)/\t=130/\e=5/\(∀r∈rows,r.length=1)/\rows.length<70368744177664) /\
   K (.ret (.d .nili)) ⟨[.cells t [.ptr 0 0,.sl 0 e (rows++[[.int .u8 c]])]],[0],1⟩
 | _,_=>False
def VA:Zk:=fun args σ K=>match args,σ with
 | [.ptr 0 0,.d (.int .i32 c)],⟨[.cells t [p,.sl 0 e rows]],[0],1⟩=>((p=.d .nilp\/p=.ptr 0 0)/\t=130/\e=5/\(∀r∈rows,r.length=1)/\rows.length<70368744177664/\0<=c/\c<=1114111) /\
   K (.ret (.tuple [.d (.int .i64 (((rows++Zl (Lib.encodeRune c)).length:Int) - (rows.length:Int))),.d .nili])) ⟨[.cells t [.ptr 0 0,.sl 0 e (rows++Zl (Lib.encodeRune c))]],[0],1⟩
 | _,_=>False
def ZcB:Zk:=fun args σ K=>match args,σ with
 | [.ptr 0 0],⟨[.cells t [p,.sl 0 e rows]],[0],1⟩=>∃l:Bs,(rows=Zl l/\t=130/\e=5/\(p=.d .nilp\/p=.ptr 0 0)/\l.length<70368744177664)/\K (.ret (.d (.str l))) ⟨[.cells t [p,.d (.sl rows)]],[],0⟩
 | _,_=>False
def Zds (s:Bs) (c:Int):Int:=if c<128 then Lib.indexByte s c.toNat.toUInt8 else -1
def Wl:Zk:=fun args σ K=>match args,σ with
 | [.d (.str s),.d (.int .i32 c)],⟨[],[],0⟩=>((s=[110,116,34,92]\/s=[10,9,34,92])/\0<=c/\c<=1114111)/\K (.ret (.d (.int .i64 (Zds s c)))) ⟨[],[],0⟩
 | _,_=>False
def ZcC:Zk:=fun args σ K=>match args,σ with
 | [.ptr 0 0],⟨[.cells t [.d (.str s),.d (.int .i64 a)]],[],0⟩=>(0<=a/\a<s.length/\s.length<4294967281) /\
   K (.ret (ZDF (WP a.toNat (s.drop a.toNat)))) ⟨[.cells t [.d (.str s),.d (.int .i64 a)]],[],0⟩
 | _,_=>False
def Zlz:Zk:=fun args σ K=>match args,σ with
 | [.ptr 0 0],⟨[.cells t [.d (.str s),.d (.int .i64 a)]],[],0⟩=>(0<=a/\a<s.length/\s.length<4294967281) /\
   K (.ret (ZDF (ZeS a.toNat (s.drop a.toNat)))) ⟨[.cells t [.d (.str s),.d (.int .i64 a)]],[],0⟩
 | _,_=>False
def ZfH:Zk:=fun args σ K=>match args,σ with
 | [.ptr 0 0,.d (.bool room)],⟨[.cells t [.d (.str s),.d (.int .i64 a)]],[],0⟩=>(0<=a/\a<s.length/\s.length<4294967281) /\
   K (.ret (ZDF (JF a.toNat (s.drop a.toNat) room))) ⟨[.cells t [.d (.str s),.d (.int .i64 a)]],[],0⟩
 | _,_=>False
def Zkg:Zx ZfH:=fun args σ K K' hK h=>by
 unfold ZfH at h |-;split at h <;> first | exact ⟨h.1,hK _ _ h.2⟩ | exact h.elim
end Go.PM.Lex
end
end

section
namespace Go.PM
def VB {G:GE} {g:FuncId} {sp:Zk} (f5:XR G.P g)
  (h:∀args σ K,sp args σ K->∀(e:Env) (w:World) (vs:Array Value),SRel G e σ w->ArgsRel G e σ w args vs->∃pv σ' v,K (.ret pv) σ'/\Calls G.P g vs w fun en w'=>en=.returned v/\VRel G e σ' w' pv v/\SRel G e σ' w'/\Later e σ w e σ' w'):PCalls G g sp where
 enters:=f5
 calls:=fun args σ K hs n e w vs hS ha=>by
  obtain ⟨pv,σ',v,hK,hc⟩:=h args σ K hs e w vs hS ha;refine CallsIn.mono (callsIn_wide.2 hc) fun en w' ⟨he,hv,hS',hL⟩=>?_
  subst he;exact ⟨.ret pv,σ',e,hK,⟨v,rfl,hv⟩,hS',hL⟩
section
variable {G:GE} {T:Tab} {e:Env} {σ:St} {w:World}
def Zdt (hT:TabOK T G.P) (hS:SRel G e σ w) {t:TypeId} {b off:Nat} {x:PV} {v:Value} {l cs:List PV} {ty:TypeId} (hb:σ.bx[b]?=some (.cells ty cs)) (hx:VRel G e σ w x v) (hl:x.cells=some l)
  (hlen:l.length=(T.get t).size) (n7:off+l.length<=cs.length) (hk:(T.get t).kind≠.other) :
  Stepped e σ w e (σ.set b (.cells ty (Yk cs off l))) (w.setCells (e.β b) off v.cells.toList)/\SRel G e (σ.set b (.cells ty (Yk cs off l))) (w.setCells (e.β b) off v.cells.toList):=by
 obtain ⟨w1,hr,h1,h2⟩:=Jy hT hS hb hx hl hlen n7 hk;obtain ⟨i,d,z,hi,hd,hs,eg,aq,hz,co,_⟩:=(hT.get hk).ex;obtain ⟨vs,mh,pi,ww⟩:=hS.box b _ hb;obtain ⟨dv,bj⟩:=WZ hx hl;have vd:v.cells.toList.length=l.length:=by simpa using dv
 have kb:∀u∈v.cells.toList,u.oneCell'=true:=fun u hu=>by
  obtain ⟨j,hj,rfl⟩:=T5 hu;have h1:j<l.length:=oM;exact (bj j l[j] _ (Tb h1) (by rw [<- TF,Tb hj])).2
 have aj:=run_storeCells_cells (P:=G.P) (e.β b) off v.cells.toList 0 w (fun j hj=>by
   have:off+j<vs.size:=oM;simp [World.cell?,mh,this]) (fun j hj=>by simp [World.frozen?,mh]) kb
 simp only [Nat.add_zero] at aj;have ef:(Instr.storeAt t (.pointer (some ⟨e.β b,off,none⟩)) v).run G.P w=.ok () (w.setCells (e.β b) off v.cells.toList):=by
  have n8:v.cells.size=i.size:=by rw [dv,hlen,hs]
  simp only [Instr.storeAt,Instr.sureAddr,storeVar,Sem.run_bind,Sem.run_pure,Result.andThen,Zt hi];rw [Tf (by rw [n8];simp)];exact aj
 rw [ef] at hr
 cases hr
 exact ⟨h1,h2⟩
end
end Go.PM
namespace Go.PM.Lex
open Go.Proofs Go.Shelf
variable {w0:World} {nG:Nat}
def u50:Tryz.prog.underlying 127=some (.pointer 130):=kR
def u95:Tryz.prog.underlying 316=some .unsafePointer:=kR
def i53:∃j,Tryz.prog.info? 130=some j/\j.size=2:=by
 have h:(Tryz.prog.info? 130).map (·.size)=some 2:=kR
 obtain ⟨j,h1,h2⟩:=TB.1 h;exact ⟨j,h1,h2⟩
def ZAO:liesAt Tryz.prog Tryz.prog.depth 130 (2 / Tryz.prog.cellsOf 130) 0 130 1=true:=kR
def Ziz (b:Nat) (w:World) (h0:w.cell? ⟨b,0,none⟩=some (.pointer (some ⟨b,0,none⟩))) :
  Calls Tryz.prog 232 #[.pointer (some ⟨b,0,none⟩)] w fun e w'=>e=.returned (.tuple #[])/\w'=w:=by
 obtain ⟨j,hj,sd⟩:=i53
 go_enter Tryz.func232,Tryz.ntmps232
 go_wp2
 rw [Go.Lib.run_neq_ptr_same w _ u50 hj]
 go_wp2
 go_end0
 exact ⟨rfl,rfl⟩
def Znp (b:Nat) (w:World) (h0:w.cell? ⟨b,0,none⟩=some (.pointer none)) (gf:w.shape? b=some (130,2)) (lb:w.frozen? ⟨b,0,none⟩=false) :
  Calls Tryz.prog 232 #[.pointer (some ⟨b,0,none⟩)] w fun e w'=>e=.returned (.tuple #[])/\w'=w.setCell ⟨b,0,none⟩ (.pointer (some ⟨b,0,none⟩)):=by
 obtain ⟨j,hj,sd⟩:=i53
 go_enter Tryz.func232,Tryz.ntmps232
 go_wp2
 rw [Go.Lib.run_to_unsafe w ⟨b,0,none⟩ u50 u95 hj (by rw [sd];decide) gf (Nat.zero_lt_succ 1)];simp only [Result.andThen];rw [Oper.upon_value]
 go_wp2
 rw [run_callFunc_extern Tryz.func265 kR kR kR (e:=Extern.AbiNoEscape.same) kR];rw [Go.Lib.run_noEscape];simp only [Result.andThen];rw [Oper.upon_value]
 go_wp2
 rw [Go.Lib.run_from_unsafe w ⟨b,0,none⟩ u95 u50 hj gf ZAO];simp only [Result.andThen];rw [Oper.upon_value]
 go_wp2
 go_end0
 exact ⟨rfl,rfl⟩
def VC:Zk:=fun args σ K=>match args,σ with
 | [.ptr 0 0],⟨[.cells t [p,q]],tk,nx⟩=>((p=.d .nilp\/p=.ptr 0 0)/\t=130)/\K (.ret (.tuple [])) ⟨[.cells t [.ptr 0 0,q]],tk,nx⟩
 | _,_=>False
def ZbV:PC w0 nG 232 VC:=VB (Zf Tryz.func232 kR rfl) fun args σ K h e w vs hS ha=>by
 unfold VC at h
 split at h
 ·rename_i t p q tk nx
  obtain ⟨⟨hp,rfl⟩,hK⟩:=h;obtain ⟨u,rfl,hu⟩:=ZeU ha;obtain ⟨cv,dv,bj,d0⟩:=hS.box 0 _ rfl;have dw:cv.size=2:=bj;obtain ⟨x0,i7⟩:∃x,cv[0]?=some x:=⟨cv[0]'oM,by simp [dw]⟩
  have v7:=(d0 0 p x0 rfl i7).1
  cases hu with
  | ptr b off hb =>
  refine ⟨_,_,.tuple #[],hK,?_⟩;rcases hp with rfl | rfl
  ·cases v7 with
   | d _ _ hd =>
   cases hd
   refine Calls.mono (Znp (e.β 0) w ?_ ?_ ?_) fun en w' ⟨h1,h2⟩=>?_
   ·simp [World.cell?,dv,i7]
   ·simp only [World.shape?,dv,dw]
   ·simp [World.frozen?,dv]
   have hst:=Zdt (G:=GG w0 nG) (T:=VU) Zr hS (t:=127) (b:=0) (off:=0) (x:=.ptr 0 0) (v:=.pointer (some ⟨e.β 0,0,none⟩)) (l:=[.ptr 0 0]) (cs:=[.d .nilp,q]) (ty:=130) rfl (.ptr 0 0 hb) rfl rfl sM (by intro h;cases h);rw [h2];exact ⟨h1,.tuple [] #[] rfl (fun i x u hx=>by simp at hx),hst.2,hst.1.toLater⟩
  exact mq92
 exact h.elim
def Zpp {P:Program} {ρ:Ren} (L:Lays.n169 P ρ) (X:Builder.Extra P ρ) (b g cap:Nat) (p:Value) (cur:Array Value) (fz:Nat×Nat) (l:Bs) (w:World) (h0:l≠[])
  (qd:w.heap[b]?=some (.cells #[p,.slice (some ⟨g,0,none⟩) l.length cap] (ρ.t 72) (0,0))) (hg:w.heap[g]?=some (.cells cur (ρ.t 5) fz)) (hn:l.length<=cur.size) (hcap:cap≠0) (dj:l.length<=9223372036854775807)
  (ax:∀j x,l[j]?=some x->w.cell? ⟨g,j,none⟩=some (.int .u8 x.toNat)) :
  Calls P (ρ.f 169) #[.pointer (some ⟨b,0,none⟩)] w fun e w'=>e=.returned (.string ⟨l.toArray⟩)/\w'=w.drew.freeze ⟨g,0,none⟩ l.length:=by
 have c1:w.drew.cell? ⟨b,1,none⟩=some (.slice (some ⟨g,0,none⟩) l.length cap):=by
  have:w.drew.heap[b]?=some (.cells #[p,.slice (some ⟨g,0,none⟩) l.length cap] (ρ.t 72) (0,0)):=qd;rw [Go.Lib.cell_of_heap this];rfl
 have hSD:(Builtin.unsafeSliceData_ #[(ρ.t 37)] (ρ.t 127) #[.slice (some ⟨g,0,none⟩) l.length cap]).run P w.drew=.ok (.pointer (some ⟨g,0,none⟩)) w.drew :=
  Go.Lib.run_unsafeSliceData_row _ _ _ _ _ _ hcap
 have hUS:(Builtin.unsafeString_ #[(ρ.t 127),(ρ.t 3)] (ρ.t 9) #[.pointer (some ⟨g,0,none⟩),.int .i64 l.length]).run P w.drew=.ok (.string ⟨l.toArray⟩) (w.drew.freeze ⟨g,0,none⟩ l.length):=by
  exact mq73
 have mixed:=L.mixed;have t72:=L.t72;have a72:=L.a72;have z72:=L.z72;have v72:=L.v72;have u72:=run_underlying L.t72;have t70:=L.t70;have a70:=L.a70;have z70:=L.z70;have v70:=L.v70;have u70:=run_underlying L.t70;have t37:=L.t37;have a37:=L.a37;have z37:=L.z37;have v37:=L.v37;have u37:=run_underlying L.t37;have t127:=L.t127;have a127:=L.a127;have z127:=L.z127;have v127:=L.v127;have u127:=run_underlying L.t127;have t3:=L.t3;have a3:=L.a3;have z3:=L.z3;have v3:=L.v3;have u3:=run_underlying L.t3;have t9:=L.t9;have a9:=L.a9;have z9:=L.z9;have v9:=L.v9;have u9:=run_underlying L.t9;have t5:=X.t5;have a5:=X.a5;have z5:=X.z5;have v5:=X.v5;have u5:=run_underlying X.t5
 go_enter L.f169,Body.n169_ntmps ρ
 go_wp2
 go_region_o
 all_goals (go_wp2;go_ret;exact ⟨rfl,rfl⟩)
def VD (w:World) (g n k:Nat) (hk:k≠g):(w.drew.freeze ⟨g,0,none⟩ n).heap[k]?=w.heap[k]?:=by
 unfold World.freeze
 split
 ·rfl
 simp only [Array.getElem?_modify];rw [Tf (fun h=>hk h.symm)];rfl
def Zkh (w:World) (g n:Nat) {cs:Array Value} {ty:TypeId} {fz:Nat×Nat} (h:w.heap[g]?=some (.cells cs ty fz)):∃fz',(w.drew.freeze ⟨g,0,none⟩ n).heap[g]?=some (.cells cs ty fz'):=by
 have h':w.drew.heap[g]?=some (.cells cs ty fz):=h;unfold World.freeze
 split
 ·exact ⟨fz,h'⟩
 simp only [Array.getElem?_modify,if_true,h',TY];exact ⟨_,rfl⟩
def ZAP {G:GE} {e:Env} {w w':World} {t:TypeId} {p:PV} {rows:List (List D)} (hp:p=.d .nilp\/p=.ptr 0 0) (hS:SRel G e ⟨[.cells t [p,.sl 0 5 rows]],[0],1⟩ w)
  (hsz:w.heap.size<=w'.heap.size) (oc:w'.os=w.os) (htp:w'.tape=w.tape) (jl:w'.output=w.output)
  (ax:∀b off u,w.cell? ⟨b,off,none⟩=some u->w'.cell? ⟨b,off,none⟩=some u)
  (fq:∀b,b<w.heap.size->(∀q,e.M 0=some q->q.1≠b)->w'.heap[b]?=w.heap[b]?) :
  SRel G e ⟨[.cells t [p,.d (.sl rows)]],[],0⟩ w'/\Later e ⟨[.cells t [p,.sl 0 5 rows]],[0],1⟩ w e ⟨[.cells t [p,.d (.sl rows)]],[],0⟩ w':=by
 have hL:Later e ⟨[.cells t [p,.sl 0 5 rows]],[0],1⟩ w e ⟨[.cells t [p,.d (.sl rows)]],[],0⟩ w':={
  len:=Tr _
  beta:=fun _ _=>rfl
  X:=fun _ _ h=>h
  pres:=fun b off u hu ho=>⟨⟨ho.1,ho.2.1,(fun x hx=>by cases hx),ho.2.2.2⟩,ax b off u hu⟩
  fhid:=fun b h=>.inr (.inr h)
  blocks:=fun b hb h1 h2 _=>fq b hb fun q hq=>h2 0 sM q hq
  size:=hsz
  os:=oc
  tape:=htp
  output:=jl
  fresh:=fun i h1 h2=>by simp at h1 h2;omega
  ftok:=fun x hx=>by cases hx }
 have aa:=hS.lt (i:=0) sM;have ow:w'.heap[e.β 0]?=w.heap[e.β 0]?:=fq _ aa fun q hq=>fun h=>(hS.own 0 sM q hq).2.1 0 sM h.symm
 refine ⟨?_,hL⟩;exact {
  inj:=hS.inj
  box:=fun i x hx=>by
   match i,hx with
   | 0,hx =>
    cases hx
    obtain ⟨cv,h1,h2,h3⟩:=hS.box 0 _ rfl;refine ⟨cv,ow.trans h1,h2,fun j y u hy hu=>?_⟩
    match j,hy with
    | 0,hy =>
     exact mq94
    | 1,hy =>
     cases hy
     obtain ⟨q1,q2⟩:=h3 1 (.sl 0 5 rows) u rfl hu;refine ⟨?_,q2⟩
     cases q1 with
     | sl _ _ _ _ hn hd ht=>exact .d _ _ (hd.later hL)
    | j+2,hy=>simp at hy
   | i+1,hx=>simp at hx
  low:=hS.low
  tkn:=fun x hx=>by cases hx
  own:=fun x hx=>by cases hx
  dis:=fun x y hx=>by cases hx
  xlt:=fun b off hx=>TA (hS.xlt b off hx) hsz
  xown:=fun x hx=>by cases hx
  hid:=fun b q hq=>let ⟨k1,k2,k3,k4,k5⟩:=hS.hid b q hq;⟨k1,TA k2 hsz,k3,(fun x hx=>by cases hx),k5⟩
  glob:=fun b hb=>by
   rw [fq b (TA hb hS.big) fun q hq=>fun h=>by have:=(hS.own 0 sM q hq).1;omega];exact hS.glob b hb
  big:=TN hS.big hsz }
def Y6 (l:Bs):(Zl l).length=l.length:=by simp [Zl]
def ZAQ:(Tryz.prog.info? 5).map (·.size)=some 1:=kR
def ZiA:PC w0 nG 73 ZcB:=VB (Zf Tryz.func73 kR rfl) fun args σ K h e w vs hS ha=>by
 unfold ZcB at h
 split at h
 ·rename_i t p el rows
  obtain ⟨l,⟨rfl,rfl,rfl,hp,dj⟩,hK⟩:=h;obtain ⟨u,rfl,hu⟩:=ZeU ha;obtain ⟨cv,dv,bj,d0⟩:=hS.box 0 _ rfl;have dw:cv.size=2:=bj;obtain ⟨v0,v1,rfl⟩:∃v0 v1,cv=#[v0,v1]:=by
   obtain ⟨lst⟩:=cv
   match lst,dw with
   | [a,b],_=>exact ⟨a,b,rfl⟩
  have cf:=(d0 1 (.sl 0 5 (Zl l)) v1 rfl rfl).1
  cases hu with
  | ptr b off hb =>
  refine ⟨_,_,.string ⟨l.toArray⟩,hK,?_⟩;have fin:∀w',w.heap.size<=w'.heap.size->w'.os=w.os->w'.tape=w.tape->w'.output=w.output ->
    (∀b off u,w.cell? ⟨b,off,none⟩=some u->w'.cell? ⟨b,off,none⟩=some u) ->
    (∀b,b<w.heap.size->(∀q,e.M 0=some q->q.1≠b)->w'.heap[b]?=w.heap[b]?) ->
    VRel (GG w0 nG) e ⟨[.cells 130 [p,.d (.sl (Zl l))]],[],0⟩ w' (.d (.str l)) (.string ⟨l.toArray⟩)/\SRel (GG w0 nG) e ⟨[.cells 130 [p,.d (.sl (Zl l))]],[],0⟩ w'/\Later e ⟨[.cells 130 [p,.sl 0 5 (Zl l)]],[0],1⟩ w e ⟨[.cells 130 [p,.d (.sl (Zl l))]],[],0⟩ w':=fun w' h1 h2 h3 h4 h5 h6 =>
   ⟨.mkstr,ZAP hp hS h1 h2 h3 h4 h5 h6⟩
  have grown:∀w',Grows w w'->_:=fun w' g=>fin w' g.size g.os g.tape g.output (fun b off u hu=>(g.cell (Vr hu)).trans hu) (fun b hb _=>g.old b hb)
  cases cf with
  | sl _ _ _ _ hn hd ht =>
  rcases ht sM with ⟨rfl,bu,hM⟩ | ⟨sz,g1,g2,g3,g,off,cap,cs,ty,fz,rfl,g4,g5,g6,⟨g7,rfl,rfl,g8⟩,g9,hM⟩
  ·have hl:l=[]:=by simpa [Zl] using bu
   subst hl;refine (Any.Builder_String_nil Tryz.lays169 Tryz.Builder_Extra_169 w.heap.size (e.β 0) v0 w dv).mono fun en w' ⟨h1,h2⟩=>?_
   exact ⟨h1,grown w' (ZGm h2)⟩
  have lj:sz=1:=by
   have:(Tryz.prog.info? 5).map (·.size)=some sz:=g1
   rw [ZAQ] at this;cases this;rfl
  subst lj;rw [Y6] at g5 dv g9 hM hd
  by_cases hl:l=[]
  ·subst hl;refine (Any.Builder_String_room Tryz.lays169 Tryz.Builder_Extra_169 w.heap.size (e.β 0) g cap v0 w oM dv).mono fun en w' ⟨h1,h2⟩=>?_
   exact ⟨h1,grown w' (ZGm h2)⟩
  have ax:∀j x,l[j]?=some x->w.cell? ⟨g,j,none⟩=some (.int .u8 x.toNat):=by
   exact mq30
  obtain ⟨fz',qf⟩:=Zkh w g l.length g6;refine (Zpp Tryz.lays169 Tryz.Builder_Extra_169 (e.β 0) g cap v0 cs fz l w hl dv g6 oM oM oM ax).mono fun en w' ⟨h1,h2⟩=>?_
  rw [h2];refine ⟨h1,fin _ ?_ ?_ ?_ ?_ ?_ ?_⟩
  ·unfold World.freeze;split <;> first | exact Tr _ | (simp only [Array.size_modify];exact Tr _)
  ·exact mq149
  ·exact mq149
  ·exact mq149
  ·exact mq116
  intro b hb hq
  exact VD w g l.length b fun h=>hq _ hM h.symm
 exact h.elim
end Go.PM.Lex
end

section
namespace Go.PM.Lex
open Go.Proofs
variable {w0:World} {nG:Nat}
def orB (n:Fin 128):Zj .or .i32 (n.val:Int) 32=((n.val ||| 32:Nat):Int):=by rw [Yw];revert n;decide +kernel
def orM:Zj .or .i32 (-1) 32=-1:=by rw [Yw];decide +kernel
def orL:∀n:Fin 128,(97<=(n.val ||| 32)/\(n.val ||| 32)<=122)↔((97<=n.val/\n.val<=122)\/(65<=n.val/\n.val<=90)):=by decide +kernel
def Zpq {c:Int} (h0:-1<=c) (h1:c<128):(97<=Zj .or .i32 c 32/\Zj .or .i32 c 32<=122)↔((97<=c/\c<=122)\/(65<=c/\c<=90)):=by
 by_cases hc:c=-1
 ·subst hc;rw [orM];omega
 obtain ⟨n,rfl⟩:∃n:Nat,c=n:=⟨c.toNat,oM⟩
 have hn:n<128:=oM;have h2:=orB ⟨n,hn⟩;have h3:=orL ⟨n,hn⟩;simp only at h2 h3;rw [h2];omega
def ZbW {K:PEnd->St->Prop} {b b':Bool} {σ:St} (h:K (.ret (.d (.bool b))) σ) (h1:b=b'):K (.ret (.d (.bool b'))) σ:=by subst h1;exact h
def Zg0:PC w0 nG 259 Wk:=by
 refine Ziv Zr mixed (tbl:=[]) trivial Tryz.func259 rfl kR kR ?_;intro args σ K h
 unfold Wk at h
 split at h
 ·rename_i c
  refine ⟨Zg [],0,false,dM,Tc rfl,?_⟩;exact mq105
 exact h.elim
def Zak:PC w0 nG 220 UP:=by
 refine Ziv Zr mixed (tbl:=[]) trivial Tryz.func220 rfl kR kR ?_;intro args σ K h
 unfold UP at h
 split at h
 ·rename_i c
  obtain ⟨⟨h0,_⟩,h⟩:=h;refine ⟨Zg [],0,false,dM,Tc rfl,?_⟩
  repeat' ((conv=>whnf);refine ZGg (fun h1=>?_) (fun h1=>?_))
  all_goals (conv=>whnf)
  all_goals (try (have hl:=Zpq (c:=c) h0 oM))
  all_goals (refine ZbW h ?_;simp only [Zm,TH,decide_eq_false_iff_not,decide_eq_decide];omega)
 exact h.elim
def ZFu (r:Bs):Lib.hasPrefix r [239,191,189]=true↔2<r.length/\(r.getD 0 0).toNat=239/\(r.getD 1 0).toNat=191/\(r.getD 2 0).toNat=189:=by
 unfold Lib.hasPrefix
 match r with
 | []=>simp
 | [a]=>simp [List.isPrefixOf]
 | [a,b]=>simp [List.isPrefixOf]
 | a::b::c::l =>
  have ha:=UInt8.toNat_inj (a:=239) (b:=a);have hb:=UInt8.toNat_inj (a:=191) (b:=b);have hc:=UInt8.toNat_inj (a:=189) (b:=c);simp only [List.isPrefixOf,Bool.and_true,Tl,beq_iff_eq,Te,Sv,Sz];rw [<- ha,<- hb,<- hc];have e1:(239:UInt8).toNat=239:=rfl;have e2:(191:UInt8).toNat=191:=rfl;have e3:(189:UInt8).toNat=189:=rfl;rw [e1,e2,e3];omega
def ZEU (r:Bs) (hv:(Lib.decodeL r).1=65533):(Lib.hasPrefix r [239,191,189]=true/\(Lib.decodeL r).2=3)\/(¬Lib.hasPrefix r [239,191,189]=true/\(Lib.decodeL r).2=1):=by
 rw [ZFu];rw [Lib.decodeL_N] at hv |-;have k0:=(r.getD 0 0).toNat_lt;have k1:=(r.getD 1 0).toNat_lt;have k2:=(r.getD 2 0).toNat_lt;have k3:=(r.getD 3 0).toNat_lt
 by_cases hp:2<r.length/\(r.getD 0 0).toNat=239/\(r.getD 1 0).toNat=191/\(r.getD 2 0).toNat=189
 ·left
  refine ⟨hp,?_⟩;obtain ⟨p0,p1,p2,p3⟩:=hp;rw [p1,p2,p3];unfold Lib.decodeN
  have hl:1<r.length:=oM;simp [p0,hl]
 right
 refine ⟨hp,?_⟩;rcases Lib.decodeN_shape r.length (r.getD 0 0).toNat (r.getD 1 0).toNat (r.getD 2 0).toNat (r.getD 3 0).toNat with ⟨c,e⟩ | ⟨c1,c2,c3,cv,e⟩ | ⟨c1,c2,c3,c4,cv,cs,e⟩ | ⟨c1,c2,c3,c4,c5,cv,cw,e⟩ | e
 all_goals (rw [e] at hv)
 all_goals (dsimp only at hv)
 ·omega
 ·omega
 ·exact absurd ⟨c2,oM,oM,oM⟩ hp
 ·omega
 rw [e]
def ZAR:pk []=(-1,1):=by simp [pk]
def ZsK (r:Bs) (h0:0<r.length) (hv:¬(Lib.decodeL r).1=65533):pk r=(((Lib.decodeL r).1:Int),(Lib.decodeL r).2):=by
 have ai:r≠[]:=fun h=>by subst h;simp at h0
 have:Lib.decodeL r≠(65533,1):=fun h=>hv (by rw [h])
 simp [pk,ai,this]
def Zwe (r:Bs) (h0:0<r.length) (hp:Lib.hasPrefix r [239,191,189]=true) (hv:(Lib.decodeL r).1=65533):pk r=(65533,3):=by
 have ai:r≠[]:=fun h=>by subst h;simp at h0
 rcases ZEU r hv with ⟨_,h2⟩ | ⟨h1,_⟩
 ·have:Lib.decodeL r≠(65533,1):=fun h=>by rw [h] at h2;simp at h2
  simp [pk,ai,this,hv,h2]
 exact absurd hp h1
def ZAS (r:Bs) (hp:¬Lib.hasPrefix r [239,191,189]=true) (hv:(Lib.decodeL r).1=65533):pk r=(-1,1):=by
 rcases ZEU r hv with ⟨h1,h2⟩ | ⟨_,h2⟩
 ·exact absurd h1 hp
 have:Lib.decodeL r=(65533,1):=Prod.ext hv h2;simp [pk,this]
def Zpr (r:Bs):1<=(pk r).2/\(pk r).2<=4:=by
 unfold pk
 split
 ·simp
 rename_i h
 simp only [not_or] at h;simp only;rw [Lib.decodeL_N];rcases Lib.decodeN_shape r.length (r.getD 0 0).toNat (r.getD 1 0).toNat (r.getD 2 0).toNat (r.getD 3 0).toNat with ⟨c,e⟩ | ⟨c1,c2,c3,cv,e⟩ | ⟨c1,c2,c3,c4,cv,cs,e⟩ | ⟨c1,c2,c3,c4,c5,cv,cw,e⟩ | e
 all_goals (rw [e];simp)
def WH (r:Bs):-1<=(pk r).1/\(pk r).1<=1114111:=by
 unfold pk
 split
 ·simp
 simp only;exact mq71
def ZAT (r:Bs) (h:(pk r).1≠-1):1<=(pk r).2/\(pk r).2<=r.length/\r≠[]:=by
 have hl:=Zpr r;unfold pk at h hl |-
 split at h
 ·exact absurd rfl h
 rename_i h1
 simp only [not_or] at h1;rw [Tf (by simp only [not_or];exact h1)] at hl |-;exact ⟨hl.1,Lib.decodeL_le r h1.1,h1.1⟩
def Ui {s:Bs} {n:Nat}:cut s n s.length=s.drop n:=by simp [cut]
def Zwg:OKw w0 nG [(257,Zdr),(258,Xu)] 219 ZbU:=by
 refine pwo Tryz.func219 fun args σ K h=>?_
 unfold ZbU at h
 split at h
 ·rename_i at' t s a
  obtain ⟨⟨h0,hs⟩,h⟩:=h;refine pwv [(2,⟨[],[0,1,21],fun vs σ=>vs=[]/\σ=⟨[.cells t [.d (.str s),.d (.int .i64 a)],.iter (s.drop at'.toNat) 0],[],0⟩,fun _ _=>0⟩)] 1 false ?_;have ga:cut s (min at' (s.length:Int)).toNat s.length=s.drop at'.toNat:=by
   rw [Ui]
   by_cases hl:at'<=s.length
   ·rw [Int.min_eq_left hl]
   rw [Int.min_eq_right oM,Tp oM,Tp oM]
  refine ⟨oM,wN ?_⟩;refine ⟨oM,wN ?_⟩;refine ⟨⟨rfl,?_⟩,?_⟩
  ·rw [ga];rfl
  intro vs σ1 hI
  obtain ⟨rfl,rfl⟩:=hI;refine ZGg (fun h1=>wN ?_) (fun h1=>wN ?_)
  ·refine ZGi (fun h2=>wN ?_) (fun h2=>wN ?_)
   ·rw [Zdq] at h2;have hl:0<(s.drop at'.toNat).length:=by simpa using h1
    rw [Sm] at h2;have ai:¬(Lib.decodeL (s.drop at'.toNat)).1=65533:=oM;rw [ZsK _ hl ai] at h;rw [Zdq,Sm];have hr:=Lib.runeLen_decode _ ai;rw [hr];exact h
   rw [Zdq] at h2;have hl:0<(s.drop at'.toNat).length:=by simpa using h1
   have hd:(Lib.decodeL (s.drop at'.toNat)).1=65533:=by rw [Sm] at h2;omega
   refine ⟨h0,by simp at hl;omega,wN ?_⟩;refine ZGj (fun h3=>wN ?_) (fun h3=>wN ?_)
   ·rw [Ui] at h3;rw [Zwe _ hl h3 hd] at h;rw [Zdq,Sm,hd];exact h
   rw [Ui] at h3;rw [ZAS _ (by rw [h3];simp) hd] at h;exact h
  have:s.drop at'.toNat=[]:=by simp at h1;exact Tp oM
  rw [this,ZAR] at h;exact h
 exact h.elim
def muI (B:Int):List PV->St->Nat:=fun vs _=>match vs with | .d (.int _ n)::_=>(B - n).toNat | _=>0
def Zwi:OKw w0 nG [(258,Xu),(286,Wj)] 296 Zly:=by
 refine pwo Tryz.func296 fun args σ K h=>?_
 unfold Zly at h
 split at h
 ·rename_i t s a
  obtain ⟨⟨h0,h1,hs⟩,h⟩:=h;refine pwv [(3,⟨[16],[0,3,15],fun vs σ=>σ=⟨[.cells t [.d (.str s),.d (.int .i64 a)]],[],0⟩/\∃i:Nat,i<=5/\vs=[.d (.int .i64 i)]/\(twos.take i).any (Lib.hasPrefix (s.drop a.toNat))=false,muI 5⟩)] 1 false ?_;refine ⟨h0,oM,wN ?_⟩;rw [Ui];refine ⟨⟨rfl,0,oM,rfl,rfl⟩,?_⟩;intro vs σ1 hI
  obtain ⟨rfl,i,hi,rfl,hn⟩:=hI
  match i,hi,hn with
  | 0,hi,hn =>
   conv=>whnf
   refine ⟨oM,oM,wN ?_⟩;refine ZGj (fun h2=>wN ?_) (fun h2=>wN ?_)
   ·exact mq40
   refine Zi ?_;refine ⟨⟨rfl,1,oM,rfl,?_⟩,?_⟩
   ·have du:Lib.hasPrefix (s.drop a.toNat) (twos.getD 0 [])=false:=h2;exact mq62
   exact (show (5 - (((0:Nat):Int)+1)).toNat<(5 - ((0:Nat):Int)).toNat by omega)
  | 1,hi,hn =>
   conv=>whnf
   refine ⟨oM,oM,wN ?_⟩;refine ZGj (fun h2=>wN ?_) (fun h2=>wN ?_)
   ·exact mq40
   refine Zi ?_;refine ⟨⟨rfl,2,oM,rfl,?_⟩,?_⟩
   ·have du:Lib.hasPrefix (s.drop a.toNat) (twos.getD 1 [])=false:=h2;exact mq62
   exact (show (5 - (((1:Nat):Int)+1)).toNat<(5 - ((1:Nat):Int)).toNat by omega)
  | 2,hi,hn =>
   conv=>whnf
   refine ⟨oM,oM,wN ?_⟩;refine ZGj (fun h2=>wN ?_) (fun h2=>wN ?_)
   ·exact mq40
   refine Zi ?_;refine ⟨⟨rfl,3,oM,rfl,?_⟩,?_⟩
   ·have du:Lib.hasPrefix (s.drop a.toNat) (twos.getD 2 [])=false:=h2;exact mq62
   exact (show (5 - (((2:Nat):Int)+1)).toNat<(5 - ((2:Nat):Int)).toNat by omega)
  | 3,hi,hn =>
   conv=>whnf
   refine ⟨oM,oM,wN ?_⟩;refine ZGj (fun h2=>wN ?_) (fun h2=>wN ?_)
   ·exact mq40
   refine Zi ?_;refine ⟨⟨rfl,4,oM,rfl,?_⟩,?_⟩
   ·have du:Lib.hasPrefix (s.drop a.toNat) (twos.getD 3 [])=false:=h2;exact mq62
   exact (show (5 - (((3:Nat):Int)+1)).toNat<(5 - ((3:Nat):Int)).toNat by omega)
  | 4,hi,hn =>
   conv=>whnf
   refine ⟨oM,oM,wN ?_⟩;refine ZGj (fun h2=>wN ?_) (fun h2=>wN ?_)
   ·exact mq40
   refine Zi ?_;refine ⟨⟨rfl,5,oM,rfl,?_⟩,?_⟩
   ·have du:Lib.hasPrefix (s.drop a.toNat) (twos.getD 4 [])=false:=h2;exact mq62
   exact (show (5 - (((4:Nat):Int)+1)).toNat<(5 - ((4:Nat):Int)).toNat by omega)
  | 5,hi,hn =>
   conv=>whnf
   refine ⟨oM,sO,wN ?_⟩;refine ZGg (fun h2=>wN ?_) (fun h2=>wN ?_)
   ·have e:Yg (s.drop a.toNat)=1:=by
     have hc:ones.contains ((s.drop a.toNat).getD 0 0)=true:=by
      rw [Lib.contains_iff_indexByte];simpa [ones] using h2
     rw [Yg,Tf (by simpa [twos] using hn),Tj hc]
    rw [e] at h;exact h
   have e:Yg (s.drop a.toNat)=0:=by
    have hc:ones.contains ((s.drop a.toNat).getD 0 0)=false:=by
     rw [Lib.contains_iff_indexByte];simpa [ones] using h2
    rw [Yg,Tf (by simpa [twos] using hn),Tf (by rw [hc];simp)]
   rw [e] at h;exact h
 exact h.elim
def ZbX:Zm (-1)=false:=dM
def Zdu:Zo (-1)=false:=dM
def Znq {f:Nat} {r:Bs} (h1:(pk r).1=46) (h2:Zm (pk (r.drop 1)).1=true):Y1 (f+1) r=(pk r).2+Y1 f (r.drop (pk r).2):=by rw [Y1,Tj h1,Tj h2]
def Zg1 {f:Nat} {r:Bs} (h1:(pk r).1=46) (h2:Zm (pk (r.drop 1)).1=false):Y1 (f+1) r=0:=by rw [Y1,Tj h1,Tf (by rw [h2];simp)]
def ZiB {f:Nat} {r:Bs} (h1:¬(pk r).1=46) (h2:Zm (pk r).1=true\/Zo (pk r).1=true):Y1 (f+1) r=(pk r).2+Y1 f (r.drop (pk r).2):=by rw [Y1,Tf h1,Tj h2]
def Znr {f:Nat} {r:Bs} (h1:¬(pk r).1=46) (h2:Zm (pk r).1=false) (h3:Zo (pk r).1=false):Y1 (f+1) r=0:=by rw [Y1,Tf h1,Tf (by simp [h2,h3])]
def Uj {s:Bs} {a b:Nat}:cut s a b=(s.drop a).take (b - a):=by simp [cut,List.drop_take]
def Zwk:OKw w0 nG [(219,ZbU),(220,UP),(259,Wk)] 221 Zix:=by
 refine pwo Tryz.func221 fun args σ K h=>?_
 unfold Zix at h
 split at h
 ·rename_i t s a
  obtain ⟨⟨h0,h1,hs⟩,h⟩:=h;obtain ⟨a,rfl⟩:∃n:Nat,a=n:=⟨a.toNat,oM⟩
  simp only [Th] at h;refine pwu [(2,⟨[3],[0,2],fun vs σ=>σ=⟨[.cells t [.d (.str s),.d (.int .i64 a)],.cells 166 [.d (.int .u8 0),.d (.str []),.d (.int .i64 0),.d (.int .i64 0),.d (.int .i64 0)]],[],0⟩ /\
   ∃e f:Nat,a<=e/\e<=s.length/\vs=[.d (.int .i64 e)]/\s.length<e+f/\e+Y1 f (s.drop e)=a+Vy (s.drop a),muI s.length⟩)] 1 false ?_
  conv=>whnf
  refine ⟨⟨rfl,a,s.length - a+1,oM,oM,rfl,oM,by simp [Vy]⟩,?_⟩;intro vs σ1 hI
  obtain ⟨rfl,e,f,he1,qs,rfl,hf,hn⟩:=hI;obtain ⟨f,rfl⟩:∃g,f=g+1:=⟨f - 1,oM⟩
  have tn:=WH (s.drop e);have ec:=Zpr (s.drop e);have x7:=ZAT (s.drop e);have ma:=WH (s.drop ((e:Int)+1).toNat);have ew:Y1 (f+1) (s.drop e)=0->K (.ret (Zaj 1 (cut s a e) 0 a e)) ⟨[.cells t [.d (.str s),.d (.int .i64 a)]],[],0⟩:=fun h3=>by
   have e2:Vy (s.drop a)=e - a:=by rw [h3] at hn;omega
   rw [e2,show (a:Int)+((e - a:Nat):Int)=(e:Int) by omega,<- Uj] at h;exact h
  have fu:∀n:Nat,1<=n->e+n<=s.length->Y1 (f+1) (s.drop e)=n+Y1 f ((s.drop e).drop n)->a<=e+n/\e+n<=s.length/\s.length<(e+n)+f/\(e+n)+Y1 f (s.drop (e+n))=a+Vy (s.drop a):=fun n h1 h2 h3=>by
   rw [TL] at h3;exact ⟨oM,h2,oM,by rw [<- hn,h3];omega⟩
  conv=>whnf
  refine ⟨⟨oM,oM⟩,wN ?_⟩;refine ZGg (fun h2=>wN ?_) (fun h2=>wN ?_)
  ·refine Zi ?_;refine ⟨⟨oM,oM⟩,wN ?_⟩;refine ⟨⟨oM,oM⟩,wN ?_⟩;have hw:((e:Int)+1).toNat=e+1:=oM;refine ZGj (fun h3=>wN ?_) (fun h3=>wN ?_)
   ·rw [hw] at h3;refine ⟨oM,oM,oM,wN ?_⟩;exact ew (Zg1 h2 (by rw [TL];simpa using h3))
   rw [hw] at h3;have ai:(pk (s.drop e)).1≠-1:=by have:(pk (s.drop e)).1=46:=h2;omega
   obtain ⟨g1,g2,g3⟩:=x7 ai;have g2':e+(pk (s.drop e)).2<=s.length:=by rw [Tx] at g2;omega
   refine Or.inl ⟨InR.i64 tN tN,wN ?_⟩;obtain ⟨k1,k2,k3,k4⟩:=fu _ g1 g2' (Znq h2 (by rw [TL];simpa using h3));exact mq64
  have du:¬(pk (s.drop e)).1=46:=h2;have fin:∀(h4:Zm (pk (s.drop e)).1=true\/Zo (pk (s.drop e)).1=true),a<=e+(pk (s.drop e)).2/\e+(pk (s.drop e)).2<=s.length/\s.length<(e+(pk (s.drop e)).2)+f/\(e+(pk (s.drop e)).2)+Y1 f (s.drop (e+(pk (s.drop e)).2))=a+Vy (s.drop a):=fun h4=>by
   have ai:(pk (s.drop e)).1≠-1:=fun h5=>by rw [h5,ZbX,Zdu] at h4;simp at h4
   obtain ⟨g1,g2,g3⟩:=x7 ai;have g2':e+(pk (s.drop e)).2<=s.length:=by rw [Tx] at g2;omega
   exact fu _ g1 g2' (ZiB du h4)
  refine ⟨⟨tn.1,tN⟩,wN ?_⟩;refine ZGj (fun h3=>wN ?_) (fun h3=>wN ?_)
  ·have ey:Zm (pk (s.drop e)).1=false:=by simpa using h3
   refine ZGj (fun h4=>wN ?_) (fun h4=>wN ?_)
   ·have ju:Zo (pk (s.drop e)).1=false:=by simpa using h4
    refine ⟨oM,oM,oM,wN ?_⟩;exact ew (Znr du ey ju)
   have ju:Zo (pk (s.drop e)).1=true:=by simpa using h4
   obtain ⟨k1,k2,k3,k4⟩:=fin (.inr ju);refine Or.inl ⟨InR.i64 tN tN,wN ?_⟩;exact mq64
  have ey:Zm (pk (s.drop e)).1=true:=by simpa using h3
  obtain ⟨k1,k2,k3,k4⟩:=fin (.inl ey);refine Or.inl ⟨InR.i64 tN tN,wN ?_⟩;exact mq64
 exact h.elim
def ZFv (B:Int):List PV->St->Nat:=fun _ σ=>match σ.bx with | .cells _ (_::.d (.int _ n)::_)::_=>(B - n).toNat | _=>0
def Uk (p:UInt8->Bool):∀r:Bs,r.dropWhile p=r.drop (r.length - (r.dropWhile p).length)/\(r.dropWhile p).length<=r.length
 | []=>sM
 | x::r=>by
  have ih:=Uk p r
  by_cases hx:p x=true
  ·simp only [List.dropWhile_cons,hx,if_true,Te];refine ⟨?_,oM⟩;rw [show r.length+1 - (r.dropWhile p).length=(r.length - (r.dropWhile p).length)+1 by omega,List.drop_succ_cons];exact ih.1
  simp [List.dropWhile_cons,hx]
def Ul (c:UInt8):∀l:Bs,Lib.indexByte l c<l.length\/Lib.indexByte l c=-1
 | []=>.inr rfl
 | b::l=>by
  have ih:=Ul c l;unfold Lib.indexByte
  split
  ·left;simp
  split
  ·exact .inr rfl
  rename_i h1 h2
  rcases ih with h | h
  ·left;simp;omega
  rw [h] at h2;simp at h2
def Zg2 (p:Bs):∀l:Bs,0<=Lib.index l p->Lib.index l p+p.length<=l.length
 | [],h=>by
  unfold Lib.index at h |-
  split at h
  ·rename_i hp
   simp at hp;subst hp;simp
  omega
 | b::l,h=>by
  have ih:=Zg2 p l;unfold Lib.index at h |-
  split at h
  ·rename_i hp
   have:=List.IsPrefix.length_le (List.isPrefixOf_iff_prefix.1 hp);simp only [hp,if_true];simp only [Te] at this |-;omega
  split at h
  ·omega
  rename_i h1 h2
  have:=Lib.index_ge l p;have h3:Lib.index l p≠-1:=by simpa using h2
  simp only [h1,h2,Tv,if_false];have:=ih oM;simp only [Te];omega
def Yt {r:Bs} {a b:UInt8} (h:Lib.hasPrefix r [a,b]=true):2<=r.length/\r=a::b::r.drop 2:=by
 obtain ⟨t,rfl⟩:=List.isPrefixOf_iff_prefix.1 h;simp
def Zg3 {r:Bs} {a b c:UInt8} (h:Lib.hasPrefix r [a,b]=true) (ha:a≠c) (hb:b≠c) (h0:0<=Lib.indexByte r c):2<=Lib.indexByte r c:=by
 rw [(Yt h).2] at h0 |-;have h1:(a == c)=false:=by simpa using ha
 have h2:(b == c)=false:=by simpa using hb
 have hg:=Lib.indexByte_ge (r.drop 2) c;simp only [Lib.indexByte,h1,h2,Tv,if_false] at h0 |-
 by_cases hm:Lib.indexByte (r.drop 2) c=-1
 ·rw [hm] at h0;simp at h0
 have hm':(Lib.indexByte (r.drop 2) c == -1)=false:=by simpa using hm
 simp only [hm',Tv,if_false] at h0 |-;have:(Lib.indexByte (r.drop 2) c+1 == -1)=false:=sO;simp only [this,Tv,if_false];omega
def ZAU:∀(j:Nat) (b:UInt8),([32,9,13,10]:Bs)[j]?=some b->b.toNat<128
 | 0,b,h=>by simp at h;subst h;decide
 | 1,b,h=>by simp at h;subst h;decide
 | 2,b,h=>by simp at h;subst h;decide
 | 3,b,h=>by simp at h;subst h;decide
 | j+4,b,h=>by simp at h
def ZsM:OKw w0 nG [(294,Zbe),(258,Xu),(286,Wj),(295,Zke)] 270 Zbf:=by
 refine pwo Tryz.func270 fun args σ K h=>?_
 unfold Zbf at h
 split at h
 ·rename_i t s a
  obtain ⟨⟨h0,h1,hs⟩,h⟩:=h;obtain ⟨a,rfl⟩:∃n:Nat,a=n:=⟨a.toNat,oM⟩
  simp only [Th] at h;refine pwu [(1,⟨[],[0],fun vs σ=>vs=[] /\
   ∃e f:Nat,σ=⟨[.cells t [.d (.str s),.d (.int .i64 e)]],[],0⟩/\a<=e/\e<=s.length/\s.length<e+f/\(ZX f (s.drop e)).1=(YT (s.drop a)).1/\e+(ZX f (s.drop e)).2=a+(YT (s.drop a)).2,ZFv s.length⟩)] 1 false ?_
  conv=>whnf
  refine ⟨⟨rfl,a,s.length - a+1,rfl,oM,oM,oM,by simp [YT],by simp [YT]⟩,?_⟩;intro vs σ1 hI
  obtain ⟨rfl,e,f,rfl,he1,qs,hf,jf,kj⟩:=hI;obtain ⟨f,rfl⟩:∃g,f=g+1:=⟨f - 1,oM⟩
  conv=>whnf
  refine ⟨oM,oM,wN ?_⟩;refine ⟨⟨dM,ZAU⟩,wN ?_⟩;generalize ox:Lib.trimLeftS (cut s _ _) _=rest;have aw:Lib.trimLeftS (s.drop e) [32,9,13,10]=rest:=by rw [Ui] at ox;exact ox
  have hdw:=Uk (([32,9,13,10]:Bs).contains ·) (s.drop e)
  have cf:rest=(s.drop e).drop ((s.drop e).length - rest.length):=by rw [<- aw];exact hdw.1
  have ef:rest.length<=(s.drop e).length:=by rw [<- aw];exact hdw.2
  rw [Tx] at ef;have tq:rest=s.drop (s.length - rest.length):=by
   rw [TL,Tx,show e+(s.length - e - rest.length)=s.length - rest.length by omega] at cf;exact cf
  have hk:(s.drop e).length - rest.length=s.length - rest.length - e:=hD;have fu:∀n:Nat,1<=n->n<=rest.length->ZX (f+1) (s.drop e)=((ZX f (rest.drop n)).1,(s.drop e).length - rest.length+n+(ZX f (rest.drop n)).2) ->
    a<=s.length - rest.length+n/\s.length - rest.length+n<=s.length/\s.length<(s.length - rest.length+n)+f/\(ZX f (s.drop (s.length - rest.length+n))).1=(YT (s.drop a)).1/\(s.length - rest.length+n)+(ZX f (s.drop (s.length - rest.length+n))).2=a+(YT (s.drop a)).2:=fun n g1 g2 g3=>by
   have g4:rest.drop n=s.drop (s.length - rest.length+n):=by rw [<- TL,<- tq]
   rw [g3,g4] at jf kj;simp only at jf kj;exact ⟨oM,oM,oM,jf,oM⟩
  have ew:∀b:Bool,ZX (f+1) (s.drop e)=(b,(s.drop e).length - rest.length)->K (.ret (.d (.bool b))) ⟨[.cells t [.d (.str s),.d (.int .i64 ((s.length:Int) - rest.length))]],[],0⟩:=fun b g=>by
   rw [g] at jf kj;simp only at jf kj;rw [<- jf,show (a:Int)+((YT (s.drop a)).2:Int)=(s.length:Int) - rest.length by omega] at h;exact h
  have bg1:Lib.hasPrefix rest [47,47]=true->ZX (f+1) (s.drop e)=((ZX f (rest.drop (if Lib.indexByte rest 10<0 then rest.length else (Lib.indexByte rest 10).toNat))).1,(s.drop e).length - rest.length+(if Lib.indexByte rest 10<0 then rest.length else (Lib.indexByte rest 10).toNat)+(ZX f (rest.drop (if Lib.indexByte rest 10<0 then rest.length else (Lib.indexByte rest 10).toNat))).2):=fun g=>by
   simp only [ZX,aw,g,if_true]
  have bg2:Lib.hasPrefix rest [47,47]=false->Lib.hasPrefix rest [47,42]=true->Lib.index (rest.drop 2) [42,47]<0->ZX (f+1) (s.drop e)=(false,(s.drop e).length - rest.length):=fun g1 g2 g3=>by
   simp only [ZX,aw,g1,g2,g3,if_true,Tv,if_false]
  have bg3:Lib.hasPrefix rest [47,47]=false->Lib.hasPrefix rest [47,42]=true->¬Lib.index (rest.drop 2) [42,47]<0->ZX (f+1) (s.drop e)=((ZX f (rest.drop ((Lib.index (rest.drop 2) [42,47]).toNat+4))).1,(s.drop e).length - rest.length+((Lib.index (rest.drop 2) [42,47]).toNat+4)+(ZX f (rest.drop ((Lib.index (rest.drop 2) [42,47]).toNat+4))).2):=fun g1 g2 g3=>by
   simp only [ZX,aw,g1,g2,g3,if_true,Tv,if_false]
  have bg4:Lib.hasPrefix rest [47,47]=false->Lib.hasPrefix rest [47,42]=false->ZX (f+1) (s.drop e)=(true,(s.drop e).length - rest.length):=fun g1 g2=>by
   simp only [ZX,aw,g1,g2,Tv,if_false]
  refine Zi ?_;refine ZGj (fun h2=>wN ?_) (fun h2=>wN ?_)
  ·have du:Lib.hasPrefix rest [47,47]=true:=h2;have rh:=(Yt du).1;have bg:=bg1 du;have ez:=Lib.indexByte_ge rest 10;have aa:=Ul 10 rest;have h22:=Zg3 (c:=10) du dM dM;refine ZGg (fun h3=>wN ?_) (fun h3=>wN ?_)
   ·have ey:Lib.indexByte rest 10<0:=h3;simp only [ey,if_true] at bg;refine Zi ?_;obtain ⟨k1,k2,k3,k4,k5⟩:=fu _ oM oM bg;refine ⟨⟨rfl,_,f,?_,k1,k2,k3,k4,k5⟩,?_⟩
    ·rw [show (s.length:Int) - (rest.length:Int)+(rest.length:Int)=((s.length - rest.length+rest.length:Nat):Int) by omega];rfl
    exact (show ((s.length:Int) - ((s.length:Int) - (rest.length:Int)+(rest.length:Int))).toNat<((s.length:Int) - (e:Int)).toNat by omega)
   have ey:¬Lib.indexByte rest 10<0:=h3;simp only [ey,if_false] at bg;obtain ⟨n,hn⟩:∃n:Nat,Lib.indexByte rest 10=n:=⟨(Lib.indexByte rest 10).toNat,oM⟩
   have pb:Lib.indexByte rest ((10:Int).toNat.toUInt8)=n:=hn;rw [pb];rw [hn] at h22 aa;rw [hn,Th] at bg;refine Zi ?_;obtain ⟨k1,k2,k3,k4,k5⟩:=fu _ oM oM bg;refine ⟨⟨rfl,_,f,?_,k1,k2,k3,k4,k5⟩,?_⟩
   ·rw [show (s.length:Int) - (rest.length:Int)+(n:Int)=((s.length - rest.length+n:Nat):Int) by omega];rfl
   exact (show ((s.length:Int) - ((s.length:Int) - (rest.length:Int)+(n:Int))).toNat<((s.length:Int) - (e:Int)).toNat by omega)
  have du:Lib.hasPrefix rest [47,47]=false:=h2;refine ZGj (fun h3=>wN ?_) (fun h3=>wN ?_)
  ·have ey:Lib.hasPrefix rest [47,42]=true:=h3;have rh:=(Yt ey).1;refine ⟨oM,oM,wN ?_⟩;rw [Ui];have jq:(rest.drop 2).length=rest.length - 2:=sM;refine ⟨by have:(rest.drop ((2:Int).toNat)).length=rest.length - 2:=jq;omega,wN ?_⟩;have ez:=Lib.index_ge (rest.drop 2) [42,47];have am:=Zg2 [42,47] (rest.drop 2);simp only [Te,Tg,jq] at am;refine ZGg (fun h4=>wN ?_) (fun h4=>wN ?_)
   ·exact ew _ (bg2 du ey h4)
   have ju:¬Lib.index (rest.drop 2) [42,47]<0:=h4;have bg:=bg3 du ey ju;obtain ⟨n,hn⟩:∃n:Nat,Lib.index (rest.drop 2) [42,47]=n:=⟨(Lib.index (rest.drop 2) [42,47]).toNat,oM⟩
   generalize hi:Lib.index _ _=i;have gk:i=n:=by rw [<- hi];exact hn
   subst gk;rw [hn] at am;rw [hn,Th] at bg;refine Zi ?_;refine Zi ?_;obtain ⟨k1,k2,k3,k4,k5⟩:=fu _ oM oM bg;refine ⟨⟨rfl,_,f,?_,k1,k2,k3,k4,k5⟩,?_⟩
   ·rw [show (s.length:Int) - (rest.length:Int)+((n:Int)+4)=((s.length - rest.length+(n+4):Nat):Int) by omega];rfl
   exact (show ((s.length:Int) - ((s.length:Int) - (rest.length:Int)+((n:Int)+4))).toNat<((s.length:Int) - (e:Int)).toNat by omega)
  exact ew _ (bg4 du h3)
 exact h.elim
def orU (n:Fin 256):Zj .or .u8 (n.val:Int) 32=((n.val ||| 32:Nat):Int):=by rw [Yw];revert n;decide +kernel
def orH:∀n:Fin 256,(97<=(n.val ||| 32)/\(n.val ||| 32)<=102)↔((97<=n.val/\n.val<=102)\/(65<=n.val/\n.val<=70)):=by decide +kernel
def ZAV (b:UInt8):(97<=Zj .or .u8 (b.toNat:Int) 32/\Zj .or .u8 (b.toNat:Int) 32<=102)↔((97<=b.toNat/\b.toNat<=102)\/(65<=b.toNat/\b.toNat<=70)):=by
 have h2:=orU ⟨b.toNat,b.toNat_lt⟩;have h3:=orH ⟨b.toNat,b.toNat_lt⟩;simp only at h2 h3;rw [h2];omega
def WQ (p:UInt8->Bool):∀l:Bs,l.takeWhile p=l.take (l.takeWhile p).length
 | []=>rfl
 | x::l=>by
  by_cases h:p x=true
  ·simp only [T8,h,if_true,Te,List.take_succ_cons];rw [<- WQ p l]
  simp [T8,h]
def VE (p:UInt8->Bool):∀l:Bs,(l.takeWhile p).all p=true
 | []=>rfl
 | x::l=>by
  by_cases h:p x=true
  ·simp only [T8,h,if_true,List.all_cons,VE p l,Bool.and_self]
  simp [T8,h]
def Um (p:UInt8->Bool) (l:Bs):(l.takeWhile p).length<=l.length:=List.Sublist.length_le (List.takeWhile_sublist p)
def Uo {s:Bs} {e:Nat} (h:e<s.length):s.drop e=s.getD e 0::s.drop (e+1):=by
 rw [Tk h];simp [List.getD,h]
def Zpt:OKw w0 nG [(258,Xu),(259,Wk),(315,JG),(219,ZbU),(220,UP)] 298 ZcC:=by
 refine pwo Tryz.func298 fun args σ K h=>?_
 unfold ZcC at h
 split at h
 ·rename_i t s a
  obtain ⟨⟨h0,h1,hs⟩,h⟩:=h;obtain ⟨a,rfl⟩:∃n:Nat,a=n:=⟨a.toNat,oM⟩
  simp only [Th] at h;refine pwu [(5,⟨[5],[0,2,3,4,6],fun vs σ=>σ=⟨[.cells t [.d (.str s),.d (.int .i64 a)],.cells 166 [.d (.int .u8 0),.d (.str []),.d (.int .i64 0),.d (.int .i64 0),.d (.int .i64 0)],.cells 295 [.d (.int .i64 0),.d (.int .i64 0)]],[],0⟩ /\
   ∃e:Nat,vs=[.d (.int .i64 e)]/\a+(if W8 (s.drop a) then 2 else 0)<=e/\e<=s.length/\e - (a+(if W8 (s.drop a) then 2 else 0))+((s.drop e).takeWhile (XZ (W8 (s.drop a)))).length=(Zd (s.drop a)).length,muI s.length⟩)] 1 false ?_
  have dl:Z1 (s.drop a)=none->K (.ret (.tuple [Zaj 0 [] 0 0 0,Ziw a 142])) ⟨[.cells t [.d (.str s),.d (.int .i64 a)]],[],0⟩:=fun g=>by
   have e1:WP a (s.drop a)=.bad a 142:=by rw [WP,g]
   rw [e1] at h;exact h
  have d7:∀n:Nat,Z1 (s.drop a)=some n->K (.ret (.tuple [Zaj 2 [] (IntKind.i64.wrap n) a ((a+ZH (s.drop a):Nat):Int),Ziw 0 0])) ⟨[.cells t [.d (.str s),.d (.int .i64 a)]],[],0⟩:=fun n g=>by
   have e1:WP a (s.drop a)=.tok ⟨2,[],IntKind.i64.wrap n,a,a+ZH (s.drop a)⟩:=by rw [WP,g]
   rw [e1] at h;exact h
  conv=>whnf
  refine ⟨oM,oM,wN ?_⟩;rw [Ui];refine ZGj (fun hx=>?_) (fun hx=>?_)
  ·have ic:W8 (s.drop a)=true:=hx;simp only [ic,if_true,Tv,if_false];have iv:Zd (s.drop a)=(s.drop (a+2)).takeWhile (XZ true):=by simp [Zd,ic,TL]
   have xr:ZH (s.drop a)=2+(Zd (s.drop a)).length:=by simp [ZH,ic]
   have cy:=(Yt hx).1;rw [Tx] at cy;(conv=>whnf);refine Zi ?_;refine ⟨⟨rfl,(a+2),rfl,oM,oM,by rw [iv];simp⟩,?_⟩;intro vs σ1 hI
   obtain ⟨rfl,e,rfl,he1,qs,hn⟩:=hI;have f7:∀(g:((s.drop e).takeWhile (XZ true)).length=0),e=a+ZH (s.drop a)/\Zd (s.drop a)=cut s (a+2) e:=fun g=>by
    rw [g] at hn;refine ⟨oM,?_⟩;rw [Uj,show e - (a+2)=(Zd (s.drop a)).length by omega,iv];exact WQ _ _
   have dk:(Zd (s.drop a)).all (XZ true)=true:=by rw [iv];exact VE _ _
   have x8:(Zd (s.drop a)).length<=s.length:=by
    rw [iv];have:=Um (XZ true) (s.drop (a+2));rw [Tx] at this;omega
   conv=>whnf
   refine ZGg (fun h2=>wN ?_) (fun h2=>wN ?_)
   ·have du:e<s.length:=by omega
    have iw:=Uo du;have hb:=(s.getD e 0).toNat_lt;have bc:XZ true (s.getD e 0)=true->e+1 - (a+2)+((s.drop (e+1)).takeWhile (XZ true)).length=(Zd (s.drop a)).length:=fun g=>by
     rw [<- hn,iw,T8,Tj g,Te];omega
    have mb:XZ true (s.getD e 0)=false->((s.drop e).takeWhile (XZ true)).length=0:=fun g=>by
     rw [iw,T8,Tf (by rw [g];simp)];rfl
    refine ⟨oM,oM,wN ?_⟩;refine Or.inl ⟨InR.i32 oM tN,wN ?_⟩;refine ZGj (fun h3=>wN ?_) (fun h3=>wN ?_)
    ·exact mq84
    have ey:Zo ((s.getD e 0).toNat:Int)=false:=h3;have hoh:=ZAV (s.getD e 0);refine ZGg (fun h4=>wN ?_) (fun h4=>wN ?_)
    ·refine ZGg (fun h5=>wN ?_) (fun h5=>wN ?_)
     ·have hd:XZ true (s.getD e 0)=true:=by
       have:=hoh.1 ⟨h4,h5⟩;simp only [XZ,ey,Bool.false_or,TT,TH];omega
      refine Zi ?_;refine ⟨⟨rfl,e+1,rfl,oM,oM,bc hd⟩,?_⟩;exact (show ((s.length:Int) - ((e:Int)+1)).toNat<((s.length:Int) - (e:Int)).toNat by omega)
     have hd:XZ true (s.getD e 0)=false:=by
      have:¬((97<=(s.getD e 0).toNat/\(s.getD e 0).toNat<=102)\/(65<=(s.getD e 0).toNat/\(s.getD e 0).toNat<=70)):=fun g=>h5 (hoh.2 g).2
      simp only [XZ,ey,Bool.false_or,TT,decide_eq_false_iff_not];exact this
     have hst:=f7 (mb hd);exact mq2
    have hd:XZ true (s.getD e 0)=false:=by
     have:¬((97<=(s.getD e 0).toNat/\(s.getD e 0).toNat<=102)\/(65<=(s.getD e 0).toNat/\(s.getD e 0).toNat<=70)):=fun g=>h4 (hoh.2 g).1
     simp only [XZ,ey,Bool.false_or,TT,decide_eq_false_iff_not];exact this
    have hst:=f7 (mb hd);exact mq2
   have fc:((s.drop e).takeWhile (XZ true)).length=0:=by rw [Tp oM];rfl
   have hst:=f7 (fc);exact mq2
  have ic:W8 (s.drop a)=false:=hx;simp only [ic,if_true,Tv,if_false];have iv:Zd (s.drop a)=(s.drop (a+0)).takeWhile (XZ false):=by simp [Zd,ic,TL]
  have xr:ZH (s.drop a)=0+(Zd (s.drop a)).length:=by simp [ZH,ic]
  conv=>whnf
  refine ⟨⟨rfl,a,rfl,oM,oM,by rw [iv];simp⟩,?_⟩;intro vs σ1 hI
  obtain ⟨rfl,e,rfl,he1,qs,hn⟩:=hI;have f7:∀(g:((s.drop e).takeWhile (XZ false)).length=0),e=a+ZH (s.drop a)/\Zd (s.drop a)=cut s (a+0) e:=fun g=>by
   rw [g] at hn;refine ⟨oM,?_⟩;rw [Uj,show e - (a+0)=(Zd (s.drop a)).length by omega,iv];exact WQ _ _
  have dk:(Zd (s.drop a)).all (XZ false)=true:=by rw [iv];exact VE _ _
  have x8:(Zd (s.drop a)).length<=s.length:=by
   rw [iv];have:=Um (XZ false) (s.drop (a+0));rw [Tx] at this;omega
  conv=>whnf
  refine ZGg (fun h2=>wN ?_) (fun h2=>wN ?_)
  ·have du:e<s.length:=by omega
   have iw:=Uo du;have hb:=(s.getD e 0).toNat_lt;have bc:XZ false (s.getD e 0)=true->e+1 - (a+0)+((s.drop (e+1)).takeWhile (XZ false)).length=(Zd (s.drop a)).length:=fun g=>by
    rw [<- hn,iw,T8,Tj g,Te];omega
   have mb:XZ false (s.getD e 0)=false->((s.drop e).takeWhile (XZ false)).length=0:=fun g=>by
    rw [iw,T8,Tf (by rw [g];simp)];rfl
   refine ⟨oM,oM,wN ?_⟩;refine Or.inl ⟨InR.i32 oM tN,wN ?_⟩;refine ZGj (fun h3=>wN ?_) (fun h3=>wN ?_)
   ·exact mq84
   have ey:Zo ((s.getD e 0).toNat:Int)=false:=h3;have hd:XZ false (s.getD e 0)=false:=by simp only [XZ,ey,TP,Si]
   have hst:=f7 (mb hd);(conv=>whnf);exact mq5
  have fc:((s.drop e).takeWhile (XZ false)).length=0:=by rw [Tp oM];rfl
  have hst:=f7 (fc);exact mq5
 exact h.elim
structure GlobOK (w0:World) (nG:Nat):Prop where
 big:7<nG
 maxLen:∃m,w0.cell? ⟨2,0,none⟩=some (.int .i64 m)
 errSyntax:∃ev,w0.cell? ⟨6,0,none⟩=some ev/\(ev=.nilIface\/∃te pe,ev=.iface te pe)
 errRange:∃ev,w0.cell? ⟨7,0,none⟩=some ev/\(ev=.nilIface\/∃te pe,ev=.iface te pe)
def Zns:Zk:=fun args σ K=>match args with
 | [.d (.str _),.d (.str s)]=>s.length<4294967281/\K (.ret .undef) σ
 | _=>False
def ZiC {e:Env} {σ:St} {w:World} {k:Nat} {u:Value} (hS:SRel (GG w0 nG) e σ w) (hk:k<nG) (h:w0.cell? ⟨k,0,none⟩=some u):w.cell? ⟨k,0,none⟩=some u:=by
 have:=hS.glob k hk;simpa [World.cell?,this] using h
def ZeV (hg:GlobOK w0 nG):PC w0 nG 337 Zns where
 enters:=Zf Tryz.func337 kR rfl
 calls:=fun args σ K hs n e w vs hS ha=>by
  unfold Zns at hs
  split at hs
  ·rename_i fn s
   obtain ⟨hl,hK⟩:=hs;obtain ⟨u,v,rfl,hu,hv⟩:=ZgZ ha
   cases hu.dstr;cases hv.dstr
   obtain ⟨ev,h1,h2⟩:=hg.errSyntax;refine CallsIn.mono (callsIn_wide.2 (Tryz.strconv_syntaxError _ _ ev w (show s.toArray.size<=_ by simp;omega) (ZiC hS (by have:=hg.big;omega) h1) h2)) fun en w' ⟨N,h3,_,_,h4⟩=>?_
   exact mq126
  exact hs.elim
def Zg4 (hg:GlobOK w0 nG):PC w0 nG 338 Zns where
 enters:=Zf Tryz.func338 kR rfl
 calls:=fun args σ K hs n e w vs hS ha=>by
  unfold Zns at hs
  split at hs
  ·rename_i fn s
   obtain ⟨hl,hK⟩:=hs;obtain ⟨u,v,rfl,hu,hv⟩:=ZgZ ha
   cases hu.dstr;cases hv.dstr
   obtain ⟨ev,h1,h2⟩:=hg.errRange;refine CallsIn.mono (callsIn_wide.2 (Tryz.strconv_rangeError _ _ ev w (show s.toArray.size<=_ by simp;omega) (ZiC hS (by have:=hg.big;omega) h1) h2)) fun en w' ⟨N,h3,_,_,h4⟩=>?_
   exact mq126
  exact hs.elim
def Zdv:Zk:=fun args σ K=>match args,σ with
 | [.d (.str _),.d (.str s),.d (.int .i64 _),.d (.int .i64 _),.iface 370 (.d (.int .i64 c))],⟨[],[],0⟩=>((c=1\/c=2)/\s.length<4294967281)/\K (.ret (.iface 372 .undef)) ⟨[],[],0⟩
 | _,_=>False
def ZDG:Tbl:=[(337,Zns),(338,Zns)]
def Znt (hg:GlobOK w0 nG):PC w0 nG 328 Zdv:=by
 refine pwt (tbl:=ZDG) ⟨ZeV hg,Zg4 hg,trivial⟩ Tryz.func328 fun args σ K h=>?_
 unfold Zdv at h
 split at h
 ·rename_i fn s b0 b1 c
  obtain ⟨⟨hc,hl⟩,h⟩:=h;refine pwu [] 0 false ?_;rcases hc with rfl | rfl
  ·conv=>whnf
   refine ⟨hl,wN ?_⟩;exact h
  conv=>whnf
  refine ⟨hl,wN ?_⟩;exact h
 exact h.elim
def Zki:Zk:=fun args σ K=>match args,σ with
 | [.d (.int .u8 c)],⟨[],[],0⟩=>K (.ret (.d (.int .u8 (Zj .or .u8 c 32)))) ⟨[],[],0⟩
 | _,_=>False
def ZsN:PC w0 nG 335 Zki:=by
 refine pwe Tryz.func335 fun args σ K h=>?_
 unfold Zki at h
 split at h
 ·refine pwv [] 0 false ?_;exact h
 exact h.elim
def lowV:∀n:Fin 256,XZ true (UInt8.ofNat n.val)=true->¬(48<=n.val/\n.val<=57)->Zj .or .u8 (n.val:Int) 32=ZgY (UInt8.ofNat n.val)+87/\10<=ZgY (UInt8.ofNat n.val)/\ZgY (UInt8.ofNat n.val)<=15:=by rw [Yw];decide +kernel
def ZiD {b:UInt8} (h:XZ true b=true) (hn:¬(48<=b.toNat/\b.toNat<=57)):Zj .or .u8 (b.toNat:Int) 32=ZgY b+87/\10<=ZgY b/\ZgY b<=15:=by
 have:=lowV ⟨b.toNat,b.toNat_lt⟩;simp only [UInt8.ofNat_toNat] at this;exact this h hn
def ZiE (B:Nat) (l:Bs) (b:UInt8):Ww B (l++[b])=Ww B l * B+ZgY b:=by simp [Ww,Sl]
def ZiF {l:Bs} {i:Nat} (h:i<l.length):l.take (i+1)=l.take i++[l.getD i 0]:=by
 rw [List.take_succ,Tb h];simp [List.getD,h]
def ZlA (B:Nat) (hB:1<=B):∀(l:Bs) (n:Nat),n<=l.foldl (fun n b=>n * B+ZgY b) n
 | [],n=>Tr _
 | b::l,n=>by
  have:=ZlA B hB l (n * B+ZgY b);have h2:n<=n * B:=Nat.le_mul_of_pos_right n hB;simp only [List.foldl_cons];omega
def ZbY (B:Nat) (hB:1<=B) (l:Bs) (i:Nat):Ww B (l.take i)<=Ww B l:=by
 conv=>rhs;rw [<- List.take_append_drop i l]
 unfold Ww
 rw [Sl];exact ZlA B hB _ _
def ZDH:Zk:=fun args σ K=>match args,σ with
 | [.d (.str l),.d (.int .i64 base),.d (.int .i64 bits)],⟨[],[],0⟩=>∃f8:Bool,((l.all (XZ f8)=true/\l.length<4294967281)/\base=(if f8 then 16 else 10)/\bits=(if f8 then 64 else 63)) /\
   (l=[]->K (.ret (.tuple [.d (.int .u64 0),.iface 370 (.d (.int .i64 2))])) ⟨[],[],0⟩) /\
   (l≠[]->(if f8 then 18446744073709551616 else 9223372036854775808)<=Ww (if f8 then 16 else 10) l->K (.ret (.tuple [.d (.int .u64 (if f8 then 18446744073709551615 else 9223372036854775807)),.iface 370 (.d (.int .i64 1))])) ⟨[],[],0⟩) /\
   (l≠[]->¬(if f8 then 18446744073709551616 else 9223372036854775808)<=Ww (if f8 then 16 else 10) l->K (.ret (.tuple [.d (.int .u64 (Ww (if f8 then 16 else 10) l)),.d .nili])) ⟨[],[],0⟩)
 | _,_=>False
def ZDI:Tbl:=[(335,Zki)]
def ZDJ:PC w0 nG 327 ZDH:=by
 refine pwt (tbl:=ZDI) ⟨ZsN,trivial⟩ Tryz.func327 fun args σ K h=>?_
 unfold ZDH at h
 split at h
 ·rename_i l base bits
  obtain ⟨f8,⟨⟨dk,hl⟩,rfl,rfl⟩,fj,mc,d7⟩:=h;have hml:((l.map fun b=>[D.int .u8 (b.toNat:Int)]:List (List D))).length=l.length:=sM
  cases f8 with
  | true =>
   simp only [if_true,Tv,if_false] at mc d7 |-;refine ⟨Zg [(36,⟨[101,13,12],[0,1,8,10,11,99,100],fun vs σ=>σ=⟨[],[],0⟩/\∃i:Nat,vs=[.d (.int .i64 i),.d (.int .u64 (Ww 16 (l.take i))),.d (.bool false)]/\i<=l.length/\Ww 16 (l.take i)<18446744073709551616,muI l.length⟩)],0,false,sM,Tc rfl,wN ?_⟩;refine ZGg (fun h0=>wN ?_) (fun h0=>wN ?_)
   ·exact fj h0
   have ai:l≠[]:=h0;have rj:=mc ai;have mn:=d7 ai;refine ZaV ?_;refine ⟨dM,Or.inr ?_⟩;rw [show IntKind.u64.wrap (1 * 2 ^ min (Int.toNat 64) IntKind.u64.bits)=0 from dM];(conv=>whnf);refine Or.inr ?_;rw [show IntKind.u64.wrap (0 - 1)=18446744073709551615 from dM];(conv=>whnf);refine ⟨⟨rfl,0,rfl,oM,by simp [Ww]⟩,?_⟩;intro vs σ1 hI
   obtain ⟨rfl,i,rfl,hi,hN⟩:=hI;have am:=ZbY 16 oM l;have bc:=fun h:i<l.length=>ZiE 16 (l.take i) (l.getD i 0)
   generalize hNN:Ww 16 (l.take i)=N at hN bc |-;(conv=>whnf);refine ZGg (fun h2=>?_) (fun h2=>wN ?_)
   ·have du:i<l.length:=by simpa using h2
    have cd:(l.map fun b=>[D.int .u8 (b.toNat:Int)])[((i:Int)).toNat]?=some [D.int .u8 ((l.getD i 0).toNat:Int)]:=by
     rw [Th,Ti,Tb du];simp [List.getD,du]
    have hd:XZ true (l.getD i 0)=true:=Tm.1 dk _ (by rw [T2,Tb du];exact TC du);have hs:=bc du;rw [<- ZiF du] at hs;have ca:=am (i+1);have hb:=(l.getD i 0).toNat_lt;generalize lf:l.getD i 0=b at cd hd hs hb;(conv=>whnf);refine ⟨_,oM,cd,wN ?_⟩;refine ZGg (fun h3=>?_) (fun h3=>wN ?_)
    ·have ey:b.toNat=95:=by omega
     simp [XZ,Zo,ey] at hd
    refine ZGg (fun h4=>wN ?_) (fun h4=>?_)
    ·refine ZGg (fun h5=>wN ?_) (fun h5=>?_)
     ·refine W7 ?_;have hD:(ZgY b:Int)=(b.toNat:Int) - 48:=by unfold ZgY;rw [Tj oM];omega
      refine W7 ?_;refine ZGg (fun h6=>?_) (fun h6=>wN ?_)
      ·omega
      refine ZGg (fun h7=>wN ?_) (fun h7=>wN ?_)
      ·exact rj oM
      refine ZaV ?_;refine ZaV ?_;refine ZaV ?_
      by_cases dj:(N:Int) * 16+((b.toNat:Int) - 48)<=18446744073709551615
      ·refine ZaV ?_;refine ZGg (fun h8=>?_) (fun h8=>wN ?_)
       ·omega
       refine ZGg (fun h9=>wN ?_) (fun h9=>wN ?_)
       ·exact rj oM
       refine Zi ?_;refine ⟨⟨rfl,i+1,?_,oM,oM⟩,?_⟩
       ·have e:((Ww 16 (l.take (i+1)):Nat):Int)=(N:Int) * 16+((b.toNat:Int) - 48):=by omega
        rw [e];rfl
       exact mq176
      have hw:IntKind.u64.wrap ((N:Int) * 16+((b.toNat:Int) - 48))=(N:Int) * 16+((b.toNat:Int) - 48) - 18446744073709551616:=by
       exact mq66
      exact mq61
     skip
     exact mq10
    skip
    exact mq10
   exact mq127
  | false =>
  simp only [if_true,Tv,if_false] at mc d7 |-;refine ⟨Zg [(36,⟨[101,13,12],[0,1,8,10,11,99,100],fun vs σ=>σ=⟨[],[],0⟩/\∃i:Nat,vs=[.d (.int .i64 i),.d (.int .u64 (Ww 10 (l.take i))),.d (.bool false)]/\i<=l.length/\Ww 10 (l.take i)<9223372036854775808,muI l.length⟩)],0,false,sM,Tc rfl,wN ?_⟩;refine ZGg (fun h0=>wN ?_) (fun h0=>wN ?_)
  ·exact fj h0
  have ai:l≠[]:=h0;have rj:=mc ai;have mn:=d7 ai;refine ZaV ?_;refine ⟨dM,Or.inr ?_⟩;rw [show IntKind.u64.wrap (1 * 2 ^ min (Int.toNat 63) IntKind.u64.bits)=9223372036854775808 from dM];(conv=>whnf);refine Or.inr ?_;rw [show IntKind.u64.wrap (9223372036854775808 - 1)=9223372036854775807 from dM];(conv=>whnf);refine ⟨⟨rfl,0,rfl,oM,by simp [Ww]⟩,?_⟩;intro vs σ1 hI
  obtain ⟨rfl,i,rfl,hi,hN⟩:=hI;have am:=ZbY 10 oM l;have bc:=fun h:i<l.length=>ZiE 10 (l.take i) (l.getD i 0)
  generalize hNN:Ww 10 (l.take i)=N at hN bc |-;(conv=>whnf);refine ZGg (fun h2=>?_) (fun h2=>wN ?_)
  ·have du:i<l.length:=by simpa using h2
   have cd:(l.map fun b=>[D.int .u8 (b.toNat:Int)])[((i:Int)).toNat]?=some [D.int .u8 ((l.getD i 0).toNat:Int)]:=by
    rw [Th,Ti,Tb du];simp [List.getD,du]
   have hd:XZ false (l.getD i 0)=true:=Tm.1 dk _ (by rw [T2,Tb du];exact TC du);have hs:=bc du;rw [<- ZiF du] at hs;have ca:=am (i+1);have hb:=(l.getD i 0).toNat_lt;generalize lf:l.getD i 0=b at cd hd hs hb;(conv=>whnf);refine ⟨_,oM,cd,wN ?_⟩;refine ZGg (fun h3=>?_) (fun h3=>wN ?_)
   ·have ey:b.toNat=95:=by omega
    simp [XZ,Zo,ey] at hd
   have hd':48<=b.toNat/\b.toNat<=57:=by
    simp only [XZ,TP,Si,Zo,TH] at hd;omega
   refine ZGg (fun h4=>wN ?_) (fun h4=>?_)
   ·refine ZGg (fun h5=>wN ?_) (fun h5=>?_)
    ·refine W7 ?_;have hD:(ZgY b:Int)=(b.toNat:Int) - 48:=by unfold ZgY;rw [Tj oM];omega
     refine W7 ?_;refine ZGg (fun h6=>?_) (fun h6=>wN ?_)
     ·omega
     refine ZGg (fun h7=>wN ?_) (fun h7=>wN ?_)
     ·exact rj oM
     refine ZaV ?_;refine ZaV ?_;refine ZaV ?_
     by_cases dj:(N:Int) * 10+((b.toNat:Int) - 48)<=18446744073709551615
     ·refine ZaV ?_;refine ZGg (fun h8=>?_) (fun h8=>wN ?_)
      ·omega
      refine ZGg (fun h9=>wN ?_) (fun h9=>wN ?_)
      ·exact rj oM
      refine Zi ?_;refine ⟨⟨rfl,i+1,?_,oM,oM⟩,?_⟩
      ·have e:((Ww 10 (l.take (i+1)):Nat):Int)=(N:Int) * 10+((b.toNat:Int) - 48):=by omega
       rw [e];rfl
      exact mq176
     have hw:IntKind.u64.wrap ((N:Int) * 10+((b.toNat:Int) - 48))=(N:Int) * 10+((b.toNat:Int) - 48) - 18446744073709551616:=by
      exact mq66
     exact mq61
    omega
   omega
  exact mq127
 exact h.elim
def Zwl:∀n:Fin 64,Zj .or .u8 128 (n.val:Int)=128+n.val:=by rw [Yw];decide +kernel
def Zwm:∀n:Fin 32,Zj .or .u8 192 (n.val:Int)=192+n.val:=by rw [Yw];decide +kernel
def Zwn:∀n:Fin 16,Zj .or .u8 224 (n.val:Int)=224+n.val:=by rw [Yw];decide +kernel
def Zwo:∀n:Fin 8,Zj .or .u8 240 (n.val:Int)=240+n.val:=by rw [Yw];decide +kernel
def Zwp:∀n:Fin 256,Zj .and .u8 (n.val:Int) 63=n.val % 64:=by rw [Yw];decide +kernel
def Zvk {x:Int} (h0:0<=x) (h1:x<64):Zj .or .u8 128 x=128+x:=by obtain ⟨n,rfl⟩:∃n:Nat,x=n:=⟨x.toNat,oM⟩;exact Zwl ⟨n,oM⟩
def ZFw {x:Int} (h0:0<=x) (h1:x<32):Zj .or .u8 192 x=192+x:=by obtain ⟨n,rfl⟩:∃n:Nat,x=n:=⟨x.toNat,oM⟩;exact Zwm ⟨n,oM⟩
def ZEV {x:Int} (h0:0<=x) (h1:x<16):Zj .or .u8 224 x=224+x:=by obtain ⟨n,rfl⟩:∃n:Nat,x=n:=⟨x.toNat,oM⟩;exact Zwn ⟨n,oM⟩
def ZFx {x:Int} (h0:0<=x) (h1:x<8):Zj .or .u8 240 x=240+x:=by obtain ⟨n,rfl⟩:∃n:Nat,x=n:=⟨x.toNat,oM⟩;exact Zwo ⟨n,oM⟩
def a63 {x:Int} (h0:0<=x) (h1:x<256):Zj .and .u8 x 63=x % 64:=by obtain ⟨n,rfl⟩:∃n:Nat,x=n:=⟨x.toNat,oM⟩;rw [Zwp ⟨n,oM⟩]
def wu8 (n:Int):IntKind.u8.wrap n=n % 256:=by simp [IntKind.wrap,IntKind.bits,IntKind.signed]
def X8 (c:Int):Zl (Lib.encodeRune c)=(Lib.encodeRuneZ c).map fun x=>[D.int .u8 x]:=by
 have h:=Lib.encodeRuneZ_byte c;unfold Lib.encodeRune Zl
 rw [Sj];refine So fun x hx=>?_
 have:=h x hx;simp [UInt8.toNat_ofNat'];omega
def Uq:Zk:=fun args σ K=>match args,σ with
 | [.sl 0 e rows,.d (.int .i32 c)],⟨[],[0],1⟩=>(e=5/\(∀r∈rows,r.length=1)/\rows.length<70368744177664/\0<=c/\c<=1114111)/\K (.ret (.sl 0 5 (rows++Zl (Lib.encodeRune c)))) ⟨[],[0],1⟩
 | _,_=>False
def VF:Zk:=fun args σ K=>match args,σ with
 | [.sl 0 e rows,.d (.int .i32 c)],⟨[],[0],1⟩=>(e=5/\(∀r∈rows,r.length=1)/\rows.length<70368744177664/\128<=c/\c<=1114111)/\K (.ret (.sl 0 5 (rows++Zl (Lib.encodeRune c)))) ⟨[],[0],1⟩
 | _,_=>False
def ZeW:PC w0 nG 305 VF:=by
 refine pwe Tryz.func305 fun args σ K h=>?_
 unfold VF at h
 split at h
 ·rename_i e rows c
  obtain ⟨⟨rfl,cf,rh,jg,dv⟩,h⟩:=h;refine pwv [] 0 true ?_;have e6:c.fdiv (2 ^ min (Int.toNat 6) IntKind.i32.bits)=c / 64:=by rw [show (2:Int) ^ min (Int.toNat 6) IntKind.i32.bits=64 by decide];exact Int.fdiv_eq_ediv_of_nonneg _ oM
  have e12:c.fdiv (2 ^ min (Int.toNat 12) IntKind.i32.bits)=c / 4096:=by rw [show (2:Int) ^ min (Int.toNat 12) IntKind.i32.bits=4096 by decide];exact Int.fdiv_eq_ediv_of_nonneg _ oM
  have e18:c.fdiv (2 ^ min (Int.toNat 18) IntKind.i32.bits)=c / 262144:=by rw [show (2:Int) ^ min (Int.toNat 18) IntKind.i32.bits=262144 by decide];exact Int.fdiv_eq_ediv_of_nonneg _ oM
  refine Or.inl ⟨InR.u32 oM oM,wN ?_⟩;refine ZGg (fun h1=>?_) (fun h1=>wN ?_)
  ·skip
   have g:K (.ret (.sl 0 5 (rows++[[D.int .u8 (Zj .or .u8 192 (IntKind.u8.wrap (c.fdiv (2 ^ min (Int.toNat 6) IntKind.i32.bits))))],[D.int .u8 (Zj .or .u8 128 (Zj .and .u8 (IntKind.u8.wrap (c)) 63))]]))) ⟨[],[0],1⟩:=by
    have e:Zl (Lib.encodeRune c)=[[D.int .u8 (Zj .or .u8 192 (IntKind.u8.wrap (c.fdiv (2 ^ min (Int.toNat 6) IntKind.i32.bits))))],[D.int .u8 (Zj .or .u8 128 (Zj .and .u8 (IntKind.u8.wrap (c)) 63))]]:=by
     rw [X8,Lib.encodeRuneZ_two jg oM];simp only [e6,e12,e18,wu8,Tz,TJ];rw [ZFw oM oM,a63 oM oM,Zvk oM oM,show c / 64 % 256=c / 64 by omega,show c % 256 % 64=c % 64 by omega]
     all_goals (try omega)
     (try (congr 1 <;> omega))
    rw [e] at h;exact h
   conv=>whnf
   refine ⟨dM,wN ?_⟩;refine Or.inr (wN ?_);refine Or.inr (wN ?_);refine ⟨fun r hr=>by (simp at hr;rcases hr with rfl | rfl <;> rfl),(show (rows.length+2) * 1<=2 ^ 47 by omega),(show rows.length+2<=2 ^ 47 by omega),?_⟩;(conv=>whnf);exact g
  refine ZGg (fun h2=>wN ?_) (fun h2=>wN ?_)
  ·refine ZGg (fun du=>wN ?_) (fun du=>absurd h2 du);have g:K (.ret (.sl 0 5 (rows++[[D.int .u8 (Zj .or .u8 224 (IntKind.u8.wrap (c.fdiv (2 ^ min (Int.toNat 12) IntKind.i32.bits))))],[D.int .u8 (Zj .or .u8 128 (Zj .and .u8 (IntKind.u8.wrap (c.fdiv (2 ^ min (Int.toNat 6) IntKind.i32.bits))) 63))],[D.int .u8 (Zj .or .u8 128 (Zj .and .u8 (IntKind.u8.wrap (c)) 63))]]))) ⟨[],[0],1⟩:=by
    exact mq35
   exact mq184
  refine ZGg (fun h3=>wN ?_) (fun h3=>wN ?_)
  ·refine ZGg (fun h4=>?_) (fun h4=>wN ?_)
   ·skip
    have g:K (.ret (.sl 0 5 (rows++[[D.int .u8 (Zj .or .u8 224 (IntKind.u8.wrap (c.fdiv (2 ^ min (Int.toNat 12) IntKind.i32.bits))))],[D.int .u8 (Zj .or .u8 128 (Zj .and .u8 (IntKind.u8.wrap (c.fdiv (2 ^ min (Int.toNat 6) IntKind.i32.bits))) 63))],[D.int .u8 (Zj .or .u8 128 (Zj .and .u8 (IntKind.u8.wrap (c)) 63))]]))) ⟨[],[0],1⟩:=by
     exact mq35
    conv=>whnf
    exact mq184
   refine ZGg (fun h5=>wN ?_) (fun h5=>?_)
   ·refine ZGg (fun h6=>?_) (fun h6=>?_)
    ·skip
     have g:K (.ret (.sl 0 5 (rows++[[D.int .u8 (Zj .or .u8 240 (IntKind.u8.wrap (c.fdiv (2 ^ min (Int.toNat 18) IntKind.i32.bits))))],[D.int .u8 (Zj .or .u8 128 (Zj .and .u8 (IntKind.u8.wrap (c.fdiv (2 ^ min (Int.toNat 12) IntKind.i32.bits))) 63))],[D.int .u8 (Zj .or .u8 128 (Zj .and .u8 (IntKind.u8.wrap (c.fdiv (2 ^ min (Int.toNat 6) IntKind.i32.bits))) 63))],[D.int .u8 (Zj .or .u8 128 (Zj .and .u8 (IntKind.u8.wrap (c)) 63))]]))) ⟨[],[0],1⟩:=by
      have e:Zl (Lib.encodeRune c)=[[D.int .u8 (Zj .or .u8 240 (IntKind.u8.wrap (c.fdiv (2 ^ min (Int.toNat 18) IntKind.i32.bits))))],[D.int .u8 (Zj .or .u8 128 (Zj .and .u8 (IntKind.u8.wrap (c.fdiv (2 ^ min (Int.toNat 12) IntKind.i32.bits))) 63))],[D.int .u8 (Zj .or .u8 128 (Zj .and .u8 (IntKind.u8.wrap (c.fdiv (2 ^ min (Int.toNat 6) IntKind.i32.bits))) 63))],[D.int .u8 (Zj .or .u8 128 (Zj .and .u8 (IntKind.u8.wrap (c)) 63))]]:=by
       rw [X8,Lib.encodeRuneZ_four oM oM];simp only [e6,e12,e18,wu8,Tz,TJ];rw [ZFx oM oM,a63 oM oM,a63 oM oM,a63 oM oM,Zvk oM oM,Zvk oM oM,Zvk oM oM,show c / 262144 % 256=c / 262144 by omega,show c / 4096 % 256 % 64=c / 4096 % 64 by omega,show c / 64 % 256 % 64=c / 64 % 64 by omega,show c % 256 % 64=c % 64 by omega]
       all_goals (try omega)
       (try (congr 1 <;> omega))
      rw [e] at h;exact h
     conv=>whnf
     refine ⟨dM,wN ?_⟩;refine Or.inr (wN ?_);refine ⟨dM,wN ?_⟩;refine Or.inr (wN ?_);refine ⟨dM,wN ?_⟩;refine Or.inr (wN ?_);refine Or.inr (wN ?_);refine ⟨fun r hr=>by (simp at hr;rcases hr with rfl | rfl | rfl | rfl <;> rfl),(show (rows.length+4) * 1<=2 ^ 47 by omega),(show rows.length+4<=2 ^ 47 by omega),?_⟩;(conv=>whnf);exact g
    omega
   omega
  refine ZGg (fun h5=>?_) (fun h5=>?_)
  ·omega
  skip
  have g:K (.ret (.sl 0 5 (rows++[[D.int .u8 (239)],[D.int .u8 (191)],[D.int .u8 (189)]]))) ⟨[],[0],1⟩:=by
   have e:Zl (Lib.encodeRune c)=[[D.int .u8 (239)],[D.int .u8 (191)],[D.int .u8 (189)]]:=by
    rw [X8,Lib.encodeRuneZ_bad oM];rfl
   rw [e] at h;exact h
  conv=>whnf
  exact mq60
 exact h.elim
def ZDK:Tbl:=[(305,VF)]
def Zg5:PC w0 nG 290 Uq:=by
 refine pwt (tbl:=ZDK) ⟨ZeW,trivial⟩ Tryz.func290 fun args σ K h=>?_
 unfold Uq at h
 split at h
 ·rename_i e rows c
  obtain ⟨⟨rfl,cf,rh,jg,dv⟩,h⟩:=h;refine pwv [] 0 true ?_;refine Or.inl ⟨InR.u32 oM oM,wN ?_⟩;refine ZGg (fun h1=>wN ?_) (fun h1=>wN ?_)
  ·have e:Zl (Lib.encodeRune c)=[[D.int .u8 c]]:=by rw [X8,Lib.encodeRuneZ_one jg h1];rfl
   rw [e] at h;refine W7 ?_;exact mq157
  refine ⟨⟨rfl,cf,oM,oM,oM⟩,wN ?_⟩;exact h
 exact h.elim
def ZsO:TO w0 nG [(232,VC)]:=⟨ZbV,trivial⟩
def ZbZ:PC w0 nG 261 Vz:=by
 refine pwt ZsO Tryz.func261 fun args σ K h=>?_
 unfold Vz at h
 split at h
 ·rename_i c t p e rows
  obtain ⟨⟨hp,rfl,rfl,cf,rh⟩,h⟩:=h;refine pwu [] 1 true ?_;rcases hp with rfl | rfl
  ·conv=>whnf
   refine ⟨⟨.inl rfl,rfl⟩,wN ?_⟩;exact mq157
  conv=>whnf
  refine ⟨⟨.inr rfl,rfl⟩,wN ?_⟩;exact mq157
 exact h.elim
def ZDM (c:Int):(Lib.encodeRune c).length<=4:=by unfold Lib.encodeRune;rw [Td];exact (Lib.encodeRuneZ_length c).2
def ZsP:TO w0 nG [(232,VC),(290,Uq)]:=⟨ZbV,Zg5,trivial⟩
def Zb0:PC w0 nG 263 VA:=by
 refine pwt ZsP Tryz.func263 fun args σ K h=>?_
 unfold VA at h
 split at h
 ·rename_i c t p e rows
  obtain ⟨⟨hp,rfl,rfl,cf,rh,jg,dv⟩,h⟩:=h;refine pwu [] 1 true ?_;rcases hp with rfl | rfl
  ·conv=>whnf
   refine ⟨⟨.inl rfl,rfl⟩,wN ?_⟩;refine ⟨⟨rfl,cf,rh,jg,dv⟩,wN ?_⟩;refine Or.inl ⟨InR.i64 (by rw [Ta,Y6];have:=Lib.encodeRuneZ_length c;omega) (by rw [Ta,Y6];have:=ZDM c;omega),wN ?_⟩;exact h
  conv=>whnf
  refine ⟨⟨.inr rfl,rfl⟩,wN ?_⟩;refine ⟨⟨rfl,cf,rh,jg,dv⟩,wN ?_⟩;refine Or.inl ⟨InR.i64 (by rw [Ta,Y6];omega) (by rw [Ta,Y6];have:=ZDM c;omega),wN ?_⟩;exact h
 exact h.elim
def JH:Zk:=fun args σ K=>match args with
 | [.d (.int .i32 c)]=>K (.ret (.d (.bool (Lib.validRune c)))) σ
 | _=>False
def ZAW (c:Int) (h:128<=c) (h2:c<=1114111):2<=(Utf8.encode c).data.toList.length/\(Utf8.encode c).data.toList.length<=4/\∀b∈(Utf8.encode c).data.toList,128<=b.toNat:=by
 unfold Utf8.encode
 simp only;generalize hn:(if Utf8.valid c then c.toNat else Utf8.runeError)=n;have jf:128<=n/\n<=1114111:=by
  rw [<- hn];split
  ·omega
  simp [Utf8.runeError]
 rw [Tf oM];split
 ·simp [UInt8.toNat_ofNat'];omega
 split
 ·simp [UInt8.toNat_ofNat'];omega
 simp [UInt8.toNat_ofNat'];omega
def Zpu {l:Bs} {c:UInt8} (h:∀b∈l,b.toNat<128) (hc:128<=c.toNat):Lib.indexByte l c=-1:=by
 induction l with
 | nil=>rfl
 | cons b l ih =>
 have h1:=ih (fun x hx=>h x (TG _ hx));have h2:(b == c)=false:=by
  simp only [beq_eq_false_iff_ne];intro e;subst e;have:=h b sM;omega
 simp [Lib.indexByte,h1,h2]
def ZsQ {s:Bs} (h:∀b∈s,b.toNat<128) (i:Nat):(s.getD i 0).toNat<128:=by
 rw [T2]
 by_cases hi:i<s.length
 ·rw [Tb hi];exact h _ (TC hi)
 rw [Sp oM];decide
def Zpv {s:Bs} (h:∀b∈s,128<=b.toNat) {i:Nat} (hi:i<s.length):128<=(s.getD i 0).toNat:=by
 rw [T2,Tb hi];exact h _ (TC hi)
def ZDO {n:Int} {k:Nat} (h:n=k) (hk:k<256):(n.toNat.toUInt8).toNat=k:=by
 subst h;simp [UInt8.toNat_ofNat'];omega
def ZiG:OKw w0 nG [(286,Wj),(287,JH)] 262 Wl:=by
 refine pwo Tryz.func262 fun args σ K h=>?_
 unfold Wl at h
 split at h
 ·rename_i s c
  obtain ⟨⟨hs,jg,dv⟩,h⟩:=h;have nk:s.length=4:=by rcases hs with rfl | rfl <;> rfl
  have wa:∀b∈s,b.toNat<128:=by rcases hs with rfl | rfl <;> decide
  have wb:∀p,p<4->(decodeL s p).1<128/\(decodeL s p).2=1:=by
   intro p hp
   rcases hs with rfl | rfl
   all_goals (match p,hp with | 0,_=>exact ⟨dM,dM⟩ | 1,_=>exact ⟨dM,dM⟩ | 2,_=>exact ⟨dM,dM⟩ | 3,_=>exact ⟨dM,dM⟩)
  refine pwu [(38,⟨[],[0,175],fun vs σ=>vs=[]/\∃p:Nat,p<=4/\σ=⟨[.iter s p],[],0⟩,fun _ σ=>match σ.bx with | [.iter _ p]=>4 - p | _=>0⟩),
    (5,⟨[9],[0,1,7,8],fun vs σ=>σ=⟨[],[],0⟩/\vs=[.d (.int .i64 (((Utf8.encode c).data.toList.length:Int) - 1))],fun _ _=>0⟩)] 0 false ?_
  have tr:128<=c->K (.ret (.d (.int .i64 (-1)))) ⟨[],[],0⟩:=fun g=>by
   have:Zds s c=-1:=by unfold Zds;rw [Tf oM]
   rw [this] at h;exact h
  conv=>whnf
  refine ZGg (fun h1=>wN ?_) (fun h1=>?_)
  ·refine ZGg (fun h2=>wN ?_) (fun h2=>wN ?_)
   ·have e:Zds s c=Lib.indexByte s c.toNat.toUInt8:=by unfold Zds;rw [Tj h2]
    rw [e] at h;refine W7 ?_;exact h
   refine ZGg (fun h3=>wN ?_) (fun h3=>wN ?_)
   ·refine ⟨⟨rfl,0,oM,rfl⟩,?_⟩;intro vs σ1 hI
    obtain ⟨rfl,p,hp,rfl⟩:=hI;(conv=>whnf);refine ZGg (fun h4=>wN ?_) (fun h4=>wN ?_)
    ·have hd:=wb p oM;refine ZGg (fun h5=>?_) (fun h5=>wN ?_)
     ·omega
     refine ⟨⟨rfl,p+1,oM,by rw [hd.2];rfl⟩,?_⟩;exact (show 4 - (p+(decodeL s p).2)<4 - p by omega)
    exact tr oM
   refine ZGj (fun h4=>wN ?_) (fun h4=>wN ?_)
   ·exact tr oM
   obtain ⟨e1,e2,e3⟩:=ZAW c oM dv;have hl:=Zpv e3 (i:=(Utf8.encode c).data.toList.length - 1) oM;refine Zi ?_;refine ⟨⟨rfl,rfl⟩,?_⟩;intro vs σ1 hI
   obtain ⟨rfl,rfl⟩:=hI;(conv=>whnf);refine ZGg (fun h5=>wN ?_) (fun h5=>?_)
   ·refine ⟨oM,oM,wN ?_⟩;refine ⟨oM,oM,wN ?_⟩;have j7:=ZsQ wa (((Utf8.encode c).data.toList.length:Int) - 1).toNat;have qn:128<=((Utf8.encode c).data.toList.getD (((Utf8.encode c).data.toList.length:Int) - 1).toNat 0).toNat:=Zpv e3 oM;refine ZGi (fun h6=>wN ?_) (fun h6=>?_)
    ·refine Zi ?_;refine ⟨oM,oM,wN ?_⟩;refine ⟨oM,oM,wN ?_⟩;generalize hx:Lib.indexByte _ _=x;have:x=-1:=by
      rw [<- hx];refine Zpu (fun b hb=>wa b (List.mem_of_mem_take (List.mem_of_mem_drop hb))) ?_;rw [ZDO rfl (UInt8.toNat_lt _)];exact qn
     subst this;(conv=>whnf);exact tr oM
    omega
   omega
  omega
 exact h.elim
def Zg6 (r:Bs):(Lib.decodeL r).1<=1114111/\1<=(Lib.decodeL r).2/\(Lib.decodeL r).2<=4:=by
 exact mq71
def Zkj (c:Int):(Lib.encodeRune c).length<=4:=by
 unfold Lib.encodeRune Lib.encodeRuneZ
 rw [Td]
 repeat' split
 all_goals simp
def Ur {n k:Nat} (h:n<128) (hk:k<128) (ai:n≠k):(n:Int).toNat.toUInt8≠UInt8.ofNat k:=by
 intro h1
 have h2:=congrArg UInt8.toNat h1;simp [UInt8.toNat_ofNat'] at h2;omega
def ZlB {n:Nat} (h:Zwd n=none):Zds [110,116,34,92] n=-1:=by
 unfold Zwd at h
 split at h;· cases h
 split at h;· cases h
 split at h;· cases h
 split at h;· cases h
 rename_i h1 h2 h3 h4
 unfold Zds
 split
 ·rename_i h5
  have hc:([110,116,34,92]:Bs).contains ((n:Int).toNat.toUInt8)=false:=by
   have b1:=Ur (n:=n) (k:=110) oM oM h1;have b2:=Ur (n:=n) (k:=116) oM oM h2;exact mq107
  rw [Lib.contains_iff_indexByte,decide_eq_false_iff_not] at hc;have:=Lib.indexByte_ge [110,116,34,92] ((n:Int).toNat.toUInt8);omega
 rfl
def ZlC {n:Nat} {b:UInt8} (h:Zwd n=some b):(Zds [110,116,34,92] n=0/\b=10)\/(Zds [110,116,34,92] n=1/\b=9)\/(Zds [110,116,34,92] n=2/\b=34)\/(Zds [110,116,34,92] n=3/\b=92):=by
 unfold Zwd at h
 exact mq69
def JI (l:Bs) (b:UInt8):Zl (l++[b])=Zl l++[[.int .u8 b.toNat]]:=by simp [Zl]
def W9 (l m:Bs):Zl (l++m)=Zl l++Zl m:=by simp [Zl]
def ZfI (l:Bs):∀r∈Zl l,r.length=1:=by
 intro r hr
 simp only [Zl,Su] at hr;obtain ⟨b,_,rfl⟩:=hr;rfl
def ZfJ (l:Bs):(Zl l).length=l.length:=by simp [Zl]
def ZFy (B:Nat):List PV->St->Nat:=fun _ σ=>match σ.bx with | [_,_,_,_,.iter _ p]=>B - p | _=>0
def Zwr:OKw w0 nG [(262,Wl),(261,Vz),(219,ZbU),(263,VA),(73,ZcB)] 297 Zlz:=by
 refine pwo Tryz.func297 fun args σ K h=>?_
 unfold Zlz at h
 split at h
 ·rename_i t s a
  obtain ⟨⟨h0,h1,hs⟩,h⟩:=h;obtain ⟨a,rfl⟩:∃n:Nat,a=n:=⟨a.toNat,oM⟩
  simp only [Th] at h;obtain ⟨u,hu⟩:∃u,u=s.drop (a+1):=⟨_,rfl⟩
  have z4:u.length=s.length - (a+1):=by rw [hu,Tx]
  refine pwu [(4,⟨[5],[0,2,3,4,22],fun vs σ=>∃(esc:Bool) (l:Bs) (i f:Nat) (p:PV),vs=[.d (.bool esc)] /\
   σ=⟨[.cells t [.d (.str s),.d (.int .i64 a)],.cells 166 [.d (.int .u8 0),.d (.str []),.d (.int .i64 0),.d (.int .i64 0),.d (.int .i64 0)],.cells 295 [.d (.int .i64 0),.d (.int .i64 0)],.cells 130 [p,.sl 0 5 (Zl l)],.iter u i],[0],1⟩ /\
   (p=.d .nilp\/p=.ptr 3 0)/\(i<=u.length/\u.length<i+f/\l.length<=4 * i)/\Z7 f (u.drop i) esc l (1+i)=WO (s.drop a),ZFy u.length⟩)] 1 false ?_
  have dl:∀n:Nat,WO (s.drop a)=.err n->K (.ret (.tuple [Zaj 0 [] 0 0 0,Ziw ((a+n:Nat):Int) 141])) ⟨[.cells t [.d (.str s),.d (.int .i64 a)]],[],0⟩:=fun n g=>by
   have e1:ZeS a (s.drop a)=.bad (a+n) 141:=by rw [ZeS,g]
   rw [e1] at h;exact h
  have d7:∀(l:Bs) (n:Nat),WO (s.drop a)=.ok l n->K (.ret (.tuple [Zaj 3 l 0 a ((a+n:Nat):Int),Ziw 0 0])) ⟨[.cells t [.d (.str s),.d (.int .i64 a)]],[],0⟩:=fun l n g=>by
   have e1:ZeS a (s.drop a)=.tok ⟨3,l,0,a,a+n⟩:=by rw [ZeS,g]
   rw [e1] at h;exact h
  have gx:((a:Int)+1).toNat=a+1:=oM;(conv=>whnf);refine Zi ?_;refine ⟨oM,oM,wN ?_⟩;rw [Ui,gx,<- hu];refine ⟨⟨false,[],0,(s.drop a).length+1,.d .nilp,rfl,rfl,.inl rfl,⟨oM,hD,sM⟩,?_⟩,?_⟩
  ·rw [WO,TL,<- hu];rfl
  intro vs σ1 hI
  obtain ⟨esc,l,i,f,p,rfl,rfl,hp,⟨hi1,ab,ei⟩,fu⟩:=hI;obtain ⟨f,rfl⟩:∃g,f=g+1:=⟨f - 1,oM⟩
  have bv:=ZfI l;have ct:=ZfJ l;have bi:=Zdq u i;have iw:=Zg6 (u.drop i);have jq:=Lib.decodeL_le (u.drop i);rw [Tx] at jq
  cases esc with
  | true =>
   rcases hp with rfl | rfl
   ·conv=>whnf
    refine ZGg (fun h2=>wN ?_) (fun h2=>wN ?_)
    ·have ai:u.drop i≠[]:=fun g=>by have:=congrArg List.length g;rw [Tx] at this;simp at this;omega
     refine Zi ?_;refine Zi ?_;refine ⟨⟨.inl rfl,oM,by rw [bi];omega⟩,wN ?_⟩;generalize hk:Zds _ _=k;have gl:Zds [110,116,34,92] ((Lib.decodeL (u.drop i)).1:Int)=k:=by rw [<- bi];exact hk
     cases hE:Zwd (Lib.decodeL (u.drop i)).1 with
     | none =>
      exact mq82
     | some b =>
     have g1:WO (s.drop a)=Z7 f (u.drop (i+(decodeL u i).2)) false (l++[b]) (1+(i+(decodeL u i).2)):=by rw [<- fu,bi];simp [Z7,ai,hE,TL,Nat.add_assoc]
     have g3:i+(decodeL u i).2<=u.length:=by rw [bi];have:=jq ai;omega
     have qg:1<=(decodeL u i).2:=by rw [bi];omega
     rcases ZlC hE with ⟨e1,rfl⟩ | ⟨e1,rfl⟩ | ⟨e1,rfl⟩ | ⟨e1,rfl⟩
     all_goals (rw [e1] at gl;subst gl)
     all_goals (conv=>whnf)
     all_goals (refine ⟨oM,by first | omega | (simp;done) | (simp;omega),?_⟩)
     all_goals (conv=>whnf)
     all_goals (refine ⟨⟨.inl rfl,rfl,rfl,bv,oM⟩,?_⟩)
     all_goals (conv=>whnf)
     all_goals (refine ⟨⟨false,_,_,f,_,rfl,?_,.inr rfl,⟨g3,oM,?_⟩,g1.symm⟩,?_⟩)
     all_goals (first | (rw [JI];rfl) | (rw [Ta];simp;omega) | exact (show u.length - (i+(decodeL u i).2)<u.length - i by omega))
    exact mq45
   conv=>whnf
   refine ZGg (fun h2=>wN ?_) (fun h2=>wN ?_)
   ·have ai:u.drop i≠[]:=fun g=>by have:=congrArg List.length g;rw [Tx] at this;simp at this;omega
    refine Zi ?_;refine Zi ?_;refine ⟨⟨.inl rfl,oM,by rw [bi];omega⟩,wN ?_⟩;generalize hk:Zds _ _=k;have gl:Zds [110,116,34,92] ((Lib.decodeL (u.drop i)).1:Int)=k:=by rw [<- bi];exact hk
    cases hE:Zwd (Lib.decodeL (u.drop i)).1 with
    | none =>
     exact mq82
    | some b =>
    have g1:WO (s.drop a)=Z7 f (u.drop (i+(decodeL u i).2)) false (l++[b]) (1+(i+(decodeL u i).2)):=by rw [<- fu,bi];simp [Z7,ai,hE,TL,Nat.add_assoc]
    have g3:i+(decodeL u i).2<=u.length:=by rw [bi];have:=jq ai;omega
    have qg:1<=(decodeL u i).2:=by rw [bi];omega
    rcases ZlC hE with ⟨e1,rfl⟩ | ⟨e1,rfl⟩ | ⟨e1,rfl⟩ | ⟨e1,rfl⟩
    all_goals (rw [e1] at gl;subst gl)
    all_goals (conv=>whnf)
    all_goals (refine ⟨oM,by first | omega | (simp;done) | (simp;omega),?_⟩)
    all_goals (conv=>whnf)
    all_goals (refine ⟨⟨.inr rfl,rfl,rfl,bv,oM⟩,?_⟩)
    all_goals (conv=>whnf)
    all_goals (refine ⟨⟨false,_,_,f,_,rfl,?_,.inr rfl,⟨g3,oM,?_⟩,g1.symm⟩,?_⟩)
    all_goals (first | (rw [JI];rfl) | (rw [Ta];simp;omega) | exact (show u.length - (i+(decodeL u i).2)<u.length - i by omega))
   exact mq45
  | false =>
  rcases hp with rfl | rfl
  ·conv=>whnf
   refine ZGg (fun h2=>wN ?_) (fun h2=>wN ?_)
   ·have ai:u.drop i≠[]:=fun g=>by have:=congrArg List.length g;rw [Tx] at this;simp at this;omega
    have g3:i+(decodeL u i).2<=u.length:=by rw [bi];have:=jq ai;omega
    have qg:1<=(decodeL u i).2:=by rw [bi];omega
    have n5:((a:Int)+1+(i:Int)).toNat=a+1+i:=oM;have wb:s.drop (a+1+i)=u.drop i:=by rw [hu,TL]
    refine Zi ?_;refine Zi ?_;refine ⟨⟨oM,oM⟩,wN ?_⟩;refine ZGg (fun h3=>wN ?_) (fun h3=>wN ?_)
    ·have ey:(Lib.decodeL (u.drop i)).1=34:=by rw [bi] at h3;omega
     have g1:WO (s.drop a)=.ok l (1+i+1):=by rw [<- fu];simp [Z7,ai,ey]
     refine Zi ?_;refine ⟨l,⟨rfl,rfl,rfl,.inl rfl,oM⟩,wN ?_⟩;exact mq108
    have ey:¬(Lib.decodeL (u.drop i)).1=34:=by rw [bi] at h3;omega
    refine ZGg (fun h4=>wN ?_) (fun h4=>wN ?_)
    ·have ju:(Lib.decodeL (u.drop i)).1=92:=by rw [bi] at h4;omega
     have g1:WO (s.drop a)=Z7 f (u.drop (i+(decodeL u i).2)) true l (1+(i+(decodeL u i).2)):=by rw [<- fu,bi];simp [Z7,ai,ey,ju,TL,Nat.add_assoc]
     refine ⟨⟨true,_,_,f,_,rfl,rfl,.inl rfl,⟨g3,oM,oM⟩,g1.symm⟩,?_⟩;exact mq189
    have ju:¬(Lib.decodeL (u.drop i)).1=92:=by rw [bi] at h4;omega
    refine ZGg (fun h5=>wN ?_) (fun h5=>wN ?_)
    ·exact mq85
    have gc:¬(pk (u.drop i)).1<32:=by rw [n5,wb] at h5;exact h5
    have g1:WO (s.drop a)=Z7 f (u.drop (i+(decodeL u i).2)) false (l++Lib.encodeRune ((decodeL u i).1:Int)) (1+(i+(decodeL u i).2)):=by rw [<- fu,bi];simp [Z7,ai,ey,ju,gc,TL,Nat.add_assoc]
    have hen:=Zkj ((decodeL u i).1:Int);refine ⟨⟨.inl rfl,rfl,rfl,bv,oM,oM,by rw [bi];omega⟩,wN ?_⟩;exact mq106
   exact mq45
  conv=>whnf
  refine ZGg (fun h2=>wN ?_) (fun h2=>wN ?_)
  ·have ai:u.drop i≠[]:=fun g=>by have:=congrArg List.length g;rw [Tx] at this;simp at this;omega
   have g3:i+(decodeL u i).2<=u.length:=by rw [bi];have:=jq ai;omega
   have qg:1<=(decodeL u i).2:=by rw [bi];omega
   have n5:((a:Int)+1+(i:Int)).toNat=a+1+i:=oM;have wb:s.drop (a+1+i)=u.drop i:=by rw [hu,TL]
   refine Zi ?_;refine Zi ?_;refine ⟨⟨oM,oM⟩,wN ?_⟩;refine ZGg (fun h3=>wN ?_) (fun h3=>wN ?_)
   ·have ey:(Lib.decodeL (u.drop i)).1=34:=by rw [bi] at h3;omega
    have g1:WO (s.drop a)=.ok l (1+i+1):=by rw [<- fu];simp [Z7,ai,ey]
    refine Zi ?_;refine ⟨l,⟨rfl,rfl,rfl,.inr rfl,oM⟩,wN ?_⟩;exact mq108
   have ey:¬(Lib.decodeL (u.drop i)).1=34:=by rw [bi] at h3;omega
   refine ZGg (fun h4=>wN ?_) (fun h4=>wN ?_)
   ·have ju:(Lib.decodeL (u.drop i)).1=92:=by rw [bi] at h4;omega
    have g1:WO (s.drop a)=Z7 f (u.drop (i+(decodeL u i).2)) true l (1+(i+(decodeL u i).2)):=by rw [<- fu,bi];simp [Z7,ai,ey,ju,TL,Nat.add_assoc]
    refine ⟨⟨true,_,_,f,_,rfl,rfl,.inr rfl,⟨g3,oM,oM⟩,g1.symm⟩,?_⟩;exact mq189
   have ju:¬(Lib.decodeL (u.drop i)).1=92:=by rw [bi] at h4;omega
   refine ZGg (fun h5=>wN ?_) (fun h5=>wN ?_)
   ·exact mq85
   have gc:¬(pk (u.drop i)).1<32:=by rw [n5,wb] at h5;exact h5
   have g1:WO (s.drop a)=Z7 f (u.drop (i+(decodeL u i).2)) false (l++Lib.encodeRune ((decodeL u i).1:Int)) (1+(i+(decodeL u i).2)):=by rw [<- fu,bi];simp [Z7,ai,ey,ju,gc,TL,Nat.add_assoc]
   have hen:=Zkj ((decodeL u i).1:Int);refine ⟨⟨.inr rfl,rfl,rfl,bv,oM,oM,by rw [bi];omega⟩,wN ?_⟩;exact mq106
  exact mq45
 exact h.elim
def Zg7 (r:Bs) (h:0<r.length):Yg r<=r.length/\Yg r<=2:=by
 unfold Yg
 split
 ·rename_i h1
  simp only [twos,SA,List.any_nil,Si,Sh] at h1;rcases h1 with h1 | h1 | h1 | h1 | h1
  all_goals (have:=(Yt h1).1;omega)
 split <;> omega
def Xh (a:Nat) (r:Bs) (room:Bool):JF a r room=if Yg r=0/\(pk r).1≠34/\Zm (pk r).1=false/\Zo (pk r).1=false then .bad a 140
 else if room=false then .bad a 3
 else if 0<Yg r then .tok ⟨4,r.take (Yg r),0,a,a+Yg r⟩
 else if (pk r).1=34 then ZeS a r
 else if Zo (pk r).1=true then WP a r
 else .tok ⟨1,r.take (Vy r),0,a,a+Vy r⟩:=rfl
def Zwt:OKw w0 nG [(219,ZbU),(296,Zly),(220,UP),(259,Wk),(297,Zlz),(298,ZcC),(221,Zix)] 271 ZfH:=by
 refine pwo Tryz.func271 fun args σ K h=>?_
 unfold ZfH at h
 split at h
 ·rename_i room t s a
  obtain ⟨⟨h0,h1,hs⟩,h⟩:=h;obtain ⟨a,rfl⟩:∃n:Nat,a=n:=⟨a.toNat,oM⟩
  simp only [Th] at h;have tn:-1<=(pk (s.drop ((a:Int)).toNat)).1/\(pk (s.drop ((a:Int)).toNat)).1<=1114111:=WH (s.drop a);have nk:=Zg7 (s.drop a) hD;rw [Tx] at nk;have dl:∀e:Nat,JF a (s.drop a) room=.bad a e->K (.ret (.tuple [Zaj 0 [] 0 0 0,Ziw a e])) ⟨[.cells t [.d (.str s),.d (.int .i64 a)]],[],0⟩:=fun e g=>by
   rw [g] at h;exact h
  have x9:∀n:Nat,Yg (s.drop a)=n->JF a (s.drop a) room=.tok ⟨4,(s.drop a).take n,0,a,a+n⟩->K (.ret (.tuple [Zaj 4 (cut s ((a:Int)).toNat ((a:Int)+(n:Int)).toNat) 0 a ((a:Int)+(n:Int)),Ziw 0 0])) ⟨[.cells t [.d (.str s),.d (.int .i64 a)]],[],0⟩:=fun n g1 g2=>by
   rw [g2] at h;rw [Uj,show ((a:Int)+(n:Int)).toNat - ((a:Int)).toNat=n by omega];exact h
  have kj:JF a (s.drop a) room=.tok ⟨1,(s.drop a).take (Vy (s.drop a)),0,a,a+Vy (s.drop a)⟩->K (.ret (.tuple [Zaj 1 ((s.drop a).take (Vy (s.drop a))) 0 a ((a:Int)+(Vy (s.drop a):Int)),Ziw 0 0])) ⟨[.cells t [.d (.str s),.d (.int .i64 a)]],[],0⟩:=fun g=>by
   rw [g] at h;exact h
  refine pwv [] 1 false ?_;refine ⟨⟨oM,oM⟩,wN ?_⟩;refine ⟨⟨oM,oM,oM⟩,wN ?_⟩;generalize jg:(pk (s.drop ((a:Int)).toNat)).1=c at tn |-;have hc:(pk (s.drop a)).1=c:=jg;generalize eh:Yg (s.drop ((a:Int)).toNat)=n;have hn:Yg (s.drop a)=n:=eh;rw [hn] at nk;refine ZGg (fun h2=>?_) (fun h2=>?_)
  ·obtain rfl:n=0:=by omega
   conv=>whnf
   refine ZGi (fun h3=>wN ?_) (fun h3=>?_)
   ·refine ⟨⟨oM,oM⟩,wN ?_⟩;refine ZGj (fun h4=>wN ?_) (fun h4=>?_)
    ·have ju:Zm c=false:=by simpa using h4
     refine ZGj (fun h5=>wN ?_) (fun h5=>?_)
     ·have gc:Zo c=false:=by simpa using h5
      (try (refine ⟨rfl,?_⟩;conv=>whnf))
      (try (refine ⟨rfl,?_⟩;conv=>whnf))
      exact dl 140 (by rw [Xh,hn,hc,Tj ⟨rfl,h3,ju,gc⟩])
     have gc:Zo c=true:=by simpa using h5
     have i9:¬(0=0/\c≠34/\Zm c=false/\Zo c=false):=fun g=>by rw [gc] at g;simp at g
     cases room with
     | false =>
      exact mq53
     | true =>
     conv=>whnf
     refine ZGg (fun h6=>?_) (fun h6=>wN ?_)
     ·exact absurd h6 (by simpa using h3)
     refine ZGj (fun h7=>wN ?_) (fun h7=>?_)
     ·refine ⟨⟨oM,oM,oM⟩,wN ?_⟩;have g:JF a (s.drop a) true=WP a (s.drop a):=by
       rw [Xh,hn,hc,Tf i9,Tf sM,Tf oM,Tf h3,Tj gc]
      rw [g] at h;exact h
     rw [gc] at h7;cases h7
    have ju:Zm c=true:=by simpa using h4
    have gc:Zo c=false:=by
     have ag1:(c=95\/128<=c\/(97<=c/\c<=122)\/(65<=c/\c<=90)):=by simpa [Zm] using ju
     simp only [Zo,decide_eq_false_iff_not];omega
    have i9:¬(0=0/\c≠34/\Zm c=false/\Zo c=false):=fun g=>by rw [ju] at g;simp at g
    cases room with
    | false =>
     exact mq53
    | true =>
    conv=>whnf
    refine ZGg (fun h6=>?_) (fun h6=>wN ?_)
    ·exact absurd h6 (by simpa using h3)
    refine ZGj (fun h7=>?_) (fun h7=>wN ?_)
    ·rw [gc] at h7;cases h7
    refine ⟨⟨oM,oM,oM⟩,wN ?_⟩;exact kj (by rw [Xh,hn,hc,Tf i9,Tf sM,Tf oM,Tf h3,Tf (by rw [gc];simp)])
   obtain rfl:c=34:=h3;have i9:¬(0=0/\(34:Int)≠34/\Zm 34=false/\Zo 34=false):=fun g=>g.2.1 rfl
   cases room with
   | false =>
    exact mq53
   | true =>
   conv=>whnf
   refine ⟨⟨oM,oM,oM⟩,wN ?_⟩;have g:JF a (s.drop a) true=ZeS a (s.drop a):=by
    rw [Xh,hn,hc,Tf i9,Tf sM,Tf oM,Tj rfl]
   rw [g] at h;exact h
  have i9:¬(n=0/\c≠34/\Zm c=false/\Zo c=false):=fun g=>by omega
  cases room with
  | false =>
   exact mq53
  | true =>
  conv=>whnf
  refine ZGg (fun h6=>wN ?_) (fun h6=>?_)
  ·refine Zi ?_;refine ⟨oM,oM,oM,wN ?_⟩;refine Zi ?_
   (try (refine ⟨rfl,?_⟩;conv=>whnf))
   (try (refine ⟨rfl,?_⟩;conv=>whnf))
   exact x9 n hn (by rw [Xh,hn,hc,Tf i9,Tf sM,Tj oM])
  omega
 exact h.elim
def isDigit_iff {c:Int}:Zo c=true↔(48<=c/\c<=57):=by simp [Zo]
def ZiH:∀(f:Nat) (r:Bs),Y1 f r<=r.length
 | 0,r=>Sa _
 | f+1,r=>by
  have ih:=ZiH f (r.drop (pk r).2);rw [Tx] at ih;have hl:(pk r).1≠-1->(pk r).2<=r.length:=fun h=>(ZAT r h).2.1
  unfold Y1
  split
  ·rename_i h;have:=hl oM;split <;> omega
  split
  ·rename_i h
   have:=hl (fun h1=>by rw [h1,ZbX,Zdu] at h;simp at h);omega
  omega
def Zpw (r:Bs) (h:Zm (pk r).1=true):1<=Vy r/\Vy r<=r.length:=by
 refine ⟨?_,ZiH _ _⟩;have:=Zpr r;have h46:¬(pk r).1=46:=fun g=>by rw [g] at h;revert h;decide
 rw [Vy,ZiB h46 (.inl h)];omega
def UQ:∀(f:Nat) (r:Bs) (esc:Bool) (acc:Bs) (p:Nat) (t:Bs) (l:Nat),Z7 f r esc acc p=.ok t l->p<l/\l<=p+r.length
 | 0,r,esc,acc,p,t,l,h=>by simp [Z7] at h
 | f+1,r,esc,acc,p,t,l,h=>by
  unfold Z7 at h
  split at h
  ·cases h
  rename_i ai
  have hd:=Lib.decodeL_le r ai;have hr:=Zg6 r;split at h
  ·split at h
   ·cases h
   have:=UQ f _ _ _ _ _ _ h;rw [Tx] at this;omega
  split at h
  ·cases h;have:=List.length_pos_iff.2 ai;omega
  split at h
  ·have:=UQ f _ _ _ _ _ _ h;rw [Tx] at this;omega
  split at h
  ·cases h
  have:=UQ f _ _ _ _ _ _ h;rw [Tx] at this;omega
def Zpx (r:Bs):ZH r<=r.length:=by
 unfold ZH Zd
 have:=Um (XZ (W8 r)) (r.drop (if W8 r then 2 else 0));rw [Tx] at this
 by_cases h:W8 r=true
 ·have:=(Yt h).1;simp only [h,if_true] at *;omega
 simp only [h,Tv,if_false] at *;omega
def Zpy {a:Nat} {r:Bs} {room:Bool} {t:Tok} (h0:0<r.length) (h:JF a r room=.tok t):t.at'=a/\a<t.fin/\t.fin<=a+r.length:=by
 rw [Xh] at h;split at h
 ·cases h
 rename_i g0
 split at h
 ·cases h
 split at h
 ·cases h;rename_i g1;have:=Zg7 r h0;exact ⟨rfl,by simp only;omega,by simp only;omega⟩
 rename_i g1
 split at h
 ·unfold ZeS at h
  split at h
  ·cases h
  rename_i t' l hx
  cases h
  have:=UQ _ _ _ _ _ _ _ hx;rw [Tx] at this;exact ⟨rfl,by simp only;omega,by simp only;omega⟩
 rename_i g2
 split at h
 ·rename_i g3
  unfold WP at h
  split at h
  ·cases h
  rename_i n hx
  cases h
  have am:=Zpx r;refine ⟨rfl,?_,by simp only;omega⟩;simp only;have ai:Zd r≠[]:=fun g=>by rw [Z1,Tj g] at hx;cases hx
  have:=List.length_pos_iff.2 ai;unfold ZH;omega
 rename_i g3
 cases h
 have h4:Zm (pk r).1=true:=by
  cases hb:Zm (pk r).1 with
  | true=>rfl
  | false=>exact absurd ⟨oM,g2,hb,by simpa using g3⟩ g0
 have:=Zpw r h4;exact ⟨rfl,by simp only;omega,by simp only;omega⟩
def Zpz {a:Nat} {r:Bs} {room:Bool} {p e:Nat} (h:JF a r room=.bad p e):e≠0/\e<=142:=by
 rw [Xh] at h
 repeat' split at h
 all_goals first | (cases h;done) | (cases h;omega) | (cases h;decide) | skip
 ·unfold ZeS at h;split at h <;> cases h;decide
 unfold WP at h;split at h <;> cases h;decide
def Zdw:∀(f:Nat) (r:Bs),(ZX f r).2<=r.length
 | 0,r=>Sa _
 | f+1,r=>by
  have hdw:=Uk (([32,9,13,10]:Bs).contains ·) r
  obtain ⟨rest,aw⟩:∃x,x=Lib.trimLeftS r [32,9,13,10]:=⟨_,rfl⟩
  have ef:rest.length<=r.length:=by rw [aw];exact hdw.2
  simp only [ZX,<- aw];split
  ·rename_i h1
   have ih:=fun n=>Zdw f (rest.drop n)
   have aa:=Ul 10 rest;have ez:=Lib.indexByte_ge rest 10;have ih2:=ih (if Lib.indexByte rest 10<0 then rest.length else (Lib.indexByte rest 10).toNat);rw [Tx] at ih2;simp only;have:(if Lib.indexByte rest 10<0 then rest.length else (Lib.indexByte rest 10).toNat)<=rest.length:=by split <;> omega
   omega
  split
  ·rename_i h1 h2
   have hl:=(Yt h2).1;split
   ·simp only;omega
   rename_i h3
   have am:=Zg2 [42,47] (rest.drop 2) oM;simp only [Tx,Te,Tg] at am;have ih2:=Zdw f (rest.drop ((Lib.index (rest.drop 2) [42,47]).toNat+4));rw [Tx] at ih2;simp only;omega
  simp only;omega
end Go.PM.Lex
end

section
namespace Go.PM
def Zg8 (T:Tab) (tbl:Tbl) (it:ZfF) (gid:FuncId) (fn:Func):ZfF:=fun g args raw σ K=>∃loops,Zpm T tbl it gid fn loops g args raw σ K
def JJ {G : GE} {T : Tab} {tbl : Tbl} (hT : TabOK T G.P) (az : G.P.follows .mixedOrders = true) (ht : TblOK G tbl) (hm : TblM tbl) {it : ZfF} (kc : IterSem G it) {gid : FuncId} {fn : Func} {c : Code} (hf : G.P.funcs[gid]? = some fn) (hb : fn.body = some c) (ao : (fn.name == "runtime.NumGoroutine") = false)
  (au:ZG fn.ntmps c=true):IterSem G (Zg8 T tbl it gid fn):=fun g args raw σ K h=>by
 obtain ⟨loops,h⟩:=h;exact Znn hT az ht hm kc hf hb ao au loops g args raw σ K h
end Go.PM
namespace Go.PM.Lex
open Go.Proofs
variable {w0:World} {nG:Nat}
def ZpA:Zk:=fun args σ K=>match args,σ with
 | [.d (.str s),.d (.int .i64 m)],⟨[],[],0⟩=>K (.ret (.func 269 [] [.ptr 0 0,.ptr 1 0])) ⟨[.cells 9 [.d (.str s)],.cells 3 [.d (.int .i64 m)]],[],0⟩
 | _,_=>False
def Znu:Zx ZpA:=fun args σ K K' hK h=>by
 unfold ZpA at h |-;split at h <;> first | exact hK _ _ h | exact h.elim
def ZAX:PC w0 nG 237 ZpA:=by
 refine pwe Tryz.func237 fun args σ K h=>?_
 unfold ZpA at h
 split at h
 ·rename_i s m
  refine pwv [] 2 false ?_;exact h
 exact h.elim
def Zwu (t:Tok):List D:=[.int .u8 t.kind,.str t.text,.int .i64 t.n,.int .i64 t.at',.int .i64 t.fin]
def Zz (l:List Tok):List (List D):=l.map Zwu
def ZU (l:List Tok):(Zz l).length=l.length:=by simp [Zz]
def ZfK (l:List Tok) (t:Tok):Zz (l++[t])=Zz l++[Zwu t]:=by simp [Zz]
def Zal:Zk:=fun args σ K=>match args,σ with
 | [.d (.str s),.d (.int .i64 m)],⟨[],[],0⟩=>s.length<4294967281 /\
   K (.ret (.tuple [.d (.sl (if (ZeT s m).2.2=0 then Zz (ZeT s m).1 else [])),.d (.int .i64 (ZeT s m).2.1),.d (.int .i64 (ZeT s m).2.2)])) ⟨[],[],0⟩
 | _,_=>False
def Zg9:Tbl:=[(270,Zbf),(271,ZfH)]
def ZDQ:ZfF:=Zg8 VU Zg9 ZfG 269 Tryz.f269
def ZpC (ht:TO w0 nG Zg9):IterSem (GG w0 nG) ZDQ:=JJ Zr mixed ht ⟨Ziy,Zkg,trivial⟩ noIter_sem Tryz.func269 rfl kR kR
def muX (B:Int) (k:Nat):List PV->St->Nat:=fun _ σ=>match σ.bx[k]? with | some (.cells _ (_::.d (.int _ n)::_))=>(B - n).toNat | _=>0
def ZpD (ib:TO w0 nG Zg9) (ht:TO w0 nG [(237,ZpA)]):PC w0 nG 188 Zal:=by
 refine Zkc Zr mixed ht ⟨Znu,trivial⟩ (ZpC ib) Tryz.func188 rfl kR kR ?_;intro args σ K h
 unfold Zal at h
 split at h
 ·rename_i s m
  obtain ⟨hs,h⟩:=h;refine ⟨Zg [],0,false,sM,Tc rfl,wN ?_⟩;intro y r
  refine ⟨Zg [(3,⟨[5],[0,1,2,4],fun vs σ=>∃(l:List Tok) (e f:Nat),vs=[.d (.int .i64 (l.length:Int))] /\
   σ=⟨[.cells 104 [.sl 0 166 []],.cells 3 [.d (.int .i64 0)],.cells 31 [.d (.int .i64 0)],.cells 104 [.sl 1 166 (Zz l)],.cells 9 [.d (.str s)],.cells 3 [.d (.int .i64 m)],.loop .ready none r,.cells 275 [.d (.str s),.d (.int .i64 e)]],[1,0],2⟩ /\
   (e<=s.length/\s.length<e+f/\l.length<=e)/\ZeT s m=(l++(Ug f (m - l.length) e (s.drop e)).1,(Ug f (m - l.length) e (s.drop e)).2),muX s.length 7⟩)],rfl,?_⟩
  conv=>whnf
  refine ⟨⟨[],0,s.length+1,rfl,rfl,⟨oM,oM,sM⟩,by simp [ZeT]⟩,?_⟩;intro vs σ1 hI
  obtain ⟨l,e,f,rfl,rfl,⟨he1,qs,am⟩,dk⟩:=hI;obtain ⟨f,rfl⟩:∃g,f=g+1:=⟨f - 1,oM⟩
  have ct:(YT (s.drop e)).2<=s.length - e:=by have:(YT (s.drop e)).2<=(s.drop e).length:=Zdw _ _;rw [Tx] at this;exact this
  have dl:∀p c:Nat,(Ug (f+1) (m - l.length) e (s.drop e)).2=(p,c)->c≠0->K (.ret (.tuple [.d (.sl []),.d (.int .i64 p),.d (.int .i64 c)])) ⟨[],[],0⟩:=fun p c g1 g2=>by
   have e1:(ZeT s m).2=(p,c):=by rw [dk];exact g1
   rw [e1] at h;simp only at h;rw [Tf g2] at h;exact h
  have ew:Ug (f+1) (m - l.length) e (s.drop e)=([],(0,0))->K (.ret (.tuple [.d (.sl (Zz l)),.d (.int .i64 0),.d (.int .i64 0)])) ⟨[],[],0⟩:=fun g=>by
   rw [dk,g] at h;simp only [TW,if_true] at h;exact h
  conv=>whnf
  refine ⟨⟨oM,oM,oM⟩,wN ?_⟩;generalize wc:(YT (s.drop ((e:Int)).toNat)).2=k;have hk:(YT (s.drop e)).2=k:=wc;rw [hk] at ct;refine ZGj (fun h2=>wN ?_) (fun h2=>wN ?_)
  ·have du:(YT (s.drop e)).1=false:=by simpa using h2
   have g1:Ug (f+1) (m - l.length) e (s.drop e)=([],(e+k,140)):=by rw [Ug,Tj du,hk]
   have g2:=dl _ _ (by rw [g1]) dM;rw [show ((e+k:Nat):Int)=(e:Int)+(k:Int) by omega] at g2;refine ⟨rfl,rfl,rfl,wN ?_⟩;refine ⟨rfl,wN ?_⟩
   iterate 6 (try (refine ⟨rfl,?_⟩;conv=>whnf))
   exact g2
  have du:(YT (s.drop e)).1=true:=by simpa using h2
  have bv:¬(YT (s.drop e)).1=false:=by rw [du];simp
  refine ZGg (fun h3=>wN ?_) (fun h3=>wN ?_)
  ·have fj:(s.drop e).drop k=[]:=by rw [TL];exact Tp oM
   have g1:Ug (f+1) (m - l.length) e (s.drop e)=([],(0,0)):=by rw [Ug,Tf bv,hk,Tj fj]
   exact ew g1
  have aa:e+k<s.length:=by omega
  have ai:¬(s.drop e).drop k=[]:=fun g=>by have:=congrArg List.length g;rw [TL,Tx] at this;simp at this;omega
  have g1:Ug (f+1) (m - l.length) e (s.drop e)=(match JF (e+k) (s.drop (e+k)) (decide ((l.length:Int)<m)) with
    | .bad p e=>([],(p,e))
    | .tok t=>(t::(Ug f (m - l.length - 1) t.fin ((s.drop (e+k)).drop (t.fin - (e+k)))).1,(Ug f (m - l.length - 1) t.fin ((s.drop (e+k)).drop (t.fin - (e+k)))).2)):=by
   rw [Ug,Tf bv,hk,Tf ai,TL,show (decide (0<m - (l.length:Int)))=decide ((l.length:Int)<m) from by rw [decide_eq_decide];omega] <;> rfl
  refine ⟨⟨oM,oM,oM⟩,wN ?_⟩;generalize i7:JF ((e:Int)+(k:Int)).toNat (s.drop ((e:Int)+(k:Int)).toNat) _=x;have hx:JF (e+k) (s.drop (e+k)) (decide ((l.length:Int)<m))=x:=by
   rw [show ((e:Int)+(k:Int)).toNat=e+k by omega] at i7;exact i7
  rw [hx] at g1
  cases x with
  | bad p c =>
   have hc:=Zpz hx;have g2:=dl p c (by rw [g1]) hc.1;(conv=>whnf);refine ⟨rfl,rfl,rfl,wN ?_⟩;refine ⟨rfl,wN ?_⟩;refine ZGi (fun h4=>wN ?_) (fun h4=>?_)
   ·iterate 6 (try (refine ⟨rfl,?_⟩;conv=>whnf))
    exact g2
   exact absurd h4 (by have:((c:Nat):Int)≠0:=oM;exact this)
  | tok t =>
  obtain ⟨ib,mj,ht3⟩:=Zpy hD hx;rw [Tx] at ht3;(conv=>whnf);refine ⟨rfl,rfl,rfl,wN ?_⟩;refine ⟨rfl,wN ?_⟩;refine ⟨fun r hr=>by (simp at hr;subst hr;rfl),(show ((Zz l).length+1) * 48<=2 ^ 47 by rw [ZU];omega),(show (Zz l).length+1<=2 ^ 47 by rw [ZU];omega),wN ?_⟩
  iterate 3 (try (refine ⟨rfl,?_⟩;conv=>whnf))
  refine Zi ?_;refine ⟨⟨l++[t],t.fin,f,?_,?_,⟨oM,oM,by rw [Ta];simp;omega⟩,?_⟩,?_⟩
  ·rw [Ta];rfl
  ·rw [ZfK];rfl
  ·have hd:(s.drop (e+k)).drop (t.fin - (e+k))=s.drop t.fin:=by rw [TL,show e+k+(t.fin - (e+k))=t.fin by omega]
   rw [dk,g1,Ta];simp only [hd,Te,Tg,Int.natCast_add,Int.sub_sub,Tn,T9,Sg];rfl
  exact (show ((s.length:Int) - (t.fin:Int)).toNat<((s.length:Int) - (e:Int)).toNat by omega)
 exact h.elim
end Go.PM.Lex
end

section
namespace Go.PM.Lex
open Go.Proofs
variable {w0:World} {nG:Nat}
def ZAY:Tbl:=[(327,ZDH),(328,Zdv)]
def ZiI (hg:GlobOK w0 nG):PC w0 nG 315 JG:=by
 refine pwt (tbl:=ZAY) ⟨ZDJ,Znt hg,trivial⟩ Tryz.func315 fun args σ K h=>?_
 unfold JG at h
 split at h
 ·rename_i l base bits
  obtain ⟨f8,⟨hl,rfl,rfl⟩,dl,d7⟩:=h;refine pwv [] 0 false ?_;refine ⟨f8,⟨hl,rfl,rfl⟩,fun h0=>?_,fun h0 h1=>?_,fun h0 h1=>?_⟩
  ·conv=>whnf
   refine ⟨⟨.inr rfl,hl.2⟩,wN ?_⟩;exact dl (.inl h0) _
  ·conv=>whnf
   refine ⟨⟨.inl rfl,hl.2⟩,wN ?_⟩;exact dl (.inr h1) _
  conv=>whnf
  exact d7 (by simp only [not_or];exact ⟨h0,h1⟩)
 exact h.elim
def ZpE:PC w0 nG 219 ZbU:=Zwg ⟨Zno,WG,trivial⟩
def ZDR:PC w0 nG 296 Zly:=Zwi ⟨WG,Uh,trivial⟩
def ZAZ:PC w0 nG 221 Zix:=Zwk ⟨ZpE,Zak,Zg0,trivial⟩
def ZA0 (hg:GlobOK w0 nG):PC w0 nG 270 Zbf:=ZsM ⟨Zkf,WG,Uh,ZsJ (by have:=hg.big;omega) hg.maxLen,trivial⟩
def Zwv (hg:GlobOK w0 nG):PC w0 nG 298 ZcC:=Zpt ⟨WG,Zg0,ZiI hg,ZpE,Zak,trivial⟩
def ZiJ:PC w0 nG 287 JH:=YN (Zf Tryz.func287 kR rfl) fun args σ K h e w vs hS ha=>by
 unfold JH at h
 split at h
 ·obtain ⟨u,rfl,hu⟩:=ZeU ha
  cases hu.dint
  exact ⟨_,h,_,fun _ _=>.mkbool,(Tryz.utf8_ValidRune _ w).mono fun en w' ⟨h1,h2⟩=>⟨h1,by rw [h2];exact Grows.refl _⟩⟩
 exact h.elim
def ZfL:PC w0 nG 262 Wl:=ZiG ⟨Uh,ZiJ,trivial⟩
def ZDS:PC w0 nG 297 Zlz:=Zwr ⟨ZfL,ZbZ,ZpE,Zb0,ZiA,trivial⟩
def ZDT (hg:GlobOK w0 nG):PC w0 nG 271 ZfH:=Zwt ⟨ZpE,ZDR,Zak,Zg0,ZDS,Zwv hg,ZAZ,trivial⟩
def ZDU (hg:GlobOK w0 nG):TO w0 nG Zg9:=⟨ZA0 hg,ZDT hg,trivial⟩
def Zww (hg:GlobOK w0 nG):PC w0 nG 188 Zal:=ZpD (ZDU hg) ⟨ZAX,trivial⟩
structure T0 where
 kind:Nat
 text:Bs
 n:Int
 deriving DecidableEq
def Tok.t0 (t:Tok):T0:=⟨t.kind,t.text,t.n⟩
abbrev Ts:=List T0
inductive R (α:Type) where
 | ok (a:α) (ts:Ts) | err (r e:Nat)
def R.bind {α β:Type} (x:R α) (f:α->Ts->R β):R β:=match x with
 | .ok a ts=>f a ts
 | .err r e=>.err r e
@[simp] theorem R.bind_ok {α β:Type} (a:α) (ts:Ts) (f:α->Ts->R β):(R.ok a ts).bind f=f a ts:=rfl
@[simp] theorem R.bind_err {α β:Type} (r e:Nat) (f:α->Ts->R β):(R.err r e:R α).bind f=.err r e:=rfl
inductive Ex where
 | mk (op:Nat) (text:Bs) (n:Int) (args:List Ex) (at':Nat)
inductive Li where
 | mk (op:Nat) (rel:Bs) (args:List Ex) (body:List Li) (at':Nat)
structure Ru where
 head:Bs
 args:List Ex
 body:List Li
 at':Nat
structure Fi where
 name:Bs
 typ:Bs
structure Ca where
 name:Bs
 fields:List Fi
structure Ty where
 kind:Nat
 name:Bs
 base:Bs
 fields:List Fi
 cases:List Ca
 at':Nat
structure Re where
 name:Bs
 fields:List Fi
 inn:Bool
 out:Bool
 inl:Bool
 at':Nat
structure Ini where
 name:Bs
 comp:Bs
 types:List Bs
 at':Nat
structure Ov where
 rel:Bs
 at':Nat
mutual
inductive Un where
 | mk (types:List Ty) (rels:List Re) (rules:List Ru) (comps:List Co) (inits:List Ini) (overs:List Ov)
inductive Co where
 | mk (name:Bs) (params:List Bs) (base:Bs) (types:List Bs) (unit:Un) (at':Nat)
end
def hd (ts:Ts):T0:=match ts with
 | []=>⟨0,[],0⟩
 | t::_=>t
def ZR (s:Bs):Nat :=
 if s=[99,97,116] then 20 else if s=[115,116,114,108,101,110] then 21 else if s=[115,117,98,115,116,114] then 22 else if s=[99,111,100,101] then 23 else if s=[115,116,114] then 24 else if s=[110,117,109] then 25 else 0
def keptWords:List Bs:=[[116,121,112,101],[100,101,99,108],[105,110,112,117,116],[111,117,116,112,117,116],[105,110,108,105,110,101],[99,111,109,112],[105,110,105,116],[111,118,101,114,114,105,100,101],[110,105,108],[99,111,117,110,116],[115,117,109],[109,105,110],[109,97,120],[98,111,114],[98,120,111,114],[98,97,110,100],[115,104,108],[115,104,114]]
def Zbg (s:Bs):Bool:=keptWords.contains s || decide (ZR s≠0)
def isW (ts:Ts) (ws:List Bs):Bool:=(decide ((hd ts).kind=1) || decide ((hd ts).kind=4)) && ws.contains (hd ts).text
def ZE (ts:Ts):Bool:=decide ((hd ts).kind=1) && (!decide ((hd ts).text=[95]) && !Zbg (hd ts).text)
def ZS (ts:Ts):Bool :=
 if (hd ts).kind=2\/(hd ts).kind=3 then true
 else if (hd ts).kind=4 then isW ts [[45],[126],[40],[91],[36]]
 else if (hd ts).kind=1 then !Zbg (hd ts).text || (decide ((hd ts).text=[110,105,108]) || decide (ZR (hd ts).text≠0))
 else false
def Zci (ts:Ts):Nat×Nat :=
 if (hd ts).kind≠1/\(hd ts).kind≠4 then (0,0)
 else if (hd ts).text=[98,111,114] then (1,16) else if (hd ts).text=[98,120,111,114] then (1,17) else if (hd ts).text=[98,97,110,100] then (2,15) else if (hd ts).text=[115,104,108] then (3,18) else if (hd ts).text=[115,104,114] then (3,19)
 else if (hd ts).text=[43] then (4,10) else if (hd ts).text=[45] then (4,11) else if (hd ts).text=[42] then (5,12) else if (hd ts).text=[47] then (5,13) else if (hd ts).text=[37] then (5,14) else (0,0)
def ZP (w:Bs) (ts:Ts):R Unit:=if isW ts [w]=true then .ok () ts.tail else .err ts.length 150
def YO (ts:Ts):R Bs:=if ZE ts=true then .ok (hd ts).text ts.tail else .err ts.length 150
def Zp {α:Type} (d:Nat) (fr tw:Bs) (read:Ts->R α) (ts:Ts):R α :=
 if isW ts [fr]=true then
  (if d=0 then .err ts.length 151 else (read ts.tail).bind fun x ts=>if tw=[] then .ok x ts else (ZP tw ts).bind fun _ ts=>.ok x ts)
 else .err ts.length 150
def Wm {α:Type} (sign:Bs) (ce:Nat) (starts:Ts->Bool) (one:Ts->R α):Nat->List α->Ts->R (List α)
 | 0,_,_=>.err 0 150
 | f+1,l,ts=>if starts ts=true/\l.length=ce then .err ts.length 3
   else (one ts).bind fun x ts=>if isW ts [sign]=true then Wm sign ce starts one f (l++[x]) ts.tail else .ok (l++[x]) ts
def XM {α:Type} (sign:Bs) (ce:Nat) (starts:Ts->Bool) (one:Ts->R α) (ts:Ts):R (List α):=Wm sign ce starts one (ts.length+1) [] ts
def Va (ts:Ts):R Fi:=(YO ts).bind fun a ts=>(ZP [58] ts).bind fun _ ts=>(YO ts).bind fun b ts=>.ok ⟨a,b⟩ ts
def Zbh (fin:Bs) (ts:Ts):R (List Fi):=if isW ts [fin]=true then .ok [] ts else XM [44] 12 ZE Va ts
def ZfM (ts:Ts):R (List Bs):=if isW ts [[60]]=true then (XM [44] 12 ZE YO ts.tail).bind fun l ts=>(ZP [62] ts).bind fun _ ts=>.ok l ts else .ok [] ts
def Zdx (ts:Ts):R Ca:=(YO ts).bind fun a ts=>(ZP [123] ts).bind fun _ ts=>(Zbh [125] ts).bind fun l ts=>(ZP [125] ts).bind fun _ ts=>.ok ⟨a,l⟩ ts
def ZiK (t0:Ts):R Ty:=(YO t0).bind fun nm ts =>
 if isW ts [[60,58]]=true then (YO ts.tail).bind fun b ts=>.ok ⟨1,nm,b,[],[],t0.length⟩ ts
 else (ZP [61] ts).bind fun _ ts =>
  if isW ts [[91]]=true then (Zbh [93] ts.tail).bind fun l ts=>(ZP [93] ts).bind fun _ ts=>.ok ⟨2,nm,[],l,[],t0.length⟩ ts
  else (XM [124] 64 ZE Zdx ts).bind fun l ts=>.ok ⟨3,nm,[],[],l,t0.length⟩ ts
def Y7:Nat->Bool->Bool->Bool->Ts->(Bool×Bool×Bool)×Ts
 | 0,i,o,n,ts=>((i,o,n),ts)
 | f+1,i,o,n,ts=>if i=false/\isW ts [[105,110,112,117,116]]=true then Y7 f true o n ts.tail
   else if o=false/\isW ts [[111,117,116,112,117,116]]=true then Y7 f i true n ts.tail
   else if n=false/\isW ts [[105,110,108,105,110,101]]=true then Y7 f i o true ts.tail
   else ((i,o,n),ts)
def ZpF (t0:Ts):R Re:=(YO t0).bind fun nm ts=>(ZP [40] ts).bind fun _ ts=>(Zbh [41] ts).bind fun l ts=>(ZP [41] ts).bind fun _ ts =>
 .ok ⟨nm,l,(Y7 4 false false false ts).1.1,(Y7 4 false false false ts).1.2.1,(Y7 4 false false false ts).1.2.2,t0.length⟩ (Y7 4 false false false ts).2
def ZiL (d:Nat) (ex:Ts->R Ex) (fr tw:Bs) (ts:Ts):R (List Ex):=Zp d fr tw (fun ts=>if isW ts [tw]=true then .ok [] ts else XM [44] 12 ZS ex ts) ts
def Zam (ex:Ts->R Ex):Nat->List Ex->Ts->R (List Ex)
 | 0,l,ts=>.ok l ts
 | k+1,l,ts=>(if l=[] then .ok () ts else ZP [44] ts).bind fun _ ts=>(ex ts).bind fun e ts=>Zam ex k (l++[e]) ts
def Wn (op:Nat):Nat:=if op=22 then 3 else if op=20 then 2 else 1
def Zan (d:Nat) (ex:Ts->R Ex) (ts:Ts):R Ex :=
 if ZS ts=false then .err ts.length 150
 else if (hd ts).kind=2 then .ok (.mk 3 [] (hd ts).n [] ts.length) ts.tail
 else if (hd ts).kind=3 then .ok (.mk 4 (hd ts).text 0 [] ts.length) ts.tail
 else if (hd ts).text=[40] then Zp d [40] [41] ex ts
 else if (hd ts).text=[91] then (ZiL d ex [91] [93] ts).bind fun l ts'=>.ok (.mk 6 [] 0 l ts.length) ts'
 else if (hd ts).text=[36] then (YO ts.tail).bind fun nm ts'=>if isW ts' [[40]]=true then (ZiL d ex [40] [41] ts').bind fun l ts'=>.ok (.mk 7 nm 0 l ts.length) ts' else .ok (.mk 7 nm 0 [] ts.length) ts'
 else if ZR (hd ts).text≠0 then (Zp d [40] [41] (Zam ex (Wn (ZR (hd ts).text)) []) ts.tail).bind fun l ts'=>.ok (.mk (ZR (hd ts).text) [] 0 l ts.length) ts'
 else if (hd ts).text=[110,105,108] then .ok (.mk 5 [] 0 [] ts.length) ts.tail
 else if (hd ts).text=[95] then .ok (.mk 2 [] 0 [] ts.length) ts.tail
 else .ok (.mk 1 (hd ts).text 0 [] ts.length) ts.tail
def Ex.at':Ex->Nat | .mk _ _ _ _ a=>a
def Zao (sub:Nat->Ts->R Ex) (least:Nat):Nat->Ex->Ts->R Ex
 | 0,_,_=>.err 0 150
 | f+1,e,ts=>if (Zci ts).1<least\/(Zci ts).1=0 then .ok e ts
   else (sub ((Zci ts).1+1) ts.tail).bind fun g ts'=>Zao sub least f (.mk (Zci ts).2 [] 0 [e,g] e.at') ts'
def JK (sg:Ts->R Ex):Nat->Nat->Ts->R Ex
 | 0,_,ts=>sg ts
 | k+1,least,ts=>(sg ts).bind fun e ts=>Zao (JK sg k) least (ts.length+1) e ts
def Zdy (d:Nat) (sg:Ts->R Ex) (ts:Ts):R Ex :=
 if isW ts [[45]]=true then (Zp d [45] [] sg ts).bind fun e ts'=>.ok (.mk 8 [] 0 [e] ts.length) ts'
 else if isW ts [[126]]=true then (Zp d [126] [] sg ts).bind fun e ts'=>.ok (.mk 9 [] 0 [e] ts.length) ts'
 else Zan d (JK sg 6 1) ts
def Xv:Nat->Ts->R Ex
 | 0=>Zdy 0 fun _=>.err 0 150
 | d+1=>Zdy (d+1) (Xv d)
def Zbi (d:Nat) (ts:Ts):R Ex:=JK (Xv d) 6 1 ts
def Zdz:Nat->Ts->R Ex
 | 0=>fun _=>.err 0 150
 | d+1=>Zbi d
def Zb1 (ts:Ts):Nat->List Bs->Option Nat
 | _,[]=>none
 | i,w::ws=>if isW ts [w]=true then some i else Zb1 ts (i+1) ws
def relWords:List Bs:=[[61],[33,61],[60],[60,61],[62],[62,61]]
def aggWords:List Bs:=[[99,111,117,110,116],[115,117,109],[109,105,110],[109,97,120]]
def ZdA (ts:Ts):R Nat:=match Zb1 ts 0 relWords with
 | none=>.err ts.length 150
 | some 0=>match Zb1 ts.tail 0 aggWords with
  | some j=>.ok (9+j) ts.tail.tail
  | none=>.ok 3 ts.tail
 | some k=>.ok (3+k) ts.tail
def ZdB (d op a:Nat) (ts:Ts):R Li:=(YO ts).bind fun nm ts=>(ZiL d (Zdz d) [40] [41] ts).bind fun l ts=>.ok (.mk op nm l [] a) ts
def Wo (d:Nat) (bd:Ts->R (List Li)) (a op:Nat) (l:List Ex) (ts:Ts):R Li :=
 if 9<=op then (ZP [58] ts).bind fun _ ts=>(Zp d [123] [125] bd ts).bind fun b ts=>.ok (.mk op [] l b a) ts
 else .ok (.mk op [] l [] a) ts
def ZlD (d:Nat) (bd:Ts->R (List Li)) (t0:Ts):R Li:=(Zbi d t0).bind fun e ts=>(ZdA ts).bind fun op ts =>
 if op=9 then Wo d bd t0.length op [e] ts else (Zbi d ts).bind fun g ts=>Wo d bd t0.length op [e,g] ts
def Znv (d:Nat) (bd:Ts->R (List Li)) (t0:Ts):R Li :=
 if isW t0 [[33]]=true then ZdB d 2 t0.length t0.tail
 else if ZE t0=true/\(hd t0.tail).kind=4/\(hd t0.tail).text=[40] then ZdB d 1 t0.length t0
 else ZlD d bd t0
def Yc (ts:Ts):Bool:=ZS ts || isW ts [[33]]
def Znw:Nat->Ts->R (List Li)
 | 0=>XM [44] 32 Yc (Znv 0 fun _=>.err 0 150)
 | d+1=>XM [44] 32 Yc (Znv (d+1) (Znw d))
def ZeX:Nat->Ts->R (List Li)
 | 0=>fun _=>.err 0 150
 | d+1=>Znw d
def ZpG (d:Nat) (bodies:Bool) (t0:Ts):R Ru:=(YO t0).bind fun nm ts=>(ZiL d (Zdz d) [40] [41] ts).bind fun l ts =>
 if bodies=true/\isW ts [[58,45]]=true then (Znw d ts.tail).bind fun b ts=>(ZP [46] ts).bind fun _ ts=>.ok ⟨nm,l,b,t0.length⟩ ts
 else (ZP [46] ts).bind fun _ ts=>.ok ⟨nm,l,[],t0.length⟩ ts
def ZpH (d:Nat) (un:Ts->R Un) (t0:Ts):R Co:=(YO t0).bind fun nm ts=>(ZfM ts).bind fun ps ts =>
 if isW ts [[58]]=true then (YO ts.tail).bind fun b ts=>(ZfM ts).bind fun tys ts=>(Zp d [123] [125] un ts).bind fun u ts=>.ok (.mk nm ps b tys u t0.length) ts
 else (Zp d [123] [125] un ts).bind fun u ts=>.ok (.mk nm ps [] [] u t0.length) ts
def ZpI (t0:Ts):R Ini:=(YO t0).bind fun nm ts=>(ZP [61] ts).bind fun _ ts=>(YO ts).bind fun c ts=>(ZfM ts).bind fun tys ts=>.ok ⟨nm,c,tys,t0.length⟩ ts
def ZpJ (t0:Ts):R Ov:=(YO t0).bind fun nm ts=>.ok ⟨nm,t0.length⟩ ts
def XT (inside:Bool) (d:Nat) (un:Ts->R Un):Nat->Un->Ts->R Un
 | 0,_,_=>.err 0 150
 | f+1,.mk tys rels rules comps inits overs,ts =>
  if ts=[]\/(inside=true/\isW ts [[125]]=true) then .ok (.mk tys rels rules comps inits overs) ts
  else if isW ts [[116,121,112,101]]=true then (if tys.length=256 then .err ts.length 3 else (ZiK ts.tail).bind fun x ts=>XT inside d un f (.mk (tys++[x]) rels rules comps inits overs) ts)
  else if isW ts [[100,101,99,108]]=true then (if rels.length=256 then .err ts.length 3 else (ZpF ts.tail).bind fun x ts=>XT inside d un f (.mk tys (rels++[x]) rules comps inits overs) ts)
  else if isW ts [[99,111,109,112]]=true then (if comps.length=64 then .err ts.length 3 else (ZpH d un ts.tail).bind fun x ts=>XT inside d un f (.mk tys rels rules (comps++[x]) inits overs) ts)
  else if isW ts [[105,110,105,116]]=true then (if inits.length=256 then .err ts.length 3 else (ZpI ts.tail).bind fun x ts=>XT inside d un f (.mk tys rels rules comps (inits++[x]) overs) ts)
  else if isW ts [[111,118,101,114,114,105,100,101]]=true then (if overs.length=256 then .err ts.length 3 else (ZpJ ts.tail).bind fun x ts=>XT inside d un f (.mk tys rels rules comps inits (overs++[x])) ts)
  else if ZE ts=true then (if rules.length=1024 then .err ts.length 3 else (ZpG d true ts).bind fun x ts=>XT inside d un f (.mk tys rels (rules++[x]) comps inits overs) ts)
  else .err ts.length 150
def Un.nil:Un:=.mk [] [] [] [] [] []
def Znx (inside:Bool) (d:Nat) (un:Ts->R Un) (ts:Ts):R Un:=XT inside d un (ts.length+1) .nil ts
def ZpK:Nat->Ts->R Un
 | 0=>Znx true 0 fun _=>.err 0 150
 | d+1=>Znx true (d+1) (ZpK d)
def Zbj (ts:Ts):R Un:=Znx false 64 (ZpK 63) ts
end Go.PM.Lex
end
