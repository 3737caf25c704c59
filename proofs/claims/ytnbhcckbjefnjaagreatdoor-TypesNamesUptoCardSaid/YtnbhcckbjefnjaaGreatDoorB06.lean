/- A part of the proof: plain logic, contracts and laws over the given program. -/
import Derived.Test.YtnbhcckbjefnjaaGreatDoorProg
import Derived.Lib.MapLaws
import Derived.Lib.Strings
import Derived.Lib.Bytealg
import Derived.Lib.Index
import Derived.Lib.SlTrimSet
import Derived.Lib.Small
import Derived.Test.YtnbhcckbjefnjaaGreatDoorShelf
import Derived.Shelf.Strings.SlTrimAscii
import Derived.Shelf.Strings.Builder1
import Derived.Shelf.RegionOpenPlain
import Derived.Lib.Walk
import Derived.Lib.UnsafeStr
import Derived.Lib.Builder
import Derived.WalkKit
import Derived.Laws.Externs
import Derived.Lib.IndexAny
import Derived.KernelRfl
import Derived.Test.YtnbhcckbjefnjaaGreatDoorB05
set_option linter.unusedVariables false
set_option linter.unusedSimpArgs false
set_option linter.all false
set_option maxRecDepth 100000
set_option maxHeartbeats 16000000
noncomputable section
section
namespace Go.PM.Lex
open Go.Proofs
abbrev yi:PV:=.d (.int .i64 0)
abbrev yb:PV:=.d (.int .u8 0)
abbrev ys:PV:=.d (.str [])
abbrev yf:PV:=.d (.bool false)
abbrev yp:PV:=.d .nilp
abbrev ya (a b:Nat) (k:TK) (z:D):TI:=⟨a,b,k,[.d z],false⟩
abbrev yr (n:Nat):TI:=⟨1,8,.ptr n,[yp],false⟩
abbrev yl (n:Nat):TI:=⟨1,24,.slice n,[.nils n],false⟩
abbrev yn (n:Nat) (t:TI):Tab:=.node .leaf n t .leaf
def Jy:Tab:=(.node (.node (.node (.node (.node (.node (.node (yn 2 ⟨1,8,.int .i64,[yi],true⟩) 3 ⟨1,8,.int .i64,[yi],true⟩ .leaf) 4 ⟨1,1,.bool,[yf],false⟩ (yn 5 ⟨1,1,.int .u8,[yb],true⟩)) 6 ⟨1,1,.int .u8,[yb],true⟩ (.node (.node (yn 7 ⟨4,24,.struct [(0,2),(1,3),(2,4),(3,6)],[yi,yi,yf,yb],false⟩) 8 ⟨4,24,.struct [(0,2),(1,3),(2,4),(3,6)],[yi,yi,yf,yb],false⟩ .leaf) 9 ⟨1,16,.string,[ys],false⟩ (yn 10 ⟨1,16,.string,[ys],false⟩))) 11 ⟨1,16,.string,[ys],false⟩ (.node (.node (.node (yn 12 ⟨1,8,.int .u64,[.d (.int .u64 (0))],true⟩) 13 ⟨2,24,.struct [(0,9),(1,12)],[ys,.d (.int .u64 (0))],false⟩ .leaf) 14 ⟨2,24,.struct [(0,9),(1,12)],[ys,.d (.int .u64 (0))],false⟩ (yn 15 (yr 373))) 16 (yr 376) (.node (yn 17 (yr 383)) 18 ⟨1,8,.struct [(0,17)],[yp],false⟩ (yn 19 ⟨1,8,.struct [(0,17)],[yp],false⟩)))) 20 ⟨1,16,.iface,[.d .nili],false⟩ (.node (.node (.node (.node (yn 21 ⟨1,4,.int .i32,[.d (.int .i32 (0))],true⟩) 22 (yl 46) .leaf) 23 (yl 51) (yn 24 (yl 32))) 25 ⟨3,72,.struct [(0,22),(1,23),(2,24)],[.nils 46,.nils 51,.nils 32],false⟩ (.node (yn 26 ⟨3,72,.struct [(0,22),(1,23),(2,24)],[.nils 46,.nils 51,.nils 32],false⟩) 29 (yl 55) (yn 30 (yl 57)))) 31 ⟨4,72,.struct [(0,9),(1,29),(2,30),(3,3)],[ys,.nils 55,.nils 57,yi],false⟩ (.node (.node (.node (yn 32 ⟨4,72,.struct [(0,9),(1,29),(2,30),(3,3)],[ys,.nils 55,.nils 57,yi],false⟩) 35 ⟨1,8,.int .i64,[yi],true⟩ .leaf) 38 (yl 9) (yn 39 (yl 3))) 43 (yl 73) (.node (yn 44 (yl 49)) 45 ⟨6,96,.struct [(0,5),(1,9),(2,9),(3,43),(4,44),(5,3)],[yb,ys,ys,.nils 73,.nils 49,yi],false⟩ (yn 46 ⟨6,96,.struct [(0,5),(1,9),(2,9),(3,43),(4,44),(5,3)],[yb,ys,ys,.nils 73,.nils 49,yi],false⟩))))) 48 ⟨2,40,.struct [(0,9),(1,43)],[ys,.nils 73],false⟩ (.node (.node (.node (.node (.node (yn 49 ⟨2,40,.struct [(0,9),(1,43)],[ys,.nils 73],false⟩) 50 ⟨6,56,.struct [(0,9),(1,43),(2,4),(3,4),(4,4),(5,3)],[ys,.nils 73,yf,yf,yf,yi],false⟩ .leaf) 51 ⟨6,56,.struct [(0,9),(1,43),(2,4),(3,4),(4,4),(5,3)],[ys,.nils 73,yf,yf,yf,yi],false⟩ (yn 54 ⟨5,64,.struct [(0,5),(1,9),(2,2),(3,29),(4,3)],[yb,ys,yi,.nils 55,yi],false⟩)) 55 ⟨5,64,.struct [(0,5),(1,9),(2,2),(3,29),(4,3)],[yb,ys,yi,.nils 55,yi],false⟩ (.node (.node (yn 56 ⟨5,80,.struct [(0,5),(1,9),(2,29),(3,30),(4,3)],[yb,ys,.nils 55,.nils 57,yi],false⟩) 57 ⟨5,80,.struct [(0,5),(1,9),(2,29),(3,30),(4,3)],[yb,ys,.nils 55,.nils 57,yi],false⟩ .leaf) 58 (yr 110) (yn 59 ⟨2,16,.struct [(0,3),(1,35)],[yi,yi],false⟩))) 60 ⟨2,16,.struct [(0,3),(1,35)],[yi,yi],true⟩ (.node (.node (.node (yn 63 (yr 71)) 69 ⟨1,8,.map 9 3,[.nilm],false⟩ .leaf) 70 ⟨7,96,.struct [(0,58),(1,32),(5,69),(6,4)],[yp,ys,.nils 55,.nils 57,yi,.nilm,yf],false⟩ (yn 71 ⟨7,96,.struct [(0,58),(1,32),(5,69),(6,4)],[yp,ys,.nils 55,.nils 57,yi,.nilm,yf],false⟩)) 72 ⟨2,32,.struct [(0,9),(1,9)],[ys,ys],false⟩ (.node (yn 73 ⟨2,32,.struct [(0,9),(1,9)],[ys,ys],true⟩) 76 (yl 152) (yn 77 (yl 157))))) 78 (yl 161) (.node (.node (.node (.node (yn 79 ⟨6,144,.struct [(0,22),(1,23),(2,24),(3,76),(4,77),(5,78)],[.nils 46,.nils 51,.nils 32,.nils 152,.nils 157,.nils 161],false⟩) 80 ⟨6,144,.struct [(0,22),(1,23),(2,24),(3,76),(4,77),(5,78)],[.nils 46,.nils 51,.nils 32,.nils 152,.nils 157,.nils 161],false⟩ .leaf) 91 (ya 1 8 .func .nilf) (yn 92 (yr 138))) 98 (yr 104) (.node (yn 99 (yr 102)) 100 (yl 5) (yn 101 ⟨2,32,.struct [(0,99),(1,100)],[yp,.nils 5],false⟩))) 102 ⟨2,32,.struct [(0,99),(1,100)],[yp,.nils 5],false⟩ (.node (.node (.node (yn 103 ⟨2,32,.struct [(0,102)],[yp,.nils 5],false⟩) 104 ⟨2,32,.struct [(0,102)],[yp,.nils 5],false⟩ .leaf) 108 ⟨1,8,.map 9 115,[.nilm],false⟩ (yn 109 ⟨7,104,.struct [(0,69),(1,69),(2,69),(3,108),(4,26)],[.nilm,.nilm,.nilm,.nilm,.nils 46,.nils 51,.nils 32],false⟩)) 110 ⟨7,104,.struct [(0,69),(1,69),(2,69),(3,108),(4,26)],[.nilm,.nilm,.nilm,.nilm,.nils 46,.nils 51,.nils 32],false⟩ (.node (yn 115 ⟨2,16,.array 2 3,[yi,yi],false⟩) 118 ⟨1,8,.map 9 4,[.nilm],false⟩ (yn 121 (ya 1 8 .func .nilf))))))) 133 ⟨1,8,.int .u64,[.d (.int .u64 (0))],true⟩ (.node (.node (.node (.node (.node (.node (yn 134 (yl 196)) 137 ⟨6,64,.struct [(0,134),(1,3),(2,3),(3,3),(4,35),(5,3)],[.nils 196,yi,yi,yi,yi,yi],false⟩ .leaf) 138 ⟨6,64,.struct [(0,134),(1,3),(2,3),(3,3),(4,35),(5,3)],[.nils 196,yi,yi,yi,yi,yi],false⟩ (yn 143 (ya 1 8 .func .nilf))) 146 (ya 1 8 .func .nilf) (.node (.node (yn 147 (ya 1 8 .func .nilf)) 149 (ya 1 8 .func .nilf) .leaf) 151 ⟨11,232,.struct [(0,9),(1,38),(2,9),(3,38),(4,80),(10,3)],[ys,.nils 9,ys,.nils 9,.nils 46,.nils 51,.nils 32,.nils 152,.nils 157,.nils 161,yi],false⟩ (yn 152 ⟨11,232,.struct [(0,9),(1,38),(2,9),(3,38),(4,80),(10,3)],[ys,.nils 9,ys,.nils 9,.nils 46,.nils 51,.nils 32,.nils 152,.nils 157,.nils 161,yi],false⟩))) 154 (ya 1 8 .func .nilf) (.node (.node (.node (yn 156 ⟨4,64,.struct [(0,9),(1,9),(2,38),(3,3)],[ys,ys,.nils 9,yi],false⟩) 157 ⟨4,64,.struct [(0,9),(1,9),(2,38),(3,3)],[ys,ys,.nils 9,yi],false⟩ .leaf) 158 (ya 1 8 .func .nilf) (yn 160 ⟨2,24,.struct [(0,9),(1,3)],[ys,yi],false⟩)) 161 ⟨2,24,.struct [(0,9),(1,3)],[ys,yi],true⟩ (.node (yn 162 (ya 1 8 .func .nilf)) 167 ⟨3,3,.array 3 4,[yf,yf,yf],false⟩ (yn 168 ⟨3,48,.array 3 9,[ys,ys,ys],false⟩)))) 172 (yr 225) (.node (.node (.node (.node (yn 174 (yr 5)) 176 ⟨1,8,.map 9 38,[.nilm],false⟩ .leaf) 185 ⟨1,8,.int .i64,[yi],true⟩ (yn 192 ⟨1,4,.int .u32,[.d (.int .u32 (0))],true⟩)) 194 ⟨1,8,.int .u64,[.d (.int .u64 (0))],true⟩ (.node (yn 195 ⟨5,48,.struct [(0,5),(1,9),(2,2),(3,3),(4,3)],[yb,ys,yi,yi,yi],false⟩) 196 ⟨5,48,.struct [(0,5),(1,9),(2,2),(3,3),(4,3)],[yb,ys,yi,yi,yi],true⟩ (yn 206 (ya 1 8 .func .nilf)))) 208 (ya 1 8 .func .nilf) (.node (.node (.node (yn 209 ⟨1,16,.iface,[.d .nili],false⟩) 210 ⟨1,16,.iface,[.d .nili],false⟩ .leaf) 219 ⟨2,16,.struct [(0,3),(1,35)],[yi,yi],false⟩ (yn 220 ⟨2,16,.struct [(0,3),(1,35)],[yi,yi],true⟩)) 222 ⟨3,40,.struct [(0,134),(1,3),(2,3)],[.nils 196,yi,yi],false⟩ (.node (yn 223 ⟨3,40,.struct [(0,134),(1,3),(2,3)],[.nils 196,yi,yi],false⟩) 224 ⟨4,48,.struct [(0,223),(3,3)],[.nils 196,yi,yi,yi],false⟩ (yn 225 ⟨4,48,.struct [(0,223),(3,3)],[.nils 196,yi,yi,yi],false⟩))))) 232 ⟨1,8,.int .u64,[.d (.int .u64 (0))],true⟩ (.node (.node (.node (.node (.node (yn 236 (yr 3)) 248 (yr 250) .leaf) 249 ⟨2,24,.struct [(0,9),(1,3)],[ys,yi],false⟩ (yn 250 ⟨2,24,.struct [(0,9),(1,3)],[ys,yi],true⟩)) 257 ⟨3,32,.struct [(0,3),(1,9),(2,3)],[yi,ys,yi],false⟩ (.node (yn 258 ⟨3,32,.struct [(0,3),(1,9),(2,3)],[yi,ys,yi],true⟩) 266 ⟨6,96,.array 6 9,[ys,ys,ys,ys,ys,ys],false⟩ (yn 267 ⟨4,64,.array 4 9,[ys,ys,ys,ys],false⟩))) 271 ⟨2,16,.struct [(0,3),(1,35)],[yi,yi],false⟩ (.node (.node (.node (yn 272 ⟨2,16,.struct [(0,3),(1,35)],[yi,yi],true⟩) 273 (yr 223) .leaf) 281 (yr 232) (yn 318 ⟨2,2,.struct [(0,5),(1,5)],[yb,yb],false⟩)) 319 ⟨2,2,.struct [(0,5),(1,5)],[yb,yb],false⟩ (.node (yn 320 ⟨32,32,.array 16 319,(.replicate 32 yb),false⟩) 330 ⟨24,24,.array 24 5,(.replicate 24 yb),false⟩ (yn 340 (yr 336))))) 341 ⟨5,80,.array 5 9,[ys,ys,ys,ys,ys],false⟩ (.node (.node (.node (.node (yn 348 ⟨20,160,.array 20 194,[.d (.int .u64 (0)),.d (.int .u64 (0)),.d (.int .u64 (0)),.d (.int .u64 (0)),.d (.int .u64 (0)),.d (.int .u64 (0)),.d (.int .u64 (0)),.d (.int .u64 (0)),.d (.int .u64 (0)),.d (.int .u64 (0)),.d (.int .u64 (0)),.d (.int .u64 (0)),.d (.int .u64 (0)),.d (.int .u64 (0)),.d (.int .u64 (0)),.d (.int .u64 (0)),.d (.int .u64 (0)),.d (.int .u64 (0)),.d (.int .u64 (0)),.d (.int .u64 (0))],false⟩) 354 ⟨2,24,.struct [(0,9),(1,5)],[ys,yb],false⟩ .leaf) 355 ⟨4,48,.array 2 354,[ys,yb,ys,yb],false⟩ (yn 358 ⟨1,8,.int .i64,[yi],true⟩)) 360 (yr 367) (.node (yn 363 ⟨32,32,.array 32 5,(.replicate 32 yb),false⟩) 364 ⟨64,64,.array 64 5,(.replicate 64 yb),false⟩ (yn 367 ⟨3,48,.struct [(0,9),(1,9),(2,210)],[ys,ys,.d .nili],false⟩))) 369 (yr 371) (.node (.node (.node (yn 371 ⟨1,16,.struct [(0,9)],[ys],false⟩) 373 ⟨4,40,.struct [(0,17),(1,17),(2,17),(3,9)],[yp,yp,yp,ys],false⟩ .leaf) 377 ⟨1,1,.int .u8,[yb],true⟩ (yn 378 ⟨1,1,.int .u8,[yb],true⟩)) 379 (ya 1 8 .func .nilf) (.node (yn 380 ⟨1,4,.int .i32,[.d (.int .i32 (0))],true⟩) 381 ⟨1,4,.int .i32,[.d (.int .i32 (0))],true⟩ (yn 383 ⟨11,48,.struct [(0,12),(1,12),(2,192),(3,377),(4,5),(5,5),(6,378),(7,379),(8,174),(9,380),(10,381)],[.d (.int .u64 (0)),.d (.int .u64 (0)),.d (.int .u32 (0)),yb,yb,yb,yb,.d .nilf,yp,.d (.int .i32 (0)),.d (.int .i32 (0))],false⟩)))))))
def ZI:TabOK Jy Tryz.prog:=by unfold TabOK;kernel_rfl
def mixed:Tryz.prog.follows .mixedOrders=true:=by kernel_rfl
abbrev Bs:=List UInt8
def Zq (c:Int):Bool:=decide (48<=c/\c<=57)
def Zj (c:Int):Bool:=decide (c=95\/128<=c\/(97<=c/\c<=122)\/(65<=c/\c<=90))
def pk (r:Bs):Int×Nat:=if r=[]\/Lib.decodeL r=(65533,1) then (-1,1) else ((Lib.decodeL r).1,(Lib.decodeL r).2)
def YY:Nat->Bs->Nat
 | 0,_=>0
 | f+1,r=>if (pk r).1=46 then (if Zj (pk (r.drop 1)).1=true then (pk r).2+YY f (r.drop (pk r).2) else 0)
   else if Zj (pk r).1=true\/Zq (pk r).1=true then (pk r).2+YY f (r.drop (pk r).2) else 0
def VG (r:Bs):Nat:=YY (r.length+1) r
def ZU:Nat->Bs->Bool×Nat
 | 0,_=>(false,0)
 | f+1,r =>
  let rest:=Lib.trimLeftS r [32,9,13,10]
  let k:=r.length - rest.length
  if Lib.hasPrefix rest [47,47]=true then
   let n:=if Lib.indexByte rest 10<0 then rest.length else (Lib.indexByte rest 10).toNat
   let t:=ZU f (rest.drop n)
   (t.1,k+n+t.2)
  else if Lib.hasPrefix rest [47,42]=true then
   if Lib.index (rest.drop 2) [42,47]<0 then (false,k) else
   let n:=(Lib.index (rest.drop 2) [42,47]).toNat+4
   let t:=ZU f (rest.drop n)
   (t.1,k+n+t.2)
  else (true,k)
def YN (r:Bs):Bool×Nat:=ZU (r.length+1) r
def Wa (fk:Bool) (b:UInt8):Bool:=Zq b.toNat || (fk && decide ((97<=b.toNat/\b.toNat<=102)\/(65<=b.toNat/\b.toNat<=70)))
def Zgn (b:UInt8):Nat:=if b.toNat<=57 then b.toNat - 48 else if b.toNat<=70 then b.toNat - 55 else b.toNat - 87
def WJ (base:Nat) (l:Bs):Nat:=l.foldl (fun n b=>n * base+Zgn b) 0
def Vi (r:Bs):Bool:=Lib.hasPrefix r [48,120]
def Zd (r:Bs):Bs:=(r.drop (if Vi r then 2 else 0)).takeWhile (Wa (Vi r))
def ZE (r:Bs):Nat:=(if Vi r then 2 else 0)+(Zd r).length
def ZZ (r:Bs):Option Nat :=
 if Zd r=[] then none
 else if (if Vi r then 18446744073709551616 else 9223372036854775808)<=WJ (if Vi r then 16 else 10) (Zd r) then none
 else if Zj (pk (r.drop (ZE r))).1=true\/Zq (pk (r.drop (ZE r))).1=true\/(Vi r=true/\16<(Zd r).length) then none
 else some (WJ (if Vi r then 16 else 10) (Zd r))
def ZuT (c:Nat):Option UInt8:=if c=110 then some 10 else if c=116 then some 9 else if c=34 then some 34 else if c=92 then some 92 else none
inductive TR where
 | err (at':Nat) | ok (txt:Bs) (len:Nat)
 deriving DecidableEq
def Z6:Nat->Bs->Bool->Bs->Nat->TR
 | 0,_,_,_,_=>.err 0
 | f+1,r,esc,acc,p =>
  if r=[] then .err 0
  else if esc=true then (match ZuT (Lib.decodeL r).1 with
   | none=>.err (p - 1)
   | some b=>Z6 f (r.drop (Lib.decodeL r).2) false (acc++[b]) (p+(Lib.decodeL r).2))
  else if (Lib.decodeL r).1=34 then .ok acc (p+1)
  else if (Lib.decodeL r).1=92 then Z6 f (r.drop (Lib.decodeL r).2) true acc (p+(Lib.decodeL r).2)
  else if (pk r).1<32 then .err p
  else Z6 f (r.drop (Lib.decodeL r).2) false (acc++Lib.encodeRune (Lib.decodeL r).1) (p+(Lib.decodeL r).2)
def W2 (r:Bs):TR:=Z6 (r.length+1) (r.drop 1) false [] 1
def twos:List Bs:=[[58,45],[33,61],[60,61],[62,61],[60,58]]
def ones:Bs:=[40,41,91,93,123,125,44,46,58,33,61,60,62,43,45,42,47,37,124,36,126]
def XN (r:Bs):Nat:=if twos.any (Lib.hasPrefix r) then 2 else if ones.contains (r.getD 0 0) then 1 else 0
structure Tok where
 kind:Nat
 text:Bs
 n:Int
 at':Nat
 fin:Nat
 deriving DecidableEq
inductive NR where
 | bad (at':Nat) (e:Nat) | tok (t:Tok)
 deriving DecidableEq
def W3 (a:Nat) (r:Bs):NR:=match ZZ r with | none=>.bad a 142 | some n=>.tok ⟨2,[],IntKind.i64.wrap n,a,a+ZE r⟩
def Zem (a:Nat) (r:Bs):NR:=match W2 r with | .err p=>.bad (a+p) 141 | .ok t l=>.tok ⟨3,t,0,a,a+l⟩
def Jz (a:Nat) (r:Bs) (room:Bool):NR :=
 let c:=(pk r).1
 let n:=XN r
 if n=0/\c≠34/\Zj c=false/\Zq c=false then .bad a 140
 else if room=false then .bad a 3
 else if 0<n then .tok ⟨4,r.take n,0,a,a+n⟩
 else if c=34 then Zem a r
 else if Zq c=true then W3 a r
 else .tok ⟨1,r.take (VG r),0,a,a+VG r⟩
def Um:Nat->Int->Nat->Bs->List Tok×(Nat×Nat)
 | 0,_,_,_=>([],(0,0))
 | f+1,ao,a,r =>
  if (YN r).1=false then ([],(a+(YN r).2,140))
  else
   let a:=a+(YN r).2
   let r:=r.drop (YN r).2
   if r=[] then ([],(0,0))
   else match Jz a r (decide (0<ao)) with
    | .bad p e=>([],(p,e))
    | .tok t=>let u:=Um f (ao - 1) t.fin (r.drop (t.fin - a));(t::u.1,u.2)
def Zen (s:Bs) (ao:Int):List Tok×(Nat×Nat):=Um (s.length+1) ao 0 s
end Go.PM.Lex
end

section
noncomputable section
namespace Go.PM.Lex
open Go.Proofs
def kR {P:Prop} (h:P:=by kernel_rfl):P:=h
abbrev GG (w0:World) (nG:Nat):GE:=⟨Tryz.prog,w0,nG⟩
def pc {w0:World} {nG:Nat} {tbl:Tbl} {sp:Zp} {g:FuncId} {fn:Func} {c:Code} (ht:TblOK (GG w0 nG) tbl) (hf:Tryz.prog.funcs[g]?=some fn) (h:∀args σ K,sp args σ K->∃loops keep own,σ.bx.length<=keep/\args.length<=fn.ntmps/\WF (ctx Jy tbl loops) fn keep own args σ K) (hb:fn.body=some c:=by rfl) (hn:(fn.name == "runtime.NumGoroutine") = false:=by kernel_rfl) (hk:ZA fn.ntmps c=true:=by kernel_rfl):PCalls (GG w0 nG) g sp:=ZhO ZI mixed ht hf hb hn hk h
abbrev PC (w0:World) (nG:Nat):=PCalls (GG w0 nG)
abbrev TO (w0:World) (nG:Nat):=TblOK (GG w0 nG)
abbrev OKw (w0:World) (nG:Nat) (T:Tbl) (g:FuncId) (sp:Zp):Prop:=TO w0 nG T->PC w0 nG g sp
def pwt {w0:World} {nG:Nat} {tbl:Tbl} (ht:TO w0 nG tbl) {g:FuncId} {fn:Func} {sp:Zp} (hf:Tryz.prog.funcs[g]?=some fn) (h:∀args σ K,sp args σ K->∃loops keep own,σ.bx.length<=keep/\args.length<=fn.ntmps/\WF (ctx Jy tbl loops) fn keep own args σ K) (hb:fn.body=some (YW fn):=by rfl) (hn:(fn.name=="runtime.NumGoroutine")=false:=by kernel_rfl) (ho:ZA fn.ntmps (YW fn)=true:=by kernel_rfl):PC w0 nG g sp:=ZhO ZI mixed ht hf hb hn ho h
def pwo {w0:World} {nG:Nat} {tbl:Tbl} {g:FuncId} {fn:Func} {sp:Zp} (hf:Tryz.prog.funcs[g]?=some fn) (h:∀args σ K,sp args σ K->∃loops keep own,σ.bx.length<=keep/\args.length<=fn.ntmps/\WF (ctx Jy tbl loops) fn keep own args σ K) (hb:fn.body=some (YW fn):=by rfl) (hn:(fn.name=="runtime.NumGoroutine")=false:=by kernel_rfl) (ho:ZA fn.ntmps (YW fn)=true:=by kernel_rfl):OKw w0 nG tbl g sp:=fun ht=>pwt ht hf h hb hn ho
def pwe {w0:World} {nG:Nat} {g:FuncId} {fn:Func} {sp:Zp} (hf:Tryz.prog.funcs[g]?=some fn) (h:∀args σ K,sp args σ K->∃loops keep own,σ.bx.length<=keep/\args.length<=fn.ntmps/\WF (ctx Jy [] loops) fn keep own args σ K) (hb:fn.body=some (YW fn):=by rfl) (hn:(fn.name=="runtime.NumGoroutine")=false:=by kernel_rfl) (ho:ZA fn.ntmps (YW fn)=true:=by kernel_rfl):PC w0 nG g sp:=pwt (tbl:=[]) trivial hf h hb hn ho
def pwv {T:Tab} {tbl:Tbl} {fn:Func} {args:List PV} {σ:St} {K:PEnd->St->Prop} {Q:Prop} (l:List (Nat×LoopAnn)) (k:Nat) (b:Bool) (q:Q) (h:Q->WF (ctx T tbl (Zo l)) fn k b args σ K:=by intro k;(conv=>whnf);exact k) (h1:σ.bx.length<=k:=by simp) (h2:args.length<=fn.ntmps:=by exact Tc rfl):∃loops keep own,σ.bx.length<=keep/\args.length<=fn.ntmps/\WF (ctx T tbl loops) fn keep own args σ K:=⟨Zo l,k,b,h1,h2,h q⟩
def pwu {T:Tab} {tbl:Tbl} {fn:Func} {args:List PV} {σ:St} {K:PEnd->St->Prop} (l:List (Nat×LoopAnn)) (k:Nat) (b:Bool) (q:WF (ctx T tbl (Zo l)) fn k b args σ K) (h1:σ.bx.length<=k:=by simp) (h2:args.length<=fn.ntmps:=by exact Tc rfl):∃loops keep own,σ.bx.length<=keep/\args.length<=fn.ntmps/\WF (ctx T tbl loops) fn keep own args σ K:=⟨Zo l,k,b,h1,h2,q⟩
def lzI {i n m:Nat} (e:n=m) (h:(i:Int)<(n:Int)):i<m:=by omega
def lzE {i n m:Nat} (e:n=m) (hi:i<=m) (h:¬(i:Int)<(n:Int)):i=m:=by omega
def lzG {i n m:Nat} (e:n=m) (h:¬(i:Int)<(n:Int)):m<=i:=by omega
def lzM {i n:Nat} (h:i<n):((n:Int) - ((i:Int)+1)).toNat<((n:Int) - (i:Int)).toNat:=by omega
def mu1 (n:Nat):List PV->St->Nat:=fun vs _=>match vs with | [.d (.int _ i)]=>((n:Int) - i).toNat | _=>0
def mu2 (n:Nat):List PV->St->Nat:=fun vs _=>match vs with | [_,.d (.int _ i)]=>((n:Int) - i).toNat | _=>0
def Zfb (s:Bs) (pos:Nat):decodeL s pos=Lib.decodeL (s.drop pos):=by
 have:=Lib.decodeL_drop ⟨s.toArray⟩ pos;simpa [decodeL] using this.symm
def Xx:Zp:=fun args σ K=>match args with
 | [.d (.str s),.d (.str p)]=>K (.ret (.d (.bool (Lib.hasPrefix s p)))) σ
 | _=>False
def Wv:Zp:=fun args σ K=>match args with
 | [.d (.str s),.d (.int .u8 c)]=>K (.ret (.d (.int .i64 (Lib.indexByte s c.toNat.toUInt8)))) σ
 | _=>False
def Zjx:Zp:=fun args σ K=>match args with
 | [.d (.str s),.d (.str p)]=>s.length<4294967281/\K (.ret (.d (.int .i64 (Lib.index s p)))) σ
 | _=>False
def Zdb:Zp:=fun args σ K=>match args with
 | [.d (.int .i32 c)]=>K (.ret (.d (.int .i64 (Lib.runeLen c)))) σ
 | _=>False
def Za4:Zp:=fun args σ K=>match args with
 | [.d (.str s),.d (.str p)]=>(p.length<4294967281/\∀(j:Nat) b,p[j]?=some b->b.toNat<128)/\K (.ret (.d (.str (Lib.trimLeftS s p)))) σ
 | _=>False
abbrev Zeo (k:Int) (x:Bs) (n a f:Int):PV:=.agg [.d (.int .u8 k),.d (.str x),.d (.int .i64 n),.d (.int .i64 a),.d (.int .i64 f)]
abbrev ZhP (a e:Int):PV:=.agg [.d (.int .i64 a),.d (.int .i64 e)]
def NR.t:NR->Tok | .bad _ _=>⟨0,[],0,0,0⟩ | .tok t=>t
def NR.p:NR->Nat | .bad p _=>p | .tok _=>0
def NR.e:NR->Nat | .bad _ e=>e | .tok _=>0
abbrev ZBV (x:NR):PV:=.tuple [Zeo x.t.kind x.t.text x.t.n x.t.at' x.t.fin,ZhP x.p x.e]
def UT:Zp:=fun args σ K=>match args,σ with
 | [.d (.int .i32 c)],⟨[],[],0⟩=>(-1<=c/\c<2147483648)/\K (.ret (.d (.bool (Zj c)))) ⟨[],[],0⟩
 | _,_=>False
def Zdc:Zp:=fun args σ K=>match args,σ with
 | [.d (.int .i32 c)],⟨[],[],0⟩=>K (.ret (.d (.bool (Zq c)))) ⟨[],[],0⟩
 | _,_=>False
def ZbI:Zp:=fun args σ K=>match args,σ with
 | [.ptr 0 0,.d (.int .i64 at')],⟨[.cells t [.d (.str s),.d (.int .i64 a)]],[],0⟩=>(0<=at'/\s.length<4611686018427387904) /\
   K (.ret (.tuple [.d (.int .i32 (pk (s.drop at'.toNat)).1),.d (.int .i64 (pk (s.drop at'.toNat)).2)])) ⟨[.cells t [.d (.str s),.d (.int .i64 a)]],[],0⟩
 | _,_=>False
def ZhQ:Zp:=fun args σ K=>match args,σ with
 | [.ptr 0 0],⟨[.cells t [.d (.str s),.d (.int .i64 a)]],[],0⟩=>(0<=a/\a<=s.length/\s.length<4294967281) /\
   K (.ret (Zeo 1 ((s.drop a.toNat).take (VG (s.drop a.toNat))) 0 a (a+VG (s.drop a.toNat)))) ⟨[.cells t [.d (.str s),.d (.int .i64 a)]],[],0⟩
 | _,_=>False
def Za5:Zp:=fun args σ K=>match args,σ with
 | [.ptr 0 0],⟨[.cells t [.d (.str s),.d (.int .i64 a)]],[],0⟩=>(0<=a/\a<=s.length/\s.length<4294967281) /\
   K (.ret (.d (.bool (YN (s.drop a.toNat)).1))) ⟨[.cells t [.d (.str s),.d (.int .i64 (a+(YN (s.drop a.toNat)).2))]],[],0⟩
 | _,_=>False
def ZkN:Zp:=fun args σ K=>match args,σ with
 | [.ptr 0 0],⟨[.cells t [.d (.str s),.d (.int .i64 a)]],[],0⟩=>(0<=a/\a<s.length/\s.length<4294967281) /\
   K (.ret (.d (.int .i64 (XN (s.drop a.toNat))))) ⟨[.cells t [.d (.str s),.d (.int .i64 a)]],[],0⟩
 | _,_=>False
def ZhR:ZG Za5:=fun args σ K K' hK h=>by
 unfold Za5 at h |-;split at h <;> first | exact ⟨h.1,hK _ _ h.2⟩ | exact h.elim
end Go.PM.Lex
end
end

section
noncomputable section
namespace Go.PM
def YI {G:GE} {g:FuncId} {sp:Zp} (jl:WO G.P g)
  (h:∀args σ K,sp args σ K->∀(e:Env) (w:World) (vs:Array Value),SRel G e σ w->ArgsRel G e σ w args vs->∃pv,K (.ret pv) σ/\∃v,(∀w',Grows w w'->VRel G e σ w' pv v)/\Calls G.P g vs w fun en w'=>en=.returned v/\Grows w w'):PCalls G g sp where
 enters:=jl
 calls:=fun args σ K hs n e w vs hS ha=>by
  obtain ⟨pv,hK,v,hv,hc⟩:=h args σ K hs e w vs hS ha;refine CallsIn.mono (callsIn_wide.2 hc) fun en w' ⟨he,hg⟩=>?_
  subst he;exact ⟨.ret pv,σ,e,hK,⟨v,rfl,hv w' hg⟩,hS.grow hg,(hg.stepped e σ).toLater⟩
def ZEN {w w':World} (h:RowKit.Below w.heap.size w w'):Grows w w':=⟨h.os,h.tape,h.output,h.size,h.block⟩
section
variable {G:GE} {e:Env} {σ:St} {w:World} {vs:Array Value}
def Zgo {x:PV} (h:ArgsRel G e σ w [x] vs):∃u,vs=#[u]/\VRel G e σ w x u:=by
 obtain ⟨hs,hr⟩:=h;obtain ⟨l⟩:=vs
 match l,hs with
 | [u],_=>exact ⟨u,rfl,hr 0 x u rfl rfl⟩
def Zjy {x y:PV} (h:ArgsRel G e σ w [x,y] vs):∃u v,vs=#[u,v]/\VRel G e σ w x u/\VRel G e σ w y v:=by
 obtain ⟨hs,hr⟩:=h;obtain ⟨l⟩:=vs
 match l,hs with
 | [u,v],_=>exact ⟨u,v,rfl,hr 0 x u rfl rfl,hr 1 y v rfl rfl⟩
end
end Go.PM
namespace Go.PM.Lex
open Go.Proofs
variable {w0:World} {nG:Nat}
def WS:PC w0 nG 228 Xx:=YI (Ze Tryz.func228 kR rfl) fun args σ K h e w vs hS ha=>by
 unfold Xx at h
 split at h
 ·obtain ⟨u,v,rfl,hu,hv⟩:=Zjy ha
  cases hu.dstr;cases hv.dstr
  exact ⟨_,h,_,fun _ _=>.mkbool,(Tryz.strings_HasPrefix _ _ w).mono fun en w' ⟨h1,h2⟩=>⟨h1,by rw [h2];exact Grows.refl _⟩⟩
 exact h.elim
def Uo:PC w0 nG 263 Wv:=YI (Ze Tryz.func263 kR rfl) fun args σ K h e w vs hS ha=>by
 unfold Wv at h
 split at h
 ·obtain ⟨u,v,rfl,hu,hv⟩:=Zjy ha
  cases hu.dstr;cases hv.dint
  exact ⟨_,h,_,fun _ _=>.mkint,(Tryz.strings_IndexByte _ _ w).mono fun en w' ⟨h1,h2⟩=>⟨h1,by rw [h2];exact Grows.refl _⟩⟩
 exact h.elim
def ZmD:PC w0 nG 227 Zdb:=YI (Ze Tryz.func227 kR rfl) fun args σ K h e w vs hS ha=>by
 unfold Zdb at h
 split at h
 ·obtain ⟨u,rfl,hu⟩:=Zgo ha
  cases hu.dint
  exact ⟨_,h,_,fun _ _=>.mkint,(Tryz.utf8_RuneLen _ w).mono fun en w' ⟨h1,h2⟩=>⟨h1,by rw [h2];exact Grows.refl _⟩⟩
 exact h.elim
def ZrM (h2:2<nG) (hm:∃m,w0.cell? ⟨2,0,none⟩=some (.int .i64 m)):PC w0 nG 272 Zjx:=YI (Ze Tryz.func272 kR rfl) fun args σ K h e w vs hS ha=>by
 unfold Zjx at h
 split at h
 ·rename_i s p
  obtain ⟨u,v,rfl,hu,hv⟩:=Zjy ha
  cases hu.dstr;cases hv.dstr
  obtain ⟨m,hm⟩:=hm;have xc:w.cell? ⟨2,0,none⟩=some (.int .i64 m):=by
   have:=hS.glob 2 h2;simpa [World.cell?,this] using hm
  exact ⟨_,h.2,_,fun _ _=>.mkint,(Tryz.strings_Index ⟨s.toArray⟩ ⟨p.toArray⟩ m w (show s.toArray.size<_ by simpa using h.1) xc).mono fun en w' ⟨h1,h2⟩=>⟨h1,by rw [h2];exact Grows.refl _⟩⟩
 exact h.elim
def Zjz:PC w0 nG 271 Za4:=YI (Ze Tryz.func271 kR rfl) fun args σ K h e w vs hS ha=>by
 unfold Za4 at h
 split at h
 ·rename_i s p
  obtain ⟨u,v,rfl,hu,hv⟩:=Zjy ha
  cases hu.dstr;cases hv.dstr
  refine ⟨_,h.2,_,fun _ _=>.mkstr,(Any.strings_TrimLeft_laid Tryz.lays161 kR ⟨s.toArray⟩ ⟨p.toArray⟩ w (show p.toArray.size<_ by simpa using h.1.1) h.1.2).mono fun en w' ⟨h1,h2⟩=>⟨h1,ZEN h2⟩⟩
 exact h.elim
end Go.PM.Lex
end
end

section
noncomputable section
namespace Go.PM.Lex
open Go.Proofs
def Zh (l:Bs):List (List D):=l.map fun b=>[.int .u8 b.toNat]
def JA:Zp:=fun args σ K=>match args,σ with
 | [.d (.str l),.d (.int .i64 base),.d (.int .i64 bits)],⟨[],[],0⟩=>∃fk:Bool,((l.all (Wa fk)=true/\l.length<4294967281)/\base=(if fk then 16 else 10)/\bits=(if fk then 64 else 63)) /\
   ((l=[]\/(if fk then 18446744073709551616 else 9223372036854775808)<=WJ (if fk then 16 else 10) l)->∀n,K (.ret (.tuple [.d (.int .u64 n),.iface 360 .undef])) ⟨[],[],0⟩) /\
   (¬(l=[]\/(if fk then 18446744073709551616 else 9223372036854775808)<=WJ (if fk then 16 else 10) l)->K (.ret (.tuple [.d (.int .u64 (WJ (if fk then 16 else 10) l)),.d .nili])) ⟨[],[],0⟩)
 | _,_=>False
def VH:Zp:=fun args σ K=>match args,σ with
 | [.ptr 0 0,.d (.int .u8 c)],⟨[.cells t [p,.sl 0 e rows]],[0],1⟩=>((p=.d .nilp\/p=.ptr 0 0)/\t=102/\e=5/\(∀r∈rows,r.length=1)/\rows.length<70368744177664) /\
   K (.ret (.d .nili)) ⟨[.cells t [.ptr 0 0,.sl 0 e (rows++[[.int .u8 c]])]],[0],1⟩
 | _,_=>False
def VI:Zp:=fun args σ K=>match args,σ with
 | [.ptr 0 0,.d (.int .i32 c)],⟨[.cells t [p,.sl 0 e rows]],[0],1⟩=>((p=.d .nilp\/p=.ptr 0 0)/\t=102/\e=5/\(∀r∈rows,r.length=1)/\rows.length<70368744177664/\0<=c/\c<=1114111) /\
   K (.ret (.tuple [.d (.int .i64 (((rows++Zh (Lib.encodeRune c)).length:Int) - (rows.length:Int))),.d .nili])) ⟨[.cells t [.ptr 0 0,.sl 0 e (rows++Zh (Lib.encodeRune c))]],[0],1⟩
 | _,_=>False
def Zco:Zp:=fun args σ K=>match args,σ with
 | [.ptr 0 0],⟨[.cells t [p,.sl 0 e rows]],[0],1⟩=>∃l:Bs,(rows=Zh l/\t=102/\e=5/\(p=.d .nilp\/p=.ptr 0 0)/\l.length<70368744177664)/\K (.ret (.d (.str l))) ⟨[.cells t [p,.d (.sl rows)]],[],0⟩
 | _,_=>False
def Zdd (s:Bs) (c:Int):Int:=if c<128 then Lib.indexByte s c.toNat.toUInt8 else -1
def Ww:Zp:=fun args σ K=>match args,σ with
 | [.d (.str s),.d (.int .i32 c)],⟨[],[],0⟩=>((s=[110,116,34,92]\/s=[10,9,34,92])/\0<=c/\c<=1114111)/\K (.ret (.d (.int .i64 (Zdd s c)))) ⟨[],[],0⟩
 | _,_=>False
def Zcp:Zp:=fun args σ K=>match args,σ with
 | [.ptr 0 0],⟨[.cells t [.d (.str s),.d (.int .i64 a)]],[],0⟩=>(0<=a/\a<s.length/\s.length<4294967281) /\
   K (.ret (ZBV (W3 a.toNat (s.drop a.toNat)))) ⟨[.cells t [.d (.str s),.d (.int .i64 a)]],[],0⟩
 | _,_=>False
def ZkO:Zp:=fun args σ K=>match args,σ with
 | [.ptr 0 0],⟨[.cells t [.d (.str s),.d (.int .i64 a)]],[],0⟩=>(0<=a/\a<s.length/\s.length<4294967281) /\
   K (.ret (ZBV (Zem a.toNat (s.drop a.toNat)))) ⟨[.cells t [.d (.str s),.d (.int .i64 a)]],[],0⟩
 | _,_=>False
def Zfc:Zp:=fun args σ K=>match args,σ with
 | [.ptr 0 0,.d (.bool room)],⟨[.cells t [.d (.str s),.d (.int .i64 a)]],[],0⟩=>(0<=a/\a<s.length/\s.length<4294967281) /\
   K (.ret (ZBV (Jz a.toNat (s.drop a.toNat) room))) ⟨[.cells t [.d (.str s),.d (.int .i64 a)]],[],0⟩
 | _,_=>False
def ZjA:ZG Zfc:=fun args σ K K' hK h=>by
 unfold Zfc at h |-;split at h <;> first | exact ⟨h.1,hK _ _ h.2⟩ | exact h.elim
end Go.PM.Lex
end
end

section
namespace Go.PM
def VJ {G:GE} {g:FuncId} {sp:Zp} (jl:WO G.P g)
  (h:∀args σ K,sp args σ K->∀(e:Env) (w:World) (vs:Array Value),SRel G e σ w->ArgsRel G e σ w args vs->∃pv σ' v,K (.ret pv) σ'/\Calls G.P g vs w fun en w'=>en=.returned v/\VRel G e σ' w' pv v/\SRel G e σ' w'/\Later e σ w e σ' w'):PCalls G g sp where
 enters:=jl
 calls:=fun args σ K hs n e w vs hS ha=>by
  obtain ⟨pv,σ',v,hK,hc⟩:=h args σ K hs e w vs hS ha;refine CallsIn.mono (callsIn_wide.2 hc) fun en w' ⟨he,hv,jb,hL⟩=>?_
  subst he;exact ⟨.ret pv,σ',e,hK,⟨v,rfl,hv⟩,jb,hL⟩
section
variable {G:GE} {T:Tab} {e:Env} {σ:St} {w:World}
def Zde (hT:TabOK T G.P) (hS:SRel G e σ w) {t:TypeId} {b off:Nat} {x:PV} {v:Value} {l cs:List PV} {ty:TypeId} (hb:σ.bx[b]?=some (.cells ty cs)) (hx:VRel G e σ w x v) (hl:x.cells=some l)
  (aa:l.length=(T.get t).size) (nu:off+l.length<=cs.length) (hk:(T.get t).kind≠.other) :
  Stepped e σ w e (σ.set b (.cells ty (ZT cs off l))) (w.setCells (e.β b) off v.cells.toList)/\SRel G e (σ.set b (.cells ty (ZT cs off l))) (w.setCells (e.β b) off v.cells.toList):=by
 obtain ⟨w1,hr,h1,h2⟩:=Jr hT hS hb hx hl aa nu hk;obtain ⟨i,d,z,hi,hd,hs,dq,aw,hz,cq,_⟩:=(hT.get hk).ex;obtain ⟨vs,mg,ph,zf⟩:=hS.box b _ hb;obtain ⟨cz,bw⟩:=Vb hx hl;have zj:v.cells.toList.length=l.length:=by simpa using cz
 have kb:∀u∈v.cells.toList,u.oneCell'=true:=fun u hu=>by
  exact mq148
 have ah:=run_storeCells_cells (P:=G.P) (e.β b) off v.cells.toList 0 w (fun j hj=>by
   have:off+j<vs.size:=oM;simp [World.cell?,mg,this]) (fun j hj=>by simp [World.frozen?,mg]) kb
 simp only [SK] at ah;have dc:(Instr.storeAt t (.pointer (some ⟨e.β b,off,none⟩)) v).run G.P w=.ok () (w.setCells (e.β b) off v.cells.toList):=by
  have nv:v.cells.size=i.size:=by rw [cz,aa,hs]
  exact mq67
 rw [dc] at hr
 cases hr
 exact ⟨h1,h2⟩
end
end Go.PM
namespace Go.PM.Lex
open Go.Proofs Go.Shelf
variable {w0:World} {nG:Nat}
def u50:Tryz.prog.underlying 99=some (.pointer 102):=kR
def u95:Tryz.prog.underlying 297=some .unsafePointer:=kR
def i53:∃j,Tryz.prog.info? 102=some j/\j.size=2:=by
 have h:(Tryz.prog.info? 102).map (·.size)=some 2:=kR
 obtain ⟨j,h1,h2⟩:=TC.1 h;exact ⟨j,h1,h2⟩
def ZyO:liesAt Tryz.prog Tryz.prog.depth 102 (2 / Tryz.prog.cellsOf 102) 0 102 1=true:=kR
def ZhS (b:Nat) (w:World) (h0:w.cell? ⟨b,0,none⟩=some (.pointer (some ⟨b,0,none⟩))) :
  Calls Tryz.prog 200 #[.pointer (some ⟨b,0,none⟩)] w fun e w'=>e=.returned (.tuple #[])/\w'=w:=by
 obtain ⟨j,hj,lf⟩:=i53
 go_enter Tryz.func200,Tryz.ntmps200
 go_wp2
 rw [Go.Lib.run_neq_ptr_same w _ u50 hj]
 go_wp2
 go_end0
 exact ⟨rfl,rfl⟩
def ZmE (b:Nat) (w:World) (h0:w.cell? ⟨b,0,none⟩=some (.pointer none)) (j6:w.shape? b=some (102,2)) (jx:w.frozen? ⟨b,0,none⟩=false) :
  Calls Tryz.prog 200 #[.pointer (some ⟨b,0,none⟩)] w fun e w'=>e=.returned (.tuple #[])/\w'=w.setCell ⟨b,0,none⟩ (.pointer (some ⟨b,0,none⟩)):=by
 obtain ⟨j,hj,lf⟩:=i53
 go_enter Tryz.func200,Tryz.ntmps200
 go_wp2
 rw [Go.Lib.run_to_unsafe w ⟨b,0,none⟩ u50 u95 hj (by rw [lf];decide) j6 (Nat.zero_lt_succ 1)];simp only [Result.andThen];rw [Oper.upon_value]
 go_wp2
 rw [run_callFunc_extern Tryz.func236 kR kR kR (e:=Extern.AbiNoEscape.same) kR];rw [Go.Lib.run_noEscape];simp only [Result.andThen];rw [Oper.upon_value]
 go_wp2
 rw [Go.Lib.run_from_unsafe w ⟨b,0,none⟩ u95 u50 hj j6 ZyO];simp only [Result.andThen];rw [Oper.upon_value]
 go_wp2
 go_end0
 exact ⟨rfl,rfl⟩
def VK:Zp:=fun args σ K=>match args,σ with
 | [.ptr 0 0],⟨[.cells t [p,q]],tk,nx⟩=>((p=.d .nilp\/p=.ptr 0 0)/\t=102)/\K (.ret (.tuple [])) ⟨[.cells t [.ptr 0 0,q]],tk,nx⟩
 | _,_=>False
def ZbJ:PC w0 nG 200 VK:=VJ (Ze Tryz.func200 kR rfl) fun args σ K h e w vs hS ha=>by
 unfold VK at h
 split at h
 ·rename_i t p q tk nx
  obtain ⟨⟨hp,rfl⟩,hK⟩:=h;obtain ⟨u,rfl,hu⟩:=Zgo ha;obtain ⟨cv,cz,bw,js⟩:=hS.box 0 _ rfl;have dj:cv.size=2:=bw;obtain ⟨x0,iz⟩:∃x,cv[0]?=some x:=⟨cv[0]'oM,by simp [dj]⟩
  have lk:=(js 0 p x0 rfl iz).1
  cases hu with
  | ptr b off hb =>
  refine ⟨_,_,.tuple #[],hK,?_⟩;rcases hp with rfl | rfl
  ·cases lk with
   | d _ _ hd =>
   cases hd
   refine Calls.mono (ZmE (e.β 0) w ?_ ?_ ?_) fun en w' ⟨h1,h2⟩=>?_
   ·simp [World.cell?,cz,iz]
   ·simp only [World.shape?,cz,dj]
   ·simp [World.frozen?,cz]
   have hst:=Zde (G:=GG w0 nG) (T:=Jy) ZI hS (t:=99) (b:=0) (off:=0) (x:=.ptr 0 0) (v:=.pointer (some ⟨e.β 0,0,none⟩)) (l:=[.ptr 0 0]) (cs:=[.d .nilp,q]) (ty:=102) rfl (.ptr 0 0 hb) rfl rfl sM (by intro h;cases h);rw [h2];exact ⟨h1,.tuple [] #[] rfl (fun i x u hx=>by simp at hx),hst.2,hst.1.toLater⟩
  exact mq85
 exact h.elim
def ZoI {P:Program} {ρ:Ren} (L:Lays.n169 P ρ) (X:Builder.Extra P ρ) (b g cap:Nat) (p:Value) (cur:Array Value) (fz:Nat×Nat) (l:Bs) (w:World) (h0:l≠[])
  (o7:w.heap[b]?=some (.cells #[p,.slice (some ⟨g,0,none⟩) l.length cap] (ρ.t 72) (0,0))) (hg:w.heap[g]?=some (.cells cur (ρ.t 5) fz)) (hn:l.length<=cur.size) (hcap:cap≠0) (cx:l.length<=9223372036854775807)
  (az:∀j x,l[j]?=some x->w.cell? ⟨g,j,none⟩=some (.int .u8 x.toNat)) :
  Calls P (ρ.f 169) #[.pointer (some ⟨b,0,none⟩)] w fun e w'=>e=.returned (.string ⟨l.toArray⟩)/\w'=w.drew.freeze ⟨g,0,none⟩ l.length:=by
 have c1:w.drew.cell? ⟨b,1,none⟩=some (.slice (some ⟨g,0,none⟩) l.length cap):=by
  have:w.drew.heap[b]?=some (.cells #[p,.slice (some ⟨g,0,none⟩) l.length cap] (ρ.t 72) (0,0)):=o7;rw [Go.Lib.cell_of_heap this];rfl
 have hSD:(Builtin.unsafeSliceData_ #[(ρ.t 37)] (ρ.t 127) #[.slice (some ⟨g,0,none⟩) l.length cap]).run P w.drew=.ok (.pointer (some ⟨g,0,none⟩)) w.drew :=
  Go.Lib.run_unsafeSliceData_row _ _ _ _ _ _ hcap
 have hUS:(Builtin.unsafeString_ #[(ρ.t 127),(ρ.t 3)] (ρ.t 9) #[.pointer (some ⟨g,0,none⟩),.int .i64 l.length]).run P w.drew=.ok (.string ⟨l.toArray⟩) (w.drew.freeze ⟨g,0,none⟩ l.length):=by
  exact mq68
 have mixed:=L.mixed;have t72:=L.t72;have a72:=L.a72;have z72:=L.z72;have v72:=L.v72;have u72:=run_underlying L.t72;have t70:=L.t70;have a70:=L.a70;have z70:=L.z70;have v70:=L.v70;have u70:=run_underlying L.t70;have t37:=L.t37;have a37:=L.a37;have z37:=L.z37;have v37:=L.v37;have u37:=run_underlying L.t37;have t127:=L.t127;have a127:=L.a127;have z127:=L.z127;have v127:=L.v127;have u127:=run_underlying L.t127;have t3:=L.t3;have a3:=L.a3;have z3:=L.z3;have v3:=L.v3;have u3:=run_underlying L.t3;have t9:=L.t9;have a9:=L.a9;have z9:=L.z9;have v9:=L.v9;have u9:=run_underlying L.t9;have t5:=X.t5;have a5:=X.a5;have z5:=X.z5;have v5:=X.v5;have u5:=run_underlying X.t5
 go_enter L.f169,Body.n169_ntmps ρ
 go_wp2
 go_region_o
 all_goals (go_wp2;go_ret;exact ⟨rfl,rfl⟩)
def VL (w:World) (g n k:Nat) (hk:k≠g):(w.drew.freeze ⟨g,0,none⟩ n).heap[k]?=w.heap[k]?:=by
 unfold World.freeze
 split
 ·rfl
 simp only [SC];rw [Tf (fun h=>hk h.symm)];rfl
def ZjB (w:World) (g n:Nat) {cs:Array Value} {ty:TypeId} {fz:Nat×Nat} (h:w.heap[g]?=some (.cells cs ty fz)):∃fz',(w.drew.freeze ⟨g,0,none⟩ n).heap[g]?=some (.cells cs ty fz'):=by
 have h':w.drew.heap[g]?=some (.cells cs ty fz):=h;unfold World.freeze
 split
 ·exact ⟨fz,h'⟩
 simp only [SC,if_true,h',Sb];exact ⟨_,rfl⟩
def ZyP {G:GE} {e:Env} {w w':World} {t:TypeId} {p:PV} {rows:List (List D)} (hp:p=.d .nilp\/p=.ptr 0 0) (hS:SRel G e ⟨[.cells t [p,.sl 0 5 rows]],[0],1⟩ w)
  (hsz:w.heap.size<=w'.heap.size) (pr:w'.os=w.os) (htp:w'.tape=w.tape) (ji:w'.output=w.output)
  (az:∀b off u,w.cell? ⟨b,off,none⟩=some u->w'.cell? ⟨b,off,none⟩=some u)
  (fb:∀b,b<w.heap.size->(∀q,e.M 0=some q->q.1≠b)->w'.heap[b]?=w.heap[b]?) :
  SRel G e ⟨[.cells t [p,.d (.sl rows)]],[],0⟩ w'/\Later e ⟨[.cells t [p,.sl 0 5 rows]],[0],1⟩ w e ⟨[.cells t [p,.d (.sl rows)]],[],0⟩ w':=by
 have hL:Later e ⟨[.cells t [p,.sl 0 5 rows]],[0],1⟩ w e ⟨[.cells t [p,.d (.sl rows)]],[],0⟩ w':={
  len:=Tr _
  beta:=fun _ _=>rfl
  X:=rfl
  pres:=fun b off u hu ho=>⟨⟨ho.1,ho.2.1,(fun x hx=>by cases hx),ho.2.2.2⟩,az b off u hu⟩
  fhid:=fun b h=>.inr (.inr h)
  blocks:=fun b hb h1 h2 _=>fb b hb fun q hq=>h2 0 sM q hq
  size:=hsz
  os:=pr
  tape:=htp
  output:=ji
  fresh:=fun i h1 h2=>by simp at h1 h2;omega
  ftok:=fun x hx=>by cases hx }
 have ab:=hS.lt (i:=0) sM;have oh:w'.heap[e.β 0]?=w.heap[e.β 0]?:=fb _ ab fun q hq=>fun h=>(hS.own 0 sM q hq).2.1 0 sM h.symm
 refine ⟨?_,hL⟩;exact {
  inj:=hS.inj
  box:=fun i x hx=>by
   match i,hx with
   | 0,hx =>
    cases hx
    obtain ⟨cv,h1,h2,h3⟩:=hS.box 0 _ rfl;refine ⟨cv,oh.trans h1,h2,fun j y u hy hu=>?_⟩
    match j,hy with
    | 0,hy =>
     exact mq90
    | 1,hy =>
     cases hy
     obtain ⟨q1,q2⟩:=h3 1 (.sl 0 5 rows) u rfl hu;refine ⟨?_,q2⟩
     cases q1 with
     | sl _ _ _ _ hn hd ht=>exact .d _ _ (hd.later hL)
    | j+2,hy=>simp at hy
   | i+1,hx=>simp at hx
  low:=hS.low
  tkn:=fun x hx=>by cases hx
  own:=fun x hx=>by cases hx
  dis:=fun x y hx=>by cases hx
  xlt:=fun b off hx=>TD (hS.xlt b off hx) hsz
  xown:=fun x hx=>by cases hx
  hid:=fun b q hq=>let ⟨k1,k2,k3,k4,k5⟩:=hS.hid b q hq;⟨k1,TD k2 hsz,k3,(fun x hx=>by cases hx),k5⟩
  glob:=fun b hb=>by
   rw [fb b (TD hb hS.big) fun q hq=>fun h=>by have:=(hS.own 0 sM q hq).1;omega];exact hS.glob b hb
  big:=TZ hS.big hsz }
def Y3 (l:Bs):(Zh l).length=l.length:=by simp [Zh]
def ZyQ:(Tryz.prog.info? 5).map (·.size)=some 1:=kR
def ZhT:PC w0 nG 36 Zco:=VJ (Ze Tryz.func36 kR rfl) fun args σ K h e w vs hS ha=>by
 unfold Zco at h
 split at h
 ·rename_i t p el rows
  obtain ⟨l,⟨rfl,rfl,rfl,hp,cx⟩,hK⟩:=h;obtain ⟨u,rfl,hu⟩:=Zgo ha;obtain ⟨cv,cz,bw,js⟩:=hS.box 0 _ rfl;have dj:cv.size=2:=bw;obtain ⟨v0,v1,rfl⟩:∃v0 v1,cv=#[v0,v1]:=by
   obtain ⟨lst⟩:=cv
   match lst,dj with
   | [a,b],_=>exact ⟨a,b,rfl⟩
  have bi:=(js 1 (.sl 0 5 (Zh l)) v1 rfl rfl).1
  cases hu with
  | ptr b off hb =>
  refine ⟨_,_,.string ⟨l.toArray⟩,hK,?_⟩;have fin:∀w',w.heap.size<=w'.heap.size->w'.os=w.os->w'.tape=w.tape->w'.output=w.output ->
    (∀b off u,w.cell? ⟨b,off,none⟩=some u->w'.cell? ⟨b,off,none⟩=some u) ->
    (∀b,b<w.heap.size->(∀q,e.M 0=some q->q.1≠b)->w'.heap[b]?=w.heap[b]?) ->
    VRel (GG w0 nG) e ⟨[.cells 102 [p,.d (.sl (Zh l))]],[],0⟩ w' (.d (.str l)) (.string ⟨l.toArray⟩)/\SRel (GG w0 nG) e ⟨[.cells 102 [p,.d (.sl (Zh l))]],[],0⟩ w'/\Later e ⟨[.cells 102 [p,.sl 0 5 (Zh l)]],[0],1⟩ w e ⟨[.cells 102 [p,.d (.sl (Zh l))]],[],0⟩ w':=fun w' h1 h2 h3 h4 h5 h6 =>
   ⟨.mkstr,ZyP hp hS h1 h2 h3 h4 h5 h6⟩
  have grown:∀w',Grows w w'->_:=fun w' g=>fin w' g.size g.os g.tape g.output (fun b off u hu=>(g.cell (VA hu)).trans hu) (fun b hb _=>g.old b hb)
  cases bi with
  | sl _ _ _ _ hn hd ht =>
  rcases ht sM with ⟨rfl,bz,hM⟩ | ⟨sz,g1,g2,g3,g,off,cap,cs,ty,fz,rfl,g4,g5,g6,⟨g7,rfl,rfl,g8⟩,g9,hM⟩
  ·have hl:l=[]:=by simpa [Zh] using bz
   subst hl;refine (Any.Builder_String_nil Tryz.lays169 Tryz.Builder_Extra_169 w.heap.size (e.β 0) v0 w cz).mono fun en w' ⟨h1,h2⟩=>?_
   exact ⟨h1,grown w' (ZEN h2)⟩
  have ka:sz=1:=by
   have:(Tryz.prog.info? 5).map (·.size)=some sz:=g1
   rw [ZyQ] at this;cases this;rfl
  subst ka;rw [Y3] at g5 cz g9 hM hd
  by_cases hl:l=[]
  ·subst hl;refine (Any.Builder_String_room Tryz.lays169 Tryz.Builder_Extra_169 w.heap.size (e.β 0) g cap v0 w oM cz).mono fun en w' ⟨h1,h2⟩=>?_
   exact ⟨h1,grown w' (ZEN h2)⟩
  have az:∀j x,l[j]?=some x->w.cell? ⟨g,j,none⟩=some (.int .u8 x.toNat):=by
   exact mq32
  obtain ⟨fz',qf⟩:=ZjB w g l.length g6;refine (ZoI Tryz.lays169 Tryz.Builder_Extra_169 (e.β 0) g cap v0 cs fz l w hl cz g6 oM oM oM az).mono fun en w' ⟨h1,h2⟩=>?_
  rw [h2];refine ⟨h1,fin _ ?_ ?_ ?_ ?_ ?_ ?_⟩
  ·unfold World.freeze;split <;> first | exact Tr _ | (simp only [Array.size_modify];exact Tr _)
  ·exact mq150
  ·exact mq150
  ·exact mq150
  ·exact mq112
  intro b hb hq
  exact VL w g l.length b fun h=>hq _ hM h.symm
 exact h.elim
end Go.PM.Lex
end

section
namespace Go.PM.Lex
open Go.Proofs
variable {w0:World} {nG:Nat}
def orB (n:Fin 128):Zg .or .i32 (n.val:Int) 32=((n.val ||| 32:Nat):Int):=by rw [Yi];revert n;decide +kernel
def orM:Zg .or .i32 (-1) 32=-1:=by rw [Yi];decide +kernel
def orL:∀n:Fin 128,(97<=(n.val ||| 32)/\(n.val ||| 32)<=122)↔((97<=n.val/\n.val<=122)\/(65<=n.val/\n.val<=90)):=by decide +kernel
def ZoJ {c:Int} (h0:-1<=c) (h1:c<128):(97<=Zg .or .i32 c 32/\Zg .or .i32 c 32<=122)↔((97<=c/\c<=122)\/(65<=c/\c<=90)):=by
 by_cases hc:c=-1
 ·subst hc;rw [orM];omega
 obtain ⟨n,rfl⟩:∃n:Nat,c=n:=⟨c.toNat,oM⟩
 have hn:n<128:=oM;have h2:=orB ⟨n,hn⟩;have h3:=orL ⟨n,hn⟩;simp only at h2 h3;rw [h2];omega
def ZkP {K:PEnd->St->Prop} {b b':Bool} {σ:St} (h:K (.ret (.d (.bool b))) σ) (h1:b=b'):K (.ret (.d (.bool b'))) σ:=by subst h1;exact h
def Zgp:PC w0 nG 229 Zdc:=by
 refine ZhO ZI mixed (tbl:=[]) trivial Tryz.func229 rfl kR kR ?_;intro args σ K h
 unfold Zdc at h
 split at h
 ·rename_i c
  refine ⟨Zo [],0,false,dM,Tc rfl,?_⟩;refine ZEH (fun h1=>?_) (fun h1=>?_)
  ·refine ZkP h ?_;simp only [Zq,decide_eq_decide];omega
  refine ZkP h ?_;simp only [Zq,decide_eq_false_iff_not];omega
 exact h.elim
def Zaf:PC w0 nG 187 UT:=by
 refine ZhO ZI mixed (tbl:=[]) trivial Tryz.func187 rfl kR kR ?_;intro args σ K h
 unfold UT at h
 split at h
 ·rename_i c
  obtain ⟨⟨h0,_⟩,h⟩:=h;refine ⟨Zo [],0,false,dM,Tc rfl,?_⟩
  repeat' ((conv=>whnf);refine ZEH (fun h1=>?_) (fun h1=>?_))
  all_goals (conv=>whnf)
  all_goals (try (have hl:=ZoJ (c:=c) h0 oM))
  all_goals (refine ZkP h ?_;simp only [Zj,TQ,decide_eq_false_iff_not,decide_eq_decide];omega)
 exact h.elim
def ZD4 (r:Bs):Lib.hasPrefix r [239,191,189]=true↔2<r.length/\(r.getD 0 0).toNat=239/\(r.getD 1 0).toNat=191/\(r.getD 2 0).toNat=189:=by
 unfold Lib.hasPrefix
 match r with
 | []=>simp
 | [a]=>simp [List.isPrefixOf]
 | [a,b]=>simp [List.isPrefixOf]
 | a::b::c::l =>
  have ha:=UInt8.toNat_inj (a:=239) (b:=a);have hb:=UInt8.toNat_inj (a:=191) (b:=b);have hc:=UInt8.toNat_inj (a:=189) (b:=c);simp only [List.isPrefixOf,Bool.and_true,Tm,beq_iff_eq,Te,SI,SJ];rw [<- ha,<- hb,<- hc];have e1:(239:UInt8).toNat=239:=rfl;have e2:(191:UInt8).toNat=191:=rfl;have e3:(189:UInt8).toNat=189:=rfl;rw [e1,e2,e3];omega
def ZDp (r:Bs) (hv:(Lib.decodeL r).1=65533):(Lib.hasPrefix r [239,191,189]=true/\(Lib.decodeL r).2=3)\/(¬Lib.hasPrefix r [239,191,189]=true/\(Lib.decodeL r).2=1):=by
 rw [ZD4];rw [Lib.decodeL_N] at hv |-;have k0:=(r.getD 0 0).toNat_lt;have k1:=(r.getD 1 0).toNat_lt;have k2:=(r.getD 2 0).toNat_lt;have k3:=(r.getD 3 0).toNat_lt
 by_cases hp:2<r.length/\(r.getD 0 0).toNat=239/\(r.getD 1 0).toNat=191/\(r.getD 2 0).toNat=189
 ·left
  refine ⟨hp,?_⟩;obtain ⟨p0,p1,p2,p3⟩:=hp;rw [p1,p2,p3];unfold Lib.decodeN
  have hl:1<r.length:=oM;simp [p0,hl]
 right
 refine ⟨hp,?_⟩;rcases Lib.decodeN_shape r.length (r.getD 0 0).toNat (r.getD 1 0).toNat (r.getD 2 0).toNat (r.getD 3 0).toNat with ⟨c,e⟩ | ⟨c1,c2,c3,cv,e⟩ | ⟨c1,c2,c3,c4,cv,cs,e⟩ | ⟨c1,c2,c3,c4,c5,cv,cw,e⟩ | e
 all_goals (rw [e] at hv)
 all_goals (dsimp only at hv)
 ·omega
 ·omega
 ·exact absurd ⟨c2,oM,oM,oM⟩ hp
 ·omega
 rw [e]
def ZyR:pk []=(-1,1):=by simp [pk]
def ZrN (r:Bs) (h0:0<r.length) (hv:¬(Lib.decodeL r).1=65533):pk r=(((Lib.decodeL r).1:Int),(Lib.decodeL r).2):=by
 have ai:r≠[]:=fun h=>by subst h;simp at h0
 have:Lib.decodeL r≠(65533,1):=fun h=>hv (by rw [h])
 simp [pk,ai,this]
def ZuU (r:Bs) (h0:0<r.length) (hp:Lib.hasPrefix r [239,191,189]=true) (hv:(Lib.decodeL r).1=65533):pk r=(65533,3):=by
 have ai:r≠[]:=fun h=>by subst h;simp at h0
 rcases ZDp r hv with ⟨_,h2⟩ | ⟨h1,_⟩
 ·have:Lib.decodeL r≠(65533,1):=fun h=>by rw [h] at h2;simp at h2
  simp [pk,ai,this,hv,h2]
 exact absurd hp h1
def ZyS (r:Bs) (hp:¬Lib.hasPrefix r [239,191,189]=true) (hv:(Lib.decodeL r).1=65533):pk r=(-1,1):=by
 rcases ZDp r hv with ⟨h1,h2⟩ | ⟨_,h2⟩
 ·exact absurd h1 hp
 have:Lib.decodeL r=(65533,1):=Prod.ext hv h2;simp [pk,this]
def ZoK (r:Bs):1<=(pk r).2/\(pk r).2<=4:=by
 unfold pk
 split
 ·simp
 rename_i h
 simp only [not_or] at h;simp only;rw [Lib.decodeL_N];rcases Lib.decodeN_shape r.length (r.getD 0 0).toNat (r.getD 1 0).toNat (r.getD 2 0).toNat (r.getD 3 0).toNat with ⟨c,e⟩ | ⟨c1,c2,c3,cv,e⟩ | ⟨c1,c2,c3,c4,cv,cs,e⟩ | ⟨c1,c2,c3,c4,c5,cv,cw,e⟩ | e
 all_goals (rw [e];simp)
def WT (r:Bs):-1<=(pk r).1/\(pk r).1<=1114111:=by
 unfold pk
 split
 ·simp
 simp only;exact mq65
def ZyT (r:Bs) (h:(pk r).1≠-1):1<=(pk r).2/\(pk r).2<=r.length/\r≠[]:=by
 have hl:=ZoK r;unfold pk at h hl |-
 split at h
 ·exact absurd rfl h
 rename_i h1
 simp only [not_or] at h1;rw [Tf (by simp only [not_or];exact h1)] at hl |-;exact ⟨hl.1,Lib.decodeL_le r h1.1,h1.1⟩
def Up {s:Bs} {n:Nat}:cut s n s.length=s.drop n:=by simp [cut]
def ZuW:OKw w0 nG [(227,Zdb),(228,Xx)] 186 ZbI:=by
 refine pwo Tryz.func186 fun args σ K h=>?_
 unfold ZbI at h
 split at h
 ·rename_i at' t s a
  obtain ⟨⟨h0,hs⟩,h⟩:=h;refine pwv [(2,⟨[],[0,1,21],fun vs σ=>vs=[]/\σ=⟨[.cells t [.d (.str s),.d (.int .i64 a)],.iter (s.drop at'.toNat) 0],[],0⟩,fun _ _=>0⟩)] 1 false ?_;have fp:cut s (min at' (s.length:Int)).toNat s.length=s.drop at'.toNat:=by
   rw [Up]
   by_cases hl:at'<=s.length
   ·rw [Int.min_eq_left hl]
   rw [Int.min_eq_right oM,Tv oM,Tv oM]
  refine ⟨oM,wN ?_⟩;refine ⟨oM,wN ?_⟩;refine ⟨⟨rfl,?_⟩,?_⟩
  ·rw [fp];rfl
  intro vs σ1 hI
  obtain ⟨rfl,rfl⟩:=hI;refine ZEH (fun h1=>wN ?_) (fun h1=>wN ?_)
  ·refine ZEJ (fun h2=>wN ?_) (fun h2=>wN ?_)
   ·rw [Zfb] at h2;have hl:0<(s.drop at'.toNat).length:=by simpa using h1
    rw [So] at h2;have ai:¬(Lib.decodeL (s.drop at'.toNat)).1=65533:=oM;rw [ZrN _ hl ai] at h;rw [Zfb,So];have hr:=Lib.runeLen_decode _ ai;rw [hr];exact h
   rw [Zfb] at h2;have hl:0<(s.drop at'.toNat).length:=by simpa using h1
   have hd:(Lib.decodeL (s.drop at'.toNat)).1=65533:=by rw [So] at h2;omega
   refine ⟨h0,by simp at hl;omega,wN ?_⟩;refine ZEL (fun h3=>wN ?_) (fun h3=>wN ?_)
   ·rw [Up] at h3;rw [ZuU _ hl h3 hd] at h;rw [Zfb,So,hd];exact h
   rw [Up] at h3;rw [ZyS _ (by rw [h3];simp) hd] at h;exact h
  have:s.drop at'.toNat=[]:=by simp at h1;exact Tv oM
  rw [this,ZyR] at h;exact h
 exact h.elim
def muI (B:Int):List PV->St->Nat:=fun vs _=>match vs with | .d (.int _ n)::_=>(B - n).toNat | _=>0
def ZuY:OKw w0 nG [(228,Xx),(263,Wv)] 273 ZkN:=by
 refine pwo Tryz.func273 fun args σ K h=>?_
 unfold ZkN at h
 split at h
 ·rename_i t s a
  obtain ⟨⟨h0,h1,hs⟩,h⟩:=h;refine pwv [(3,⟨[16],[0,3,15],fun vs σ=>σ=⟨[.cells t [.d (.str s),.d (.int .i64 a)]],[],0⟩/\∃i:Nat,i<=5/\vs=[.d (.int .i64 i)]/\(twos.take i).any (Lib.hasPrefix (s.drop a.toNat))=false,muI 5⟩)] 1 false ?_;refine ⟨h0,oM,wN ?_⟩;rw [Up];refine ⟨⟨rfl,0,oM,rfl,rfl⟩,?_⟩;intro vs σ1 hI
  obtain ⟨rfl,i,hi,rfl,hn⟩:=hI
  match i,hi,hn with
  | 0,hi,hn =>
   conv=>whnf
   refine ⟨oM,oM,wN ?_⟩;refine ZEL (fun h2=>wN ?_) (fun h2=>wN ?_)
   ·exact mq40
   refine Zi ?_;refine ⟨⟨rfl,1,oM,rfl,?_⟩,?_⟩
   ·have dl:Lib.hasPrefix (s.drop a.toNat) (twos.getD 0 [])=false:=h2;exact mq53
   exact (show (5 - (((0:Nat):Int)+1)).toNat<(5 - ((0:Nat):Int)).toNat by omega)
  | 1,hi,hn =>
   conv=>whnf
   refine ⟨oM,oM,wN ?_⟩;refine ZEL (fun h2=>wN ?_) (fun h2=>wN ?_)
   ·exact mq40
   refine Zi ?_;refine ⟨⟨rfl,2,oM,rfl,?_⟩,?_⟩
   ·have dl:Lib.hasPrefix (s.drop a.toNat) (twos.getD 1 [])=false:=h2;exact mq53
   exact (show (5 - (((1:Nat):Int)+1)).toNat<(5 - ((1:Nat):Int)).toNat by omega)
  | 2,hi,hn =>
   conv=>whnf
   refine ⟨oM,oM,wN ?_⟩;refine ZEL (fun h2=>wN ?_) (fun h2=>wN ?_)
   ·exact mq40
   refine Zi ?_;refine ⟨⟨rfl,3,oM,rfl,?_⟩,?_⟩
   ·have dl:Lib.hasPrefix (s.drop a.toNat) (twos.getD 2 [])=false:=h2;exact mq53
   exact (show (5 - (((2:Nat):Int)+1)).toNat<(5 - ((2:Nat):Int)).toNat by omega)
  | 3,hi,hn =>
   conv=>whnf
   refine ⟨oM,oM,wN ?_⟩;refine ZEL (fun h2=>wN ?_) (fun h2=>wN ?_)
   ·exact mq40
   refine Zi ?_;refine ⟨⟨rfl,4,oM,rfl,?_⟩,?_⟩
   ·have dl:Lib.hasPrefix (s.drop a.toNat) (twos.getD 3 [])=false:=h2;exact mq53
   exact (show (5 - (((3:Nat):Int)+1)).toNat<(5 - ((3:Nat):Int)).toNat by omega)
  | 4,hi,hn =>
   conv=>whnf
   refine ⟨oM,oM,wN ?_⟩;refine ZEL (fun h2=>wN ?_) (fun h2=>wN ?_)
   ·exact mq40
   refine Zi ?_;refine ⟨⟨rfl,5,oM,rfl,?_⟩,?_⟩
   ·have dl:Lib.hasPrefix (s.drop a.toNat) (twos.getD 4 [])=false:=h2;exact mq53
   exact (show (5 - (((4:Nat):Int)+1)).toNat<(5 - ((4:Nat):Int)).toNat by omega)
  | 5,hi,hn =>
   conv=>whnf
   refine ⟨oM,sO,wN ?_⟩;refine ZEH (fun h2=>wN ?_) (fun h2=>wN ?_)
   ·have e:XN (s.drop a.toNat)=1:=by
     have hc:ones.contains ((s.drop a.toNat).getD 0 0)=true:=by
      rw [Lib.contains_iff_indexByte];simpa [ones] using h2
     rw [XN,Tf (by simpa [twos] using hn),Tj hc]
    rw [e] at h;exact h
   have e:XN (s.drop a.toNat)=0:=by
    have hc:ones.contains ((s.drop a.toNat).getD 0 0)=false:=by
     rw [Lib.contains_iff_indexByte];simpa [ones] using h2
    rw [XN,Tf (by simpa [twos] using hn),Tf (by rw [hc];simp)]
   rw [e] at h;exact h
 exact h.elim
def ZbK:Zj (-1)=false:=dM
def Zdf:Zq (-1)=false:=dM
def ZmF {f:Nat} {r:Bs} (h1:(pk r).1=46) (h2:Zj (pk (r.drop 1)).1=true):YY (f+1) r=(pk r).2+YY f (r.drop (pk r).2):=by rw [YY,Tj h1,Tj h2]
def Zgq {f:Nat} {r:Bs} (h1:(pk r).1=46) (h2:Zj (pk (r.drop 1)).1=false):YY (f+1) r=0:=by rw [YY,Tj h1,Tf (by rw [h2];simp)]
def ZhU {f:Nat} {r:Bs} (h1:¬(pk r).1=46) (h2:Zj (pk r).1=true\/Zq (pk r).1=true):YY (f+1) r=(pk r).2+YY f (r.drop (pk r).2):=by rw [YY,Tf h1,Tj h2]
def ZmG {f:Nat} {r:Bs} (h1:¬(pk r).1=46) (h2:Zj (pk r).1=false) (h3:Zq (pk r).1=false):YY (f+1) r=0:=by rw [YY,Tf h1,Tf (by simp [h2,h3])]
def Zgr {s:Bs} {a b:Nat}:cut s a b=(s.drop a).take (b - a):=by simp [cut,List.drop_take]
def Zu0:OKw w0 nG [(186,ZbI),(187,UT),(229,Zdc)] 188 ZhQ:=by
 refine pwo Tryz.func188 fun args σ K h=>?_
 unfold ZhQ at h
 split at h
 ·rename_i t s a
  obtain ⟨⟨h0,h1,hs⟩,h⟩:=h;obtain ⟨a,rfl⟩:∃n:Nat,a=n:=⟨a.toNat,oM⟩
  simp only [Tl] at h;refine pwu [(2,⟨[3],[0,2],fun vs σ=>σ=⟨[.cells t [.d (.str s),.d (.int .i64 a)],.cells 196 [.d (.int .u8 0),.d (.str []),.d (.int .i64 0),.d (.int .i64 0),.d (.int .i64 0)]],[],0⟩ /\
   ∃e f:Nat,a<=e/\e<=s.length/\vs=[.d (.int .i64 e)]/\s.length<e+f/\e+YY f (s.drop e)=a+VG (s.drop a),muI s.length⟩)] 1 false ?_
  conv=>whnf
  refine ⟨⟨rfl,a,s.length - a+1,oM,oM,rfl,oM,by simp [VG]⟩,?_⟩;intro vs σ1 hI
  obtain ⟨rfl,e,f,zw,pu,rfl,hf,hn⟩:=hI;obtain ⟨f,rfl⟩:∃g,f=g+1:=⟨f - 1,oM⟩
  have uc:=WT (s.drop e);have jg:=ZoK (s.drop e);have xd:=ZyT (s.drop e);have vo:=WT (s.drop ((e:Int)+1).toNat);have d7:YY (f+1) (s.drop e)=0->K (.ret (Zeo 1 (cut s a e) 0 a e)) ⟨[.cells t [.d (.str s),.d (.int .i64 a)]],[],0⟩:=fun h3=>by
   have e2:VG (s.drop a)=e - a:=by rw [h3] at hn;omega
   rw [e2,show (a:Int)+((e - a:Nat):Int)=(e:Int) by omega,<- Zgr] at h;exact h
  have gq:∀n:Nat,1<=n->e+n<=s.length->YY (f+1) (s.drop e)=n+YY f ((s.drop e).drop n)->a<=e+n/\e+n<=s.length/\s.length<(e+n)+f/\(e+n)+YY f (s.drop (e+n))=a+VG (s.drop a):=fun n h1 h2 h3=>by
   rw [TL] at h3;exact ⟨oM,h2,oM,by rw [<- hn,h3];omega⟩
  conv=>whnf
  refine ⟨⟨oM,oM⟩,wN ?_⟩;refine ZEH (fun h2=>wN ?_) (fun h2=>wN ?_)
  ·refine Zi ?_;refine ⟨⟨oM,oM⟩,wN ?_⟩;refine ⟨⟨oM,oM⟩,wN ?_⟩;have hw:((e:Int)+1).toNat=e+1:=oM;refine ZEL (fun h3=>wN ?_) (fun h3=>wN ?_)
   ·rw [hw] at h3;refine ⟨oM,oM,oM,wN ?_⟩;exact d7 (Zgq h2 (by rw [TL];simpa using h3))
   rw [hw] at h3;have ai:(pk (s.drop e)).1≠-1:=by have:(pk (s.drop e)).1=46:=h2;omega
   obtain ⟨g1,g2,g3⟩:=xd ai;have g2':e+(pk (s.drop e)).2<=s.length:=by rw [TG] at g2;omega
   refine Or.inl ⟨InR.i64 tN tN,wN ?_⟩;obtain ⟨k1,k2,k3,k4⟩:=gq _ g1 g2' (ZmF h2 (by rw [TL];simpa using h3));exact mq58
  have dl:¬(pk (s.drop e)).1=46:=h2;have fin:∀(h4:Zj (pk (s.drop e)).1=true\/Zq (pk (s.drop e)).1=true),a<=e+(pk (s.drop e)).2/\e+(pk (s.drop e)).2<=s.length/\s.length<(e+(pk (s.drop e)).2)+f/\(e+(pk (s.drop e)).2)+YY f (s.drop (e+(pk (s.drop e)).2))=a+VG (s.drop a):=fun h4=>by
   have ai:(pk (s.drop e)).1≠-1:=fun h5=>by rw [h5,ZbK,Zdf] at h4;simp at h4
   obtain ⟨g1,g2,g3⟩:=xd ai;have g2':e+(pk (s.drop e)).2<=s.length:=by rw [TG] at g2;omega
   exact gq _ g1 g2' (ZhU dl h4)
  refine ⟨⟨uc.1,tN⟩,wN ?_⟩;refine ZEL (fun h3=>wN ?_) (fun h3=>wN ?_)
  ·have ef:Zj (pk (s.drop e)).1=false:=by simpa using h3
   refine ZEL (fun h4=>wN ?_) (fun h4=>wN ?_)
   ·have jt:Zq (pk (s.drop e)).1=false:=by simpa using h4
    refine ⟨oM,oM,oM,wN ?_⟩;exact d7 (ZmG dl ef jt)
   have jt:Zq (pk (s.drop e)).1=true:=by simpa using h4
   obtain ⟨k1,k2,k3,k4⟩:=fin (.inr jt);refine Or.inl ⟨InR.i64 tN tN,wN ?_⟩;exact mq58
  have ef:Zj (pk (s.drop e)).1=true:=by simpa using h3
  obtain ⟨k1,k2,k3,k4⟩:=fin (.inl ef);refine Or.inl ⟨InR.i64 tN tN,wN ?_⟩;exact mq58
 exact h.elim
def ZD5 (B:Int):List PV->St->Nat:=fun _ σ=>match σ.bx with | .cells _ (_::.d (.int _ n)::_)::_=>(B - n).toNat | _=>0
def Uq (p:UInt8->Bool):∀r:Bs,r.dropWhile p=r.drop (r.length - (r.dropWhile p).length)/\(r.dropWhile p).length<=r.length
 | []=>sM
 | x::r=>by
  have ih:=Uq p r
  by_cases hx:p x=true
  ·simp only [List.dropWhile_cons,hx,if_true,Te];refine ⟨?_,oM⟩;rw [show r.length+1 - (r.dropWhile p).length=(r.length - (r.dropWhile p).length)+1 by omega,List.drop_succ_cons];exact ih.1
  simp [List.dropWhile_cons,hx]
def Ur (c:UInt8):∀l:Bs,Lib.indexByte l c<l.length\/Lib.indexByte l c=-1
 | []=>.inr rfl
 | b::l=>by
  have ih:=Ur c l;unfold Lib.indexByte
  split
  ·left;simp
  split
  ·exact .inr rfl
  rename_i h1 h2
  rcases ih with h | h
  ·left;simp;omega
  rw [h] at h2;simp at h2
def Zgs (p:Bs):∀l:Bs,0<=Lib.index l p->Lib.index l p+p.length<=l.length
 | [],h=>by
  unfold Lib.index at h |-
  split at h
  ·rename_i hp
   simp at hp;subst hp;simp
  omega
 | b::l,h=>by
  have ih:=Zgs p l;unfold Lib.index at h |-
  split at h
  ·rename_i hp
   have:=List.IsPrefix.length_le (List.isPrefixOf_iff_prefix.1 hp);simp only [hp,if_true];simp only [Te] at this |-;omega
  split at h
  ·omega
  rename_i h1 h2
  have:=Lib.index_ge l p;have h3:Lib.index l p≠-1:=by simpa using h2
  simp only [h1,h2,Tu,if_false];have:=ih oM;simp only [Te];omega
def Yp {r:Bs} {a b:UInt8} (h:Lib.hasPrefix r [a,b]=true):2<=r.length/\r=a::b::r.drop 2:=by
 obtain ⟨t,rfl⟩:=List.isPrefixOf_iff_prefix.1 h;simp
def Zgt {r:Bs} {a b c:UInt8} (h:Lib.hasPrefix r [a,b]=true) (ha:a≠c) (hb:b≠c) (h0:0<=Lib.indexByte r c):2<=Lib.indexByte r c:=by
 rw [(Yp h).2] at h0 |-;have h1:(a == c)=false:=by simpa using ha
 have h2:(b == c)=false:=by simpa using hb
 have hg:=Lib.indexByte_ge (r.drop 2) c;simp only [Lib.indexByte,h1,h2,Tu,if_false] at h0 |-
 by_cases hm:Lib.indexByte (r.drop 2) c=-1
 ·rw [hm] at h0;simp at h0
 have xc:(Lib.indexByte (r.drop 2) c == -1)=false:=by simpa using hm
 simp only [xc,Tu,if_false] at h0 |-;have:(Lib.indexByte (r.drop 2) c+1 == -1)=false:=sO;simp only [this,Tu,if_false];omega
def ZyU:∀(j:Nat) (b:UInt8),([32,9,13,10]:Bs)[j]?=some b->b.toNat<128
 | 0,b,h=>by simp at h;subst h;decide
 | 1,b,h=>by simp at h;subst h;decide
 | 2,b,h=>by simp at h;subst h;decide
 | 3,b,h=>by simp at h;subst h;decide
 | j+4,b,h=>by simp at h
def ZrP:OKw w0 nG [(271,Za4),(228,Xx),(263,Wv),(272,Zjx)] 241 Za5:=by
 refine pwo Tryz.func241 fun args σ K h=>?_
 unfold Za5 at h
 split at h
 ·rename_i t s a
  obtain ⟨⟨h0,h1,hs⟩,h⟩:=h;obtain ⟨a,rfl⟩:∃n:Nat,a=n:=⟨a.toNat,oM⟩
  simp only [Tl] at h;refine pwu [(1,⟨[],[0],fun vs σ=>vs=[] /\
   ∃e f:Nat,σ=⟨[.cells t [.d (.str s),.d (.int .i64 e)]],[],0⟩/\a<=e/\e<=s.length/\s.length<e+f/\(ZU f (s.drop e)).1=(YN (s.drop a)).1/\e+(ZU f (s.drop e)).2=a+(YN (s.drop a)).2,ZD5 s.length⟩)] 1 false ?_
  conv=>whnf
  refine ⟨⟨rfl,a,s.length - a+1,rfl,oM,oM,oM,by simp [YN],by simp [YN]⟩,?_⟩;intro vs σ1 hI
  obtain ⟨rfl,e,f,rfl,zw,pu,hf,ew,ia⟩:=hI;obtain ⟨f,rfl⟩:∃g,f=g+1:=⟨f - 1,oM⟩
  conv=>whnf
  refine ⟨oM,oM,wN ?_⟩;refine ⟨⟨dM,ZyU⟩,wN ?_⟩;generalize oi:Lib.trimLeftS (cut s _ _) _=rest;have am:Lib.trimLeftS (s.drop e) [32,9,13,10]=rest:=by rw [Up] at oi;exact oi
  have zx:=Uq (([32,9,13,10]:Bs).contains ·) (s.drop e)
  have bi:rest=(s.drop e).drop ((s.drop e).length - rest.length):=by rw [<- am];exact zx.1
  have dc:rest.length<=(s.drop e).length:=by rw [<- am];exact zx.2
  rw [TG] at dc;have ud:rest=s.drop (s.length - rest.length):=by
   rw [TL,TG,show e+(s.length - e - rest.length)=s.length - rest.length by omega] at bi;exact bi
  have hk:(s.drop e).length - rest.length=s.length - rest.length - e:=hD;have gq:∀n:Nat,1<=n->n<=rest.length->ZU (f+1) (s.drop e)=((ZU f (rest.drop n)).1,(s.drop e).length - rest.length+n+(ZU f (rest.drop n)).2) ->
    a<=s.length - rest.length+n/\s.length - rest.length+n<=s.length/\s.length<(s.length - rest.length+n)+f/\(ZU f (s.drop (s.length - rest.length+n))).1=(YN (s.drop a)).1/\(s.length - rest.length+n)+(ZU f (s.drop (s.length - rest.length+n))).2=a+(YN (s.drop a)).2:=fun n g1 g2 g3=>by
   have g4:rest.drop n=s.drop (s.length - rest.length+n):=by rw [<- TL,<- ud]
   rw [g3,g4] at ew ia;simp only at ew ia;exact ⟨oM,oM,oM,ew,oM⟩
  have d7:∀b:Bool,ZU (f+1) (s.drop e)=(b,(s.drop e).length - rest.length)->K (.ret (.d (.bool b))) ⟨[.cells t [.d (.str s),.d (.int .i64 ((s.length:Int) - rest.length))]],[],0⟩:=fun b g=>by
   rw [g] at ew ia;simp only at ew ia;rw [<- ew,show (a:Int)+((YN (s.drop a)).2:Int)=(s.length:Int) - rest.length by omega] at h;exact h
  have bg1:Lib.hasPrefix rest [47,47]=true->ZU (f+1) (s.drop e)=((ZU f (rest.drop (if Lib.indexByte rest 10<0 then rest.length else (Lib.indexByte rest 10).toNat))).1,(s.drop e).length - rest.length+(if Lib.indexByte rest 10<0 then rest.length else (Lib.indexByte rest 10).toNat)+(ZU f (rest.drop (if Lib.indexByte rest 10<0 then rest.length else (Lib.indexByte rest 10).toNat))).2):=fun g=>by
   simp only [ZU,am,g,if_true]
  have bg2:Lib.hasPrefix rest [47,47]=false->Lib.hasPrefix rest [47,42]=true->Lib.index (rest.drop 2) [42,47]<0->ZU (f+1) (s.drop e)=(false,(s.drop e).length - rest.length):=fun g1 g2 g3=>by
   simp only [ZU,am,g1,g2,g3,if_true,Tu,if_false]
  have bg3:Lib.hasPrefix rest [47,47]=false->Lib.hasPrefix rest [47,42]=true->¬Lib.index (rest.drop 2) [42,47]<0->ZU (f+1) (s.drop e)=((ZU f (rest.drop ((Lib.index (rest.drop 2) [42,47]).toNat+4))).1,(s.drop e).length - rest.length+((Lib.index (rest.drop 2) [42,47]).toNat+4)+(ZU f (rest.drop ((Lib.index (rest.drop 2) [42,47]).toNat+4))).2):=fun g1 g2 g3=>by
   simp only [ZU,am,g1,g2,g3,if_true,Tu,if_false]
  have bg4:Lib.hasPrefix rest [47,47]=false->Lib.hasPrefix rest [47,42]=false->ZU (f+1) (s.drop e)=(true,(s.drop e).length - rest.length):=fun g1 g2=>by
   simp only [ZU,am,g1,g2,Tu,if_false]
  refine Zi ?_;refine ZEL (fun h2=>wN ?_) (fun h2=>wN ?_)
  ·have dl:Lib.hasPrefix rest [47,47]=true:=h2;have o9:=(Yp dl).1;have bg:=bg1 dl;have i6:=Lib.indexByte_ge rest 10;have ab:=Ur 10 rest;have h22:=Zgt (c:=10) dl dM dM;refine ZEH (fun h3=>wN ?_) (fun h3=>wN ?_)
   ·have ef:Lib.indexByte rest 10<0:=h3;simp only [ef,if_true] at bg;refine Zi ?_;obtain ⟨k1,k2,k3,k4,k5⟩:=gq _ oM oM bg;refine ⟨⟨rfl,_,f,?_,k1,k2,k3,k4,k5⟩,?_⟩
    ·rw [show (s.length:Int) - (rest.length:Int)+(rest.length:Int)=((s.length - rest.length+rest.length:Nat):Int) by omega];rfl
    exact (show ((s.length:Int) - ((s.length:Int) - (rest.length:Int)+(rest.length:Int))).toNat<((s.length:Int) - (e:Int)).toNat by omega)
   have ef:¬Lib.indexByte rest 10<0:=h3;simp only [ef,if_false] at bg;obtain ⟨n,hn⟩:∃n:Nat,Lib.indexByte rest 10=n:=⟨(Lib.indexByte rest 10).toNat,oM⟩
   have sq:Lib.indexByte rest ((10:Int).toNat.toUInt8)=n:=hn;rw [sq];rw [hn] at h22 ab;rw [hn,Tl] at bg;refine Zi ?_;obtain ⟨k1,k2,k3,k4,k5⟩:=gq _ oM oM bg;refine ⟨⟨rfl,_,f,?_,k1,k2,k3,k4,k5⟩,?_⟩
   ·rw [show (s.length:Int) - (rest.length:Int)+(n:Int)=((s.length - rest.length+n:Nat):Int) by omega];rfl
   exact (show ((s.length:Int) - ((s.length:Int) - (rest.length:Int)+(n:Int))).toNat<((s.length:Int) - (e:Int)).toNat by omega)
  have dl:Lib.hasPrefix rest [47,47]=false:=h2;refine ZEL (fun h3=>wN ?_) (fun h3=>wN ?_)
  ·have ef:Lib.hasPrefix rest [47,42]=true:=h3;have o9:=(Yp ef).1;refine ⟨oM,oM,wN ?_⟩;rw [Up];have jo:(rest.drop 2).length=rest.length - 2:=sM;refine ⟨by have:(rest.drop ((2:Int).toNat)).length=rest.length - 2:=jo;omega,wN ?_⟩;have i6:=Lib.index_ge (rest.drop 2) [42,47];have ak:=Zgs [42,47] (rest.drop 2);simp only [Te,Tg,jo] at ak;refine ZEH (fun h4=>wN ?_) (fun h4=>wN ?_)
   ·exact d7 _ (bg2 dl ef h4)
   have jt:¬Lib.index (rest.drop 2) [42,47]<0:=h4;have bg:=bg3 dl ef jt;obtain ⟨n,hn⟩:∃n:Nat,Lib.index (rest.drop 2) [42,47]=n:=⟨(Lib.index (rest.drop 2) [42,47]).toNat,oM⟩
   generalize hi:Lib.index _ _=i;have em:i=n:=by rw [<- hi];exact hn
   subst em;rw [hn] at ak;rw [hn,Tl] at bg;refine Zi ?_;refine Zi ?_;obtain ⟨k1,k2,k3,k4,k5⟩:=gq _ oM oM bg;refine ⟨⟨rfl,_,f,?_,k1,k2,k3,k4,k5⟩,?_⟩
   ·rw [show (s.length:Int) - (rest.length:Int)+((n:Int)+4)=((s.length - rest.length+(n+4):Nat):Int) by omega];rfl
   exact (show ((s.length:Int) - ((s.length:Int) - (rest.length:Int)+((n:Int)+4))).toNat<((s.length:Int) - (e:Int)).toNat by omega)
  exact d7 _ (bg4 dl h3)
 exact h.elim
def orU (n:Fin 256):Zg .or .u8 (n.val:Int) 32=((n.val ||| 32:Nat):Int):=by rw [Yi];revert n;decide +kernel
def orH:∀n:Fin 256,(97<=(n.val ||| 32)/\(n.val ||| 32)<=102)↔((97<=n.val/\n.val<=102)\/(65<=n.val/\n.val<=70)):=by decide +kernel
def ZyV (b:UInt8):(97<=Zg .or .u8 (b.toNat:Int) 32/\Zg .or .u8 (b.toNat:Int) 32<=102)↔((97<=b.toNat/\b.toNat<=102)\/(65<=b.toNat/\b.toNat<=70)):=by
 have h2:=orU ⟨b.toNat,b.toNat_lt⟩;have h3:=orH ⟨b.toNat,b.toNat_lt⟩;simp only at h2 h3;rw [h2];omega
def W4 (p:UInt8->Bool):∀l:Bs,l.takeWhile p=l.take (l.takeWhile p).length
 | []=>rfl
 | x::l=>by
  by_cases h:p x=true
  ·simp only [Ss,h,if_true,Te,List.take_succ_cons];rw [<- W4 p l]
  simp [Ss,h]
def VM (p:UInt8->Bool):∀l:Bs,(l.takeWhile p).all p=true
 | []=>rfl
 | x::l=>by
  by_cases h:p x=true
  ·simp only [Ss,h,if_true,List.all_cons,VM p l,Bool.and_self]
  simp [Ss,h]
def Us (p:UInt8->Bool) (l:Bs):(l.takeWhile p).length<=l.length:=List.Sublist.length_le (List.takeWhile_sublist p)
def ZoL {s:Bs} {e:Nat} (h:e<s.length):s.drop e=s.getD e 0::s.drop (e+1):=by
 rw [Tn h];simp [List.getD,h]
def ZoN:OKw w0 nG [(228,Xx),(229,Zdc),(293,JA),(186,ZbI),(187,UT)] 275 Zcp:=by
 refine pwo Tryz.func275 fun args σ K h=>?_
 unfold Zcp at h
 split at h
 ·rename_i t s a
  obtain ⟨⟨h0,h1,hs⟩,h⟩:=h;obtain ⟨a,rfl⟩:∃n:Nat,a=n:=⟨a.toNat,oM⟩
  simp only [Tl] at h;refine pwu [(5,⟨[5],[0,2,3,4,6],fun vs σ=>σ=⟨[.cells t [.d (.str s),.d (.int .i64 a)],.cells 196 [.d (.int .u8 0),.d (.str []),.d (.int .i64 0),.d (.int .i64 0),.d (.int .i64 0)],.cells 272 [.d (.int .i64 0),.d (.int .i64 0)]],[],0⟩ /\
   ∃e:Nat,vs=[.d (.int .i64 e)]/\a+(if Vi (s.drop a) then 2 else 0)<=e/\e<=s.length/\e - (a+(if Vi (s.drop a) then 2 else 0))+((s.drop e).takeWhile (Wa (Vi (s.drop a)))).length=(Zd (s.drop a)).length,muI s.length⟩)] 1 false ?_
  have cy:ZZ (s.drop a)=none->K (.ret (.tuple [Zeo 0 [] 0 0 0,ZhP a 142])) ⟨[.cells t [.d (.str s),.d (.int .i64 a)]],[],0⟩:=fun g=>by
   have e1:W3 a (s.drop a)=.bad a 142:=by rw [W3,g]
   rw [e1] at h;exact h
  have dv:∀n:Nat,ZZ (s.drop a)=some n->K (.ret (.tuple [Zeo 2 [] (IntKind.i64.wrap n) a ((a+ZE (s.drop a):Nat):Int),ZhP 0 0])) ⟨[.cells t [.d (.str s),.d (.int .i64 a)]],[],0⟩:=fun n g=>by
   have e1:W3 a (s.drop a)=.tok ⟨2,[],IntKind.i64.wrap n,a,a+ZE (s.drop a)⟩:=by rw [W3,g]
   rw [e1] at h;exact h
  conv=>whnf
  refine ⟨oM,oM,wN ?_⟩;rw [Up];refine ZEL (fun hx=>?_) (fun hx=>?_)
  ·have f7:Vi (s.drop a)=true:=hx;simp only [f7,if_true,Tu,if_false];have f8:Zd (s.drop a)=(s.drop (a+2)).takeWhile (Wa true):=by simp [Zd,f7,TL]
   have mo:ZE (s.drop a)=2+(Zd (s.drop a)).length:=by simp [ZE,f7]
   have gl:=(Yp hx).1;rw [TG] at gl;(conv=>whnf);refine Zi ?_;refine ⟨⟨rfl,(a+2),rfl,oM,oM,by rw [f8];simp⟩,?_⟩;intro vs σ1 hI
   obtain ⟨rfl,e,rfl,zw,pu,hn⟩:=hI;have fj:∀(g:((s.drop e).takeWhile (Wa true)).length=0),e=a+ZE (s.drop a)/\Zd (s.drop a)=cut s (a+2) e:=fun g=>by
    rw [g] at hn;refine ⟨oM,?_⟩;rw [Zgr,show e - (a+2)=(Zd (s.drop a)).length by omega,f8];exact W4 _ _
   have cf:(Zd (s.drop a)).all (Wa true)=true:=by rw [f8];exact VM _ _
   have xe:(Zd (s.drop a)).length<=s.length:=by
    rw [f8];have:=Us (Wa true) (s.drop (a+2));rw [TG] at this;omega
   conv=>whnf
   refine ZEH (fun h2=>wN ?_) (fun h2=>wN ?_)
   ·have dl:e<s.length:=by omega
    have il:=ZoL dl;have hb:=(s.getD e 0).toNat_lt;have bj:Wa true (s.getD e 0)=true->e+1 - (a+2)+((s.drop (e+1)).takeWhile (Wa true)).length=(Zd (s.drop a)).length:=fun g=>by
     rw [<- hn,il,Ss,Tj g,Te];omega
    have ma:Wa true (s.getD e 0)=false->((s.drop e).takeWhile (Wa true)).length=0:=fun g=>by
     rw [il,Ss,Tf (by rw [g];simp)];rfl
    refine ⟨oM,oM,wN ?_⟩;refine Or.inl ⟨InR.i32 oM tN,wN ?_⟩;refine ZEL (fun h3=>wN ?_) (fun h3=>wN ?_)
    ·exact mq78
    have ef:Zq ((s.getD e 0).toNat:Int)=false:=h3;have hoh:=ZyV (s.getD e 0);refine ZEH (fun h4=>wN ?_) (fun h4=>wN ?_)
    ·refine ZEH (fun h5=>wN ?_) (fun h5=>wN ?_)
     ·have hd:Wa true (s.getD e 0)=true:=by
       have:=hoh.1 ⟨h4,h5⟩;simp only [Wa,ef,Bool.false_or,TV,TQ];omega
      refine Zi ?_;refine ⟨⟨rfl,e+1,rfl,oM,oM,bj hd⟩,?_⟩;exact (show ((s.length:Int) - ((e:Int)+1)).toNat<((s.length:Int) - (e:Int)).toNat by omega)
     have hd:Wa true (s.getD e 0)=false:=by
      have:¬((97<=(s.getD e 0).toNat/\(s.getD e 0).toNat<=102)\/(65<=(s.getD e 0).toNat/\(s.getD e 0).toNat<=70)):=fun g=>h5 (hoh.2 g).2
      simp only [Wa,ef,Bool.false_or,TV,decide_eq_false_iff_not];exact this
     have hst:=fj (ma hd);exact mq2
    have hd:Wa true (s.getD e 0)=false:=by
     have:¬((97<=(s.getD e 0).toNat/\(s.getD e 0).toNat<=102)\/(65<=(s.getD e 0).toNat/\(s.getD e 0).toNat<=70)):=fun g=>h4 (hoh.2 g).1
     simp only [Wa,ef,Bool.false_or,TV,decide_eq_false_iff_not];exact this
    have hst:=fj (ma hd);exact mq2
   have j7:((s.drop e).takeWhile (Wa true)).length=0:=by rw [Tv oM];rfl
   have hst:=fj (j7);exact mq2
  have f7:Vi (s.drop a)=false:=hx;simp only [f7,if_true,Tu,if_false];have f8:Zd (s.drop a)=(s.drop (a+0)).takeWhile (Wa false):=by simp [Zd,f7,TL]
  have mo:ZE (s.drop a)=0+(Zd (s.drop a)).length:=by simp [ZE,f7]
  conv=>whnf
  refine ⟨⟨rfl,a,rfl,oM,oM,by rw [f8];simp⟩,?_⟩;intro vs σ1 hI
  obtain ⟨rfl,e,rfl,zw,pu,hn⟩:=hI;have fj:∀(g:((s.drop e).takeWhile (Wa false)).length=0),e=a+ZE (s.drop a)/\Zd (s.drop a)=cut s (a+0) e:=fun g=>by
   rw [g] at hn;refine ⟨oM,?_⟩;rw [Zgr,show e - (a+0)=(Zd (s.drop a)).length by omega,f8];exact W4 _ _
  have cf:(Zd (s.drop a)).all (Wa false)=true:=by rw [f8];exact VM _ _
  have xe:(Zd (s.drop a)).length<=s.length:=by
   rw [f8];have:=Us (Wa false) (s.drop (a+0));rw [TG] at this;omega
  conv=>whnf
  refine ZEH (fun h2=>wN ?_) (fun h2=>wN ?_)
  ·have dl:e<s.length:=by omega
   have il:=ZoL dl;have hb:=(s.getD e 0).toNat_lt;have bj:Wa false (s.getD e 0)=true->e+1 - (a+0)+((s.drop (e+1)).takeWhile (Wa false)).length=(Zd (s.drop a)).length:=fun g=>by
    rw [<- hn,il,Ss,Tj g,Te];omega
   have ma:Wa false (s.getD e 0)=false->((s.drop e).takeWhile (Wa false)).length=0:=fun g=>by
    rw [il,Ss,Tf (by rw [g];simp)];rfl
   refine ⟨oM,oM,wN ?_⟩;refine Or.inl ⟨InR.i32 oM tN,wN ?_⟩;refine ZEL (fun h3=>wN ?_) (fun h3=>wN ?_)
   ·exact mq78
   have ef:Zq ((s.getD e 0).toNat:Int)=false:=h3;have hd:Wa false (s.getD e 0)=false:=by simp only [Wa,ef,TU,Sz]
   have hst:=fj (ma hd);(conv=>whnf);exact mq5
  have j7:((s.drop e).takeWhile (Wa false)).length=0:=by rw [Tv oM];rfl
  have hst:=fj (j7);exact mq5
 exact h.elim
structure GlobOK (w0:World) (nG:Nat):Prop where
 big:7<nG
 maxLen:∃m,w0.cell? ⟨2,0,none⟩=some (.int .i64 m)
 errSyntax:∃ev,w0.cell? ⟨6,0,none⟩=some ev/\(ev=.nilIface\/∃te pe,ev=.iface te pe)
 errRange:∃ev,w0.cell? ⟨7,0,none⟩=some ev/\(ev=.nilIface\/∃te pe,ev=.iface te pe)
def ZmH:Zp:=fun args σ K=>match args with
 | [.d (.str _),.d (.str s)]=>s.length<4294967281/\K (.ret .undef) σ
 | _=>False
def ZhV {e:Env} {σ:St} {w:World} {k:Nat} {u:Value} (hS:SRel (GG w0 nG) e σ w) (hk:k<nG) (h:w0.cell? ⟨k,0,none⟩=some u):w.cell? ⟨k,0,none⟩=some u:=by
 have:=hS.glob k hk;simpa [World.cell?,this] using h
def Zep (hg:GlobOK w0 nG):PC w0 nG 316 ZmH where
 enters:=Ze Tryz.func316 kR rfl
 calls:=fun args σ K hs n e w vs hS ha=>by
  unfold ZmH at hs
  split at hs
  ·rename_i fn s
   obtain ⟨hl,hK⟩:=hs;obtain ⟨u,v,rfl,hu,hv⟩:=Zjy ha
   cases hu.dstr;cases hv.dstr
   obtain ⟨ev,h1,h2⟩:=hg.errSyntax;refine CallsIn.mono (callsIn_wide.2 (Tryz.strconv_syntaxError _ _ ev w (show s.toArray.size<=_ by simp;omega) (ZhV hS (by have:=hg.big;omega) h1) h2)) fun en w' ⟨N,h3,_,_,h4⟩=>?_
   exact mq128
  exact hs.elim
def Zgu (hg:GlobOK w0 nG):PC w0 nG 317 ZmH where
 enters:=Ze Tryz.func317 kR rfl
 calls:=fun args σ K hs n e w vs hS ha=>by
  unfold ZmH at hs
  split at hs
  ·rename_i fn s
   obtain ⟨hl,hK⟩:=hs;obtain ⟨u,v,rfl,hu,hv⟩:=Zjy ha
   cases hu.dstr;cases hv.dstr
   obtain ⟨ev,h1,h2⟩:=hg.errRange;refine CallsIn.mono (callsIn_wide.2 (Tryz.strconv_rangeError _ _ ev w (show s.toArray.size<=_ by simp;omega) (ZhV hS (by have:=hg.big;omega) h1) h2)) fun en w' ⟨N,h3,_,_,h4⟩=>?_
   exact mq128
  exact hs.elim
def Zdg:Zp:=fun args σ K=>match args,σ with
 | [.d (.str _),.d (.str s),.d (.int .i64 _),.d (.int .i64 _),.iface 358 (.d (.int .i64 c))],⟨[],[],0⟩=>((c=1\/c=2)/\s.length<4294967281)/\K (.ret (.iface 360 .undef)) ⟨[],[],0⟩
 | _,_=>False
def ZBW:Tbl:=[(316,ZmH),(317,ZmH)]
def ZmI (hg:GlobOK w0 nG):PC w0 nG 307 Zdg:=by
 refine pwt (tbl:=ZBW) ⟨Zep hg,Zgu hg,trivial⟩ Tryz.func307 fun args σ K h=>?_
 unfold Zdg at h
 split at h
 ·rename_i fn s b0 b1 c
  obtain ⟨⟨hc,hl⟩,h⟩:=h;refine pwu [] 0 false ?_;rcases hc with rfl | rfl
  ·conv=>whnf
   refine ⟨hl,wN ?_⟩;exact h
  conv=>whnf
  refine ⟨hl,wN ?_⟩;exact h
 exact h.elim
def ZjC:Zp:=fun args σ K=>match args,σ with
 | [.d (.int .u8 c)],⟨[],[],0⟩=>K (.ret (.d (.int .u8 (Zg .or .u8 c 32)))) ⟨[],[],0⟩
 | _,_=>False
def ZrQ:PC w0 nG 314 ZjC:=by
 refine pwe Tryz.func314 fun args σ K h=>?_
 unfold ZjC at h
 split at h
 ·refine pwv [] 0 false ?_;exact h
 exact h.elim
def ZD6:∀n:Fin 256,Wa true (UInt8.ofNat n.val)=true->¬(48<=n.val/\n.val<=57)->Zg .or .u8 (n.val:Int) 32=Zgn (UInt8.ofNat n.val)+87/\10<=Zgn (UInt8.ofNat n.val)/\Zgn (UInt8.ofNat n.val)<=15:=by rw [Yi];decide +kernel
def ZhW {b:UInt8} (h:Wa true b=true) (hn:¬(48<=b.toNat/\b.toNat<=57)):Zg .or .u8 (b.toNat:Int) 32=Zgn b+87/\10<=Zgn b/\Zgn b<=15:=by
 have:=ZD6 ⟨b.toNat,b.toNat_lt⟩;simp only [UInt8.ofNat_toNat] at this;exact this h hn
def ZhX (B:Nat) (l:Bs) (b:UInt8):WJ B (l++[b])=WJ B l * B+Zgn b:=by simp [WJ,List.foldl_append]
def ZhY {l:Bs} {i:Nat} (h:i<l.length):l.take (i+1)=l.take i++[l.getD i 0]:=by
 rw [List.take_succ,Tb h];simp [List.getD,h]
def ZkQ (B:Nat) (hB:1<=B):∀(l:Bs) (n:Nat),n<=l.foldl (fun n b=>n * B+Zgn b) n
 | [],n=>Tr _
 | b::l,n=>by
  have:=ZkQ B hB l (n * B+Zgn b);have h2:n<=n * B:=Nat.le_mul_of_pos_right n hB;simp only [List.foldl_cons];omega
def ZbL (B:Nat) (hB:1<=B) (l:Bs) (i:Nat):WJ B (l.take i)<=WJ B l:=by
 conv=>rhs;rw [<- List.take_append_drop i l]
 unfold WJ
 rw [List.foldl_append];exact ZkQ B hB _ _
def ZBX:Zp:=fun args σ K=>match args,σ with
 | [.d (.str l),.d (.int .i64 base),.d (.int .i64 bits)],⟨[],[],0⟩=>∃fk:Bool,((l.all (Wa fk)=true/\l.length<4294967281)/\base=(if fk then 16 else 10)/\bits=(if fk then 64 else 63)) /\
   (l=[]->K (.ret (.tuple [.d (.int .u64 0),.iface 358 (.d (.int .i64 2))])) ⟨[],[],0⟩) /\
   (l≠[]->(if fk then 18446744073709551616 else 9223372036854775808)<=WJ (if fk then 16 else 10) l->K (.ret (.tuple [.d (.int .u64 (if fk then 18446744073709551615 else 9223372036854775807)),.iface 358 (.d (.int .i64 1))])) ⟨[],[],0⟩) /\
   (l≠[]->¬(if fk then 18446744073709551616 else 9223372036854775808)<=WJ (if fk then 16 else 10) l->K (.ret (.tuple [.d (.int .u64 (WJ (if fk then 16 else 10) l)),.d .nili])) ⟨[],[],0⟩)
 | _,_=>False
def ZBY:Tbl:=[(314,ZjC)]
def ZBZ:PC w0 nG 306 ZBX:=by
 refine pwt (tbl:=ZBY) ⟨ZrQ,trivial⟩ Tryz.func306 fun args σ K h=>?_
 unfold ZBX at h
 split at h
 ·rename_i l base bits
  obtain ⟨fk,⟨⟨cf,hl⟩,rfl,rfl⟩,eo,mb,dv⟩:=h;have hml:((l.map fun b=>[D.int .u8 (b.toNat:Int)]:List (List D))).length=l.length:=sM
  cases fk with
  | true =>
   simp only [if_true,Tu,if_false] at mb dv |-;refine ⟨Zo [(36,⟨[101,13,12],[0,1,8,10,11,99,100],fun vs σ=>σ=⟨[],[],0⟩/\∃i:Nat,vs=[.d (.int .i64 i),.d (.int .u64 (WJ 16 (l.take i))),.d (.bool false)]/\i<=l.length/\WJ 16 (l.take i)<18446744073709551616,muI l.length⟩)],0,false,sM,Tc rfl,wN ?_⟩;refine ZEH (fun h0=>wN ?_) (fun h0=>wN ?_)
   ·exact eo h0
   have ai:l≠[]:=h0;have rj:=mb ai;have j5:=dv ai;refine Zda ?_;refine ⟨dM,Or.inr ?_⟩;rw [show IntKind.u64.wrap (1 * 2 ^ min (Int.toNat 64) IntKind.u64.bits)=0 from dM];(conv=>whnf);refine Or.inr ?_;rw [show IntKind.u64.wrap (0 - 1)=18446744073709551615 from dM];(conv=>whnf);refine ⟨⟨rfl,0,rfl,oM,by simp [WJ]⟩,?_⟩;intro vs σ1 hI
   obtain ⟨rfl,i,rfl,hi,hN⟩:=hI;have ak:=ZbL 16 oM l;have bj:=fun h:i<l.length=>ZhX 16 (l.take i) (l.getD i 0)
   generalize hNN:WJ 16 (l.take i)=N at hN bj |-;(conv=>whnf);refine ZEH (fun h2=>?_) (fun h2=>wN ?_)
   ·have dl:i<l.length:=by simpa using h2
    have ce:(l.map fun b=>[D.int .u8 (b.toNat:Int)])[((i:Int)).toNat]?=some [D.int .u8 ((l.getD i 0).toNat:Int)]:=by
     rw [Tl,Th,Tb dl];simp [List.getD,dl]
    have hd:Wa true (l.getD i 0)=true:=Tq.1 cf _ (by rw [T2,Tb dl];exact TE dl);have hs:=bj dl;rw [<- ZhY dl] at hs;have du:=ak (i+1);have hb:=(l.getD i 0).toNat_lt;generalize jz:l.getD i 0=b at ce hd hs hb;(conv=>whnf);refine ⟨_,oM,ce,wN ?_⟩;refine ZEH (fun h3=>?_) (fun h3=>wN ?_)
    ·have ef:b.toNat=95:=by omega
     simp [Wa,Zq,ef] at hd
    refine ZEH (fun h4=>wN ?_) (fun h4=>?_)
    ·refine ZEH (fun h5=>wN ?_) (fun h5=>?_)
     ·refine V9 ?_;have hD:(Zgn b:Int)=(b.toNat:Int) - 48:=by unfold Zgn;rw [Tj oM];omega
      refine V9 ?_;refine ZEH (fun h6=>?_) (fun h6=>wN ?_)
      ·omega
      refine ZEH (fun h7=>wN ?_) (fun h7=>wN ?_)
      ·exact rj oM
      refine Zda ?_;refine Zda ?_;refine Zda ?_
      by_cases cx:(N:Int) * 16+((b.toNat:Int) - 48)<=18446744073709551615
      ·refine Zda ?_;refine ZEH (fun h8=>?_) (fun h8=>wN ?_)
       ·omega
       refine ZEH (fun h9=>wN ?_) (fun h9=>wN ?_)
       ·exact rj oM
       refine Zi ?_;refine ⟨⟨rfl,i+1,?_,oM,oM⟩,?_⟩
       ·have e:((WJ 16 (l.take (i+1)):Nat):Int)=(N:Int) * 16+((b.toNat:Int) - 48):=by omega
        rw [e];rfl
       exact mq180
      have hw:IntKind.u64.wrap ((N:Int) * 16+((b.toNat:Int) - 48))=(N:Int) * 16+((b.toNat:Int) - 48) - 18446744073709551616:=by
       exact mq60
      exact mq56
     skip
     exact mq11
    skip
    exact mq11
   exact mq129
  | false =>
  simp only [if_true,Tu,if_false] at mb dv |-;refine ⟨Zo [(36,⟨[101,13,12],[0,1,8,10,11,99,100],fun vs σ=>σ=⟨[],[],0⟩/\∃i:Nat,vs=[.d (.int .i64 i),.d (.int .u64 (WJ 10 (l.take i))),.d (.bool false)]/\i<=l.length/\WJ 10 (l.take i)<9223372036854775808,muI l.length⟩)],0,false,sM,Tc rfl,wN ?_⟩;refine ZEH (fun h0=>wN ?_) (fun h0=>wN ?_)
  ·exact eo h0
  have ai:l≠[]:=h0;have rj:=mb ai;have j5:=dv ai;refine Zda ?_;refine ⟨dM,Or.inr ?_⟩;rw [show IntKind.u64.wrap (1 * 2 ^ min (Int.toNat 63) IntKind.u64.bits)=9223372036854775808 from dM];(conv=>whnf);refine Or.inr ?_;rw [show IntKind.u64.wrap (9223372036854775808 - 1)=9223372036854775807 from dM];(conv=>whnf);refine ⟨⟨rfl,0,rfl,oM,by simp [WJ]⟩,?_⟩;intro vs σ1 hI
  obtain ⟨rfl,i,rfl,hi,hN⟩:=hI;have ak:=ZbL 10 oM l;have bj:=fun h:i<l.length=>ZhX 10 (l.take i) (l.getD i 0)
  generalize hNN:WJ 10 (l.take i)=N at hN bj |-;(conv=>whnf);refine ZEH (fun h2=>?_) (fun h2=>wN ?_)
  ·have dl:i<l.length:=by simpa using h2
   have ce:(l.map fun b=>[D.int .u8 (b.toNat:Int)])[((i:Int)).toNat]?=some [D.int .u8 ((l.getD i 0).toNat:Int)]:=by
    rw [Tl,Th,Tb dl];simp [List.getD,dl]
   have hd:Wa false (l.getD i 0)=true:=Tq.1 cf _ (by rw [T2,Tb dl];exact TE dl);have hs:=bj dl;rw [<- ZhY dl] at hs;have du:=ak (i+1);have hb:=(l.getD i 0).toNat_lt;generalize jz:l.getD i 0=b at ce hd hs hb;(conv=>whnf);refine ⟨_,oM,ce,wN ?_⟩;refine ZEH (fun h3=>?_) (fun h3=>wN ?_)
   ·have ef:b.toNat=95:=by omega
    simp [Wa,Zq,ef] at hd
   have zp:48<=b.toNat/\b.toNat<=57:=by
    simp only [Wa,TU,Sz,Zq,TQ] at hd;omega
   refine ZEH (fun h4=>wN ?_) (fun h4=>?_)
   ·refine ZEH (fun h5=>wN ?_) (fun h5=>?_)
    ·refine V9 ?_;have hD:(Zgn b:Int)=(b.toNat:Int) - 48:=by unfold Zgn;rw [Tj oM];omega
     refine V9 ?_;refine ZEH (fun h6=>?_) (fun h6=>wN ?_)
     ·omega
     refine ZEH (fun h7=>wN ?_) (fun h7=>wN ?_)
     ·exact rj oM
     refine Zda ?_;refine Zda ?_;refine Zda ?_
     by_cases cx:(N:Int) * 10+((b.toNat:Int) - 48)<=18446744073709551615
     ·refine Zda ?_;refine ZEH (fun h8=>?_) (fun h8=>wN ?_)
      ·omega
      refine ZEH (fun h9=>wN ?_) (fun h9=>wN ?_)
      ·exact rj oM
      refine Zi ?_;refine ⟨⟨rfl,i+1,?_,oM,oM⟩,?_⟩
      ·have e:((WJ 10 (l.take (i+1)):Nat):Int)=(N:Int) * 10+((b.toNat:Int) - 48):=by omega
       rw [e];rfl
      exact mq180
     have hw:IntKind.u64.wrap ((N:Int) * 10+((b.toNat:Int) - 48))=(N:Int) * 10+((b.toNat:Int) - 48) - 18446744073709551616:=by
      exact mq60
     exact mq56
    omega
   omega
  exact mq129
 exact h.elim
def Zu1:∀n:Fin 64,Zg .or .u8 128 (n.val:Int)=128+n.val:=by rw [Yi];decide +kernel
def Zu2:∀n:Fin 32,Zg .or .u8 192 (n.val:Int)=192+n.val:=by rw [Yi];decide +kernel
def Zu3:∀n:Fin 16,Zg .or .u8 224 (n.val:Int)=224+n.val:=by rw [Yi];decide +kernel
def Zu4:∀n:Fin 8,Zg .or .u8 240 (n.val:Int)=240+n.val:=by rw [Yi];decide +kernel
def Zu5:∀n:Fin 256,Zg .and .u8 (n.val:Int) 63=n.val % 64:=by rw [Yi];decide +kernel
def ZtZ {x:Int} (h0:0<=x) (h1:x<64):Zg .or .u8 128 x=128+x:=by obtain ⟨n,rfl⟩:∃n:Nat,x=n:=⟨x.toNat,oM⟩;exact Zu1 ⟨n,oM⟩
def ZD7 {x:Int} (h0:0<=x) (h1:x<32):Zg .or .u8 192 x=192+x:=by obtain ⟨n,rfl⟩:∃n:Nat,x=n:=⟨x.toNat,oM⟩;exact Zu2 ⟨n,oM⟩
def ZDq {x:Int} (h0:0<=x) (h1:x<16):Zg .or .u8 224 x=224+x:=by obtain ⟨n,rfl⟩:∃n:Nat,x=n:=⟨x.toNat,oM⟩;exact Zu3 ⟨n,oM⟩
def ZD8 {x:Int} (h0:0<=x) (h1:x<8):Zg .or .u8 240 x=240+x:=by obtain ⟨n,rfl⟩:∃n:Nat,x=n:=⟨x.toNat,oM⟩;exact Zu4 ⟨n,oM⟩
def a63 {x:Int} (h0:0<=x) (h1:x<256):Zg .and .u8 x 63=x % 64:=by obtain ⟨n,rfl⟩:∃n:Nat,x=n:=⟨x.toNat,oM⟩;rw [Zu5 ⟨n,oM⟩]
def wu8 (n:Int):IntKind.u8.wrap n=n % 256:=by simp [IntKind.wrap,IntKind.bits,IntKind.signed]
def Wj (c:Int):Zh (Lib.encodeRune c)=(Lib.encodeRuneZ c).map fun x=>[D.int .u8 x]:=by
 have h:=Lib.encodeRuneZ_byte c;unfold Lib.encodeRune Zh
 rw [SE];refine Si fun x hx=>?_
 have:=h x hx;simp [UInt8.toNat_ofNat'];omega
def Ut:Zp:=fun args σ K=>match args,σ with
 | [.sl 0 e rows,.d (.int .i32 c)],⟨[],[0],1⟩=>(e=5/\(∀r∈rows,r.length=1)/\rows.length<70368744177664/\0<=c/\c<=1114111)/\K (.ret (.sl 0 5 (rows++Zh (Lib.encodeRune c)))) ⟨[],[0],1⟩
 | _,_=>False
def VN:Zp:=fun args σ K=>match args,σ with
 | [.sl 0 e rows,.d (.int .i32 c)],⟨[],[0],1⟩=>(e=5/\(∀r∈rows,r.length=1)/\rows.length<70368744177664/\128<=c/\c<=1114111)/\K (.ret (.sl 0 5 (rows++Zh (Lib.encodeRune c)))) ⟨[],[0],1⟩
 | _,_=>False
def Zeq:PC w0 nG 283 VN:=by
 refine pwe Tryz.func283 fun args σ K h=>?_
 unfold VN at h
 split at h
 ·rename_i e rows c
  obtain ⟨⟨rfl,bi,o9,iv,cz⟩,h⟩:=h;refine pwv [] 0 true ?_;have e6:c.fdiv (2 ^ min (Int.toNat 6) IntKind.i32.bits)=c / 64:=by rw [show (2:Int) ^ min (Int.toNat 6) IntKind.i32.bits=64 by decide];exact Int.fdiv_eq_ediv_of_nonneg _ oM
  have e12:c.fdiv (2 ^ min (Int.toNat 12) IntKind.i32.bits)=c / 4096:=by rw [show (2:Int) ^ min (Int.toNat 12) IntKind.i32.bits=4096 by decide];exact Int.fdiv_eq_ediv_of_nonneg _ oM
  have e18:c.fdiv (2 ^ min (Int.toNat 18) IntKind.i32.bits)=c / 262144:=by rw [show (2:Int) ^ min (Int.toNat 18) IntKind.i32.bits=262144 by decide];exact Int.fdiv_eq_ediv_of_nonneg _ oM
  refine Or.inl ⟨InR.u32 oM oM,wN ?_⟩;refine ZEH (fun h1=>?_) (fun h1=>wN ?_)
  ·skip
   have g:K (.ret (.sl 0 5 (rows++[[D.int .u8 (Zg .or .u8 192 (IntKind.u8.wrap (c.fdiv (2 ^ min (Int.toNat 6) IntKind.i32.bits))))],[D.int .u8 (Zg .or .u8 128 (Zg .and .u8 (IntKind.u8.wrap (c)) 63))]]))) ⟨[],[0],1⟩:=by
    have e:Zh (Lib.encodeRune c)=[[D.int .u8 (Zg .or .u8 192 (IntKind.u8.wrap (c.fdiv (2 ^ min (Int.toNat 6) IntKind.i32.bits))))],[D.int .u8 (Zg .or .u8 128 (Zg .and .u8 (IntKind.u8.wrap (c)) 63))]]:=by
     rw [Wj,Lib.encodeRuneZ_two iv oM];simp only [e6,e12,e18,wu8,Tx,TM];rw [ZD7 oM oM,a63 oM oM,ZtZ oM oM,show c / 64 % 256=c / 64 by omega,show c % 256 % 64=c % 64 by omega]
     all_goals (try omega)
     (try (congr 1 <;> omega))
    rw [e] at h;exact h
   conv=>whnf
   refine ⟨dM,wN ?_⟩;refine Or.inr (wN ?_);refine Or.inr (wN ?_);refine ⟨fun r hr=>by (simp at hr;rcases hr with rfl | rfl <;> rfl),(show (rows.length+2) * 1<=2 ^ 47 by omega),(show rows.length+2<=2 ^ 47 by omega),?_⟩;(conv=>whnf);exact g
  refine ZEH (fun h2=>wN ?_) (fun h2=>wN ?_)
  ·refine ZEH (fun dl=>wN ?_) (fun dl=>absurd h2 dl);have g:K (.ret (.sl 0 5 (rows++[[D.int .u8 (Zg .or .u8 224 (IntKind.u8.wrap (c.fdiv (2 ^ min (Int.toNat 12) IntKind.i32.bits))))],[D.int .u8 (Zg .or .u8 128 (Zg .and .u8 (IntKind.u8.wrap (c.fdiv (2 ^ min (Int.toNat 6) IntKind.i32.bits))) 63))],[D.int .u8 (Zg .or .u8 128 (Zg .and .u8 (IntKind.u8.wrap (c)) 63))]]))) ⟨[],[0],1⟩:=by
    exact mq36
   exact mq188
  refine ZEH (fun h3=>wN ?_) (fun h3=>wN ?_)
  ·refine ZEH (fun h4=>?_) (fun h4=>wN ?_)
   ·skip
    have g:K (.ret (.sl 0 5 (rows++[[D.int .u8 (Zg .or .u8 224 (IntKind.u8.wrap (c.fdiv (2 ^ min (Int.toNat 12) IntKind.i32.bits))))],[D.int .u8 (Zg .or .u8 128 (Zg .and .u8 (IntKind.u8.wrap (c.fdiv (2 ^ min (Int.toNat 6) IntKind.i32.bits))) 63))],[D.int .u8 (Zg .or .u8 128 (Zg .and .u8 (IntKind.u8.wrap (c)) 63))]]))) ⟨[],[0],1⟩:=by
     exact mq36
    conv=>whnf
    exact mq188
   refine ZEH (fun h5=>wN ?_) (fun h5=>?_)
   ·refine ZEH (fun h6=>?_) (fun h6=>?_)
    ·skip
     have g:K (.ret (.sl 0 5 (rows++[[D.int .u8 (Zg .or .u8 240 (IntKind.u8.wrap (c.fdiv (2 ^ min (Int.toNat 18) IntKind.i32.bits))))],[D.int .u8 (Zg .or .u8 128 (Zg .and .u8 (IntKind.u8.wrap (c.fdiv (2 ^ min (Int.toNat 12) IntKind.i32.bits))) 63))],[D.int .u8 (Zg .or .u8 128 (Zg .and .u8 (IntKind.u8.wrap (c.fdiv (2 ^ min (Int.toNat 6) IntKind.i32.bits))) 63))],[D.int .u8 (Zg .or .u8 128 (Zg .and .u8 (IntKind.u8.wrap (c)) 63))]]))) ⟨[],[0],1⟩:=by
      have e:Zh (Lib.encodeRune c)=[[D.int .u8 (Zg .or .u8 240 (IntKind.u8.wrap (c.fdiv (2 ^ min (Int.toNat 18) IntKind.i32.bits))))],[D.int .u8 (Zg .or .u8 128 (Zg .and .u8 (IntKind.u8.wrap (c.fdiv (2 ^ min (Int.toNat 12) IntKind.i32.bits))) 63))],[D.int .u8 (Zg .or .u8 128 (Zg .and .u8 (IntKind.u8.wrap (c.fdiv (2 ^ min (Int.toNat 6) IntKind.i32.bits))) 63))],[D.int .u8 (Zg .or .u8 128 (Zg .and .u8 (IntKind.u8.wrap (c)) 63))]]:=by
       rw [Wj,Lib.encodeRuneZ_four oM oM];simp only [e6,e12,e18,wu8,Tx,TM];rw [ZD8 oM oM,a63 oM oM,a63 oM oM,a63 oM oM,ZtZ oM oM,ZtZ oM oM,ZtZ oM oM,show c / 262144 % 256=c / 262144 by omega,show c / 4096 % 256 % 64=c / 4096 % 64 by omega,show c / 64 % 256 % 64=c / 64 % 64 by omega,show c % 256 % 64=c % 64 by omega]
       all_goals (try omega)
       (try (congr 1 <;> omega))
      rw [e] at h;exact h
     conv=>whnf
     refine ⟨dM,wN ?_⟩;refine Or.inr (wN ?_);refine ⟨dM,wN ?_⟩;refine Or.inr (wN ?_);refine ⟨dM,wN ?_⟩;refine Or.inr (wN ?_);refine Or.inr (wN ?_);refine ⟨fun r hr=>by (simp at hr;rcases hr with rfl | rfl | rfl | rfl <;> rfl),(show (rows.length+4) * 1<=2 ^ 47 by omega),(show rows.length+4<=2 ^ 47 by omega),?_⟩;(conv=>whnf);exact g
    omega
   omega
  refine ZEH (fun h5=>?_) (fun h5=>?_)
  ·omega
  skip
  have g:K (.ret (.sl 0 5 (rows++[[D.int .u8 (239)],[D.int .u8 (191)],[D.int .u8 (189)]]))) ⟨[],[0],1⟩:=by
   have e:Zh (Lib.encodeRune c)=[[D.int .u8 (239)],[D.int .u8 (191)],[D.int .u8 (189)]]:=by
    rw [Wj,Lib.encodeRuneZ_bad oM];rfl
   rw [e] at h;exact h
  conv=>whnf
  exact mq55
 exact h.elim
def ZB0:Tbl:=[(283,VN)]
def Zgv:PC w0 nG 267 Ut:=by
 refine pwt (tbl:=ZB0) ⟨Zeq,trivial⟩ Tryz.func267 fun args σ K h=>?_
 unfold Ut at h
 split at h
 ·rename_i e rows c
  obtain ⟨⟨rfl,bi,o9,iv,cz⟩,h⟩:=h;refine pwv [] 0 true ?_;refine Or.inl ⟨InR.u32 oM oM,wN ?_⟩;refine ZEH (fun h1=>wN ?_) (fun h1=>wN ?_)
  ·have e:Zh (Lib.encodeRune c)=[[D.int .u8 c]]:=by rw [Wj,Lib.encodeRuneZ_one iv h1];rfl
   rw [e] at h;refine V9 ?_;exact mq159
  refine ⟨⟨rfl,bi,oM,oM,oM⟩,wN ?_⟩;exact h
 exact h.elim
def ZrR:TO w0 nG [(200,VK)]:=⟨ZbJ,trivial⟩
def ZbM:PC w0 nG 232 VH:=by
 refine pwt ZrR Tryz.func232 fun args σ K h=>?_
 unfold VH at h
 split at h
 ·rename_i c t p e rows
  obtain ⟨⟨hp,rfl,rfl,bi,o9⟩,h⟩:=h;refine pwu [] 1 true ?_;rcases hp with rfl | rfl
  ·conv=>whnf
   refine ⟨⟨.inl rfl,rfl⟩,wN ?_⟩;exact mq159
  conv=>whnf
  refine ⟨⟨.inr rfl,rfl⟩,wN ?_⟩;exact mq159
 exact h.elim
def ZB2 (c:Int):(Lib.encodeRune c).length<=4:=by unfold Lib.encodeRune;rw [Td];exact (Lib.encodeRuneZ_length c).2
def ZrS:TO w0 nG [(200,VK),(267,Ut)]:=⟨ZbJ,Zgv,trivial⟩
def ZbN:PC w0 nG 234 VI:=by
 refine pwt ZrS Tryz.func234 fun args σ K h=>?_
 unfold VI at h
 split at h
 ·rename_i c t p e rows
  obtain ⟨⟨hp,rfl,rfl,bi,o9,iv,cz⟩,h⟩:=h;refine pwu [] 1 true ?_;rcases hp with rfl | rfl
  ·conv=>whnf
   refine ⟨⟨.inl rfl,rfl⟩,wN ?_⟩;refine ⟨⟨rfl,bi,o9,iv,cz⟩,wN ?_⟩;refine Or.inl ⟨InR.i64 (by rw [Ta,Y3];have:=Lib.encodeRuneZ_length c;omega) (by rw [Ta,Y3];have:=ZB2 c;omega),wN ?_⟩;exact h
  conv=>whnf
  refine ⟨⟨.inr rfl,rfl⟩,wN ?_⟩;refine ⟨⟨rfl,bi,o9,iv,cz⟩,wN ?_⟩;refine Or.inl ⟨InR.i64 (by rw [Ta,Y3];omega) (by rw [Ta,Y3];have:=ZB2 c;omega),wN ?_⟩;exact h
 exact h.elim
def JB:Zp:=fun args σ K=>match args with
 | [.d (.int .i32 c)]=>K (.ret (.d (.bool (Lib.validRune c)))) σ
 | _=>False
def ZyW (c:Int) (h:128<=c) (h2:c<=1114111):2<=(Utf8.encode c).data.toList.length/\(Utf8.encode c).data.toList.length<=4/\∀b∈(Utf8.encode c).data.toList,128<=b.toNat:=by
 unfold Utf8.encode
 simp only;generalize hn:(if Utf8.valid c then c.toNat else Utf8.runeError)=n;have ew:128<=n/\n<=1114111:=by
  rw [<- hn];split
  ·omega
  simp [Utf8.runeError]
 rw [Tf oM];split
 ·simp [UInt8.toNat_ofNat'];omega
 split
 ·simp [UInt8.toNat_ofNat'];omega
 simp [UInt8.toNat_ofNat'];omega
def ZoO {l:Bs} {c:UInt8} (h:∀b∈l,b.toNat<128) (hc:128<=c.toNat):Lib.indexByte l c=-1:=by
 induction l with
 | nil=>rfl
 | cons b l ih =>
 have h1:=ih (fun x hx=>h x (Tz _ hx));have h2:(b == c)=false:=by
  simp only [beq_eq_false_iff_ne];intro e;subst e;have:=h b sM;omega
 simp [Lib.indexByte,h1,h2]
def ZrT {s:Bs} (h:∀b∈s,b.toNat<128) (i:Nat):(s.getD i 0).toNat<128:=by
 rw [T2]
 by_cases hi:i<s.length
 ·rw [Tb hi];exact h _ (TE hi)
 rw [T6 oM];decide
def ZoP {s:Bs} (h:∀b∈s,128<=b.toNat) {i:Nat} (hi:i<s.length):128<=(s.getD i 0).toNat:=by
 rw [T2,Tb hi];exact h _ (TE hi)
def ZB4 {n:Int} {k:Nat} (h:n=k) (hk:k<256):(n.toNat.toUInt8).toNat=k:=by
 subst h;simp [UInt8.toNat_ofNat'];omega
def ZhZ:OKw w0 nG [(263,Wv),(264,JB)] 233 Ww:=by
 refine pwo Tryz.func233 fun args σ K h=>?_
 unfold Ww at h
 split at h
 ·rename_i s c
  obtain ⟨⟨hs,iv,cz⟩,h⟩:=h;have ee:s.length=4:=by rcases hs with rfl | rfl <;> rfl
  have hsa:∀b∈s,b.toNat<128:=by rcases hs with rfl | rfl <;> decide
  have vp:∀p,p<4->(decodeL s p).1<128/\(decodeL s p).2=1:=by
   intro p hp
   rcases hs with rfl | rfl
   all_goals (match p,hp with | 0,_=>exact ⟨dM,dM⟩ | 1,_=>exact ⟨dM,dM⟩ | 2,_=>exact ⟨dM,dM⟩ | 3,_=>exact ⟨dM,dM⟩)
  refine pwu [(38,⟨[],[0,175],fun vs σ=>vs=[]/\∃p:Nat,p<=4/\σ=⟨[.iter s p],[],0⟩,fun _ σ=>match σ.bx with | [.iter _ p]=>4 - p | _=>0⟩),
    (5,⟨[9],[0,1,7,8],fun vs σ=>σ=⟨[],[],0⟩/\vs=[.d (.int .i64 (((Utf8.encode c).data.toList.length:Int) - 1))],fun _ _=>0⟩)] 0 false ?_
  have ue:128<=c->K (.ret (.d (.int .i64 (-1)))) ⟨[],[],0⟩:=fun g=>by
   have:Zdd s c=-1:=by unfold Zdd;rw [Tf oM]
   rw [this] at h;exact h
  conv=>whnf
  refine ZEH (fun h1=>wN ?_) (fun h1=>?_)
  ·refine ZEH (fun h2=>wN ?_) (fun h2=>wN ?_)
   ·have e:Zdd s c=Lib.indexByte s c.toNat.toUInt8:=by unfold Zdd;rw [Tj h2]
    rw [e] at h;refine V9 ?_;exact h
   refine ZEH (fun h3=>wN ?_) (fun h3=>wN ?_)
   ·refine ⟨⟨rfl,0,oM,rfl⟩,?_⟩;intro vs σ1 hI
    obtain ⟨rfl,p,hp,rfl⟩:=hI;(conv=>whnf);refine ZEH (fun h4=>wN ?_) (fun h4=>wN ?_)
    ·have hd:=vp p oM;refine ZEH (fun h5=>?_) (fun h5=>wN ?_)
     ·omega
     refine ⟨⟨rfl,p+1,oM,by rw [hd.2];rfl⟩,?_⟩;exact (show 4 - (p+(decodeL s p).2)<4 - p by omega)
    exact ue oM
   refine ZEL (fun h4=>wN ?_) (fun h4=>wN ?_)
   ·exact ue oM
   obtain ⟨e1,e2,e3⟩:=ZyW c oM cz;have hl:=ZoP e3 (i:=(Utf8.encode c).data.toList.length - 1) oM;refine Zi ?_;refine ⟨⟨rfl,rfl⟩,?_⟩;intro vs σ1 hI
   obtain ⟨rfl,rfl⟩:=hI;(conv=>whnf);refine ZEH (fun h5=>wN ?_) (fun h5=>?_)
   ·refine ⟨oM,oM,wN ?_⟩;refine ⟨oM,oM,wN ?_⟩;have qm:=ZrT hsa (((Utf8.encode c).data.toList.length:Int) - 1).toNat;have qn:128<=((Utf8.encode c).data.toList.getD (((Utf8.encode c).data.toList.length:Int) - 1).toNat 0).toNat:=ZoP e3 oM;refine ZEJ (fun h6=>wN ?_) (fun h6=>?_)
    ·refine Zi ?_;refine ⟨oM,oM,wN ?_⟩;refine ⟨oM,oM,wN ?_⟩;generalize hx:Lib.indexByte _ _=x;have:x=-1:=by
      rw [<- hx];refine ZoO (fun b hb=>hsa b (List.mem_of_mem_take (List.mem_of_mem_drop hb))) ?_;rw [ZB4 rfl (UInt8.toNat_lt _)];exact qn
     subst this;(conv=>whnf);exact ue oM
    omega
   omega
  omega
 exact h.elim
def Zgw (r:Bs):(Lib.decodeL r).1<=1114111/\1<=(Lib.decodeL r).2/\(Lib.decodeL r).2<=4:=by
 exact mq65
def ZjD (c:Int):(Lib.encodeRune c).length<=4:=by
 unfold Lib.encodeRune Lib.encodeRuneZ
 rw [Td]
 repeat' split
 all_goals simp
def Uu {n k:Nat} (h:n<128) (hk:k<128) (ai:n≠k):(n:Int).toNat.toUInt8≠UInt8.ofNat k:=by
 intro h1
 have h2:=congrArg UInt8.toNat h1;simp [UInt8.toNat_ofNat'] at h2;omega
def ZkR {n:Nat} (h:ZuT n=none):Zdd [110,116,34,92] n=-1:=by
 unfold ZuT at h
 split at h;· cases h
 split at h;· cases h
 split at h;· cases h
 split at h;· cases h
 rename_i h1 h2 h3 h4
 unfold Zdd
 split
 ·rename_i h5
  have hc:([110,116,34,92]:Bs).contains ((n:Int).toNat.toUInt8)=false:=by
   have b1:=Uu (n:=n) (k:=110) oM oM h1;have b2:=Uu (n:=n) (k:=116) oM oM h2;exact mq104
  rw [Lib.contains_iff_indexByte,decide_eq_false_iff_not] at hc;have:=Lib.indexByte_ge [110,116,34,92] ((n:Int).toNat.toUInt8);omega
 rfl
def ZkS {n:Nat} {b:UInt8} (h:ZuT n=some b):(Zdd [110,116,34,92] n=0/\b=10)\/(Zdd [110,116,34,92] n=1/\b=9)\/(Zdd [110,116,34,92] n=2/\b=34)\/(Zdd [110,116,34,92] n=3/\b=92):=by
 unfold ZuT at h
 exact mq62
def JC (l:Bs) (b:UInt8):Zh (l++[b])=Zh l++[[.int .u8 b.toNat]]:=by simp [Zh]
def Vj (l m:Bs):Zh (l++m)=Zh l++Zh m:=by simp [Zh]
def Zfd (l:Bs):∀r∈Zh l,r.length=1:=by
 intro r hr
 simp only [Zh,Sh] at hr;obtain ⟨b,_,rfl⟩:=hr;rfl
def Zfe (l:Bs):(Zh l).length=l.length:=by simp [Zh]
def ZD9 (B:Nat):List PV->St->Nat:=fun _ σ=>match σ.bx with | [_,_,_,_,.iter _ p]=>B - p | _=>0
def Zu7:OKw w0 nG [(233,Ww),(232,VH),(186,ZbI),(234,VI),(36,Zco)] 274 ZkO:=by
 refine pwo Tryz.func274 fun args σ K h=>?_
 unfold ZkO at h
 split at h
 ·rename_i t s a
  obtain ⟨⟨h0,h1,hs⟩,h⟩:=h;obtain ⟨a,rfl⟩:∃n:Nat,a=n:=⟨a.toNat,oM⟩
  simp only [Tl] at h;obtain ⟨u,hu⟩:∃u,u=s.drop (a+1):=⟨_,rfl⟩
  have zd:u.length=s.length - (a+1):=by rw [hu,TG]
  refine pwu [(4,⟨[5],[0,2,3,4,22],fun vs σ=>∃(esc:Bool) (l:Bs) (i f:Nat) (p:PV),vs=[.d (.bool esc)] /\
   σ=⟨[.cells t [.d (.str s),.d (.int .i64 a)],.cells 196 [.d (.int .u8 0),.d (.str []),.d (.int .i64 0),.d (.int .i64 0),.d (.int .i64 0)],.cells 272 [.d (.int .i64 0),.d (.int .i64 0)],.cells 102 [p,.sl 0 5 (Zh l)],.iter u i],[0],1⟩ /\
   (p=.d .nilp\/p=.ptr 3 0)/\(i<=u.length/\u.length<i+f/\l.length<=4 * i)/\Z6 f (u.drop i) esc l (1+i)=W2 (s.drop a),ZD9 u.length⟩)] 1 false ?_
  have cy:∀n:Nat,W2 (s.drop a)=.err n->K (.ret (.tuple [Zeo 0 [] 0 0 0,ZhP ((a+n:Nat):Int) 141])) ⟨[.cells t [.d (.str s),.d (.int .i64 a)]],[],0⟩:=fun n g=>by
   have e1:Zem a (s.drop a)=.bad (a+n) 141:=by rw [Zem,g]
   rw [e1] at h;exact h
  have dv:∀(l:Bs) (n:Nat),W2 (s.drop a)=.ok l n->K (.ret (.tuple [Zeo 3 l 0 a ((a+n:Nat):Int),ZhP 0 0])) ⟨[.cells t [.d (.str s),.d (.int .i64 a)]],[],0⟩:=fun l n g=>by
   have e1:Zem a (s.drop a)=.tok ⟨3,l,0,a,a+n⟩:=by rw [Zem,g]
   rw [e1] at h;exact h
  have gr:((a:Int)+1).toNat=a+1:=oM;(conv=>whnf);refine Zi ?_;refine ⟨oM,oM,wN ?_⟩;rw [Up,gr,<- hu];refine ⟨⟨false,[],0,(s.drop a).length+1,.d .nilp,rfl,rfl,.inl rfl,⟨oM,hD,sM⟩,?_⟩,?_⟩
  ·rw [W2,TL,<- hu];rfl
  intro vs σ1 hI
  obtain ⟨esc,l,i,f,p,rfl,rfl,hp,⟨zi,ac,ic⟩,gq⟩:=hI;obtain ⟨f,rfl⟩:∃g,f=g+1:=⟨f - 1,oM⟩
  have co:=Zfd l;have cm:=Zfe l;have bm:=Zfb u i;have il:=Zgw (u.drop i);have jo:=Lib.decodeL_le (u.drop i);rw [TG] at jo
  cases esc with
  | true =>
   rcases hp with rfl | rfl
   ·conv=>whnf
    refine ZEH (fun h2=>wN ?_) (fun h2=>wN ?_)
    ·have ai:u.drop i≠[]:=fun g=>by have:=congrArg List.length g;rw [TG] at this;simp at this;omega
     refine Zi ?_;refine Zi ?_;refine ⟨⟨.inl rfl,oM,by rw [bm];omega⟩,wN ?_⟩;generalize hk:Zdd _ _=k;have l7:Zdd [110,116,34,92] ((Lib.decodeL (u.drop i)).1:Int)=k:=by rw [<- bm];exact hk
     cases hE:ZuT (Lib.decodeL (u.drop i)).1 with
     | none =>
      exact mq74
     | some b =>
     have g1:W2 (s.drop a)=Z6 f (u.drop (i+(decodeL u i).2)) false (l++[b]) (1+(i+(decodeL u i).2)):=by rw [<- gq,bm];simp [Z6,ai,hE,TL,Sp]
     have g3:i+(decodeL u i).2<=u.length:=by rw [bm];have:=jo ai;omega
     have qg:1<=(decodeL u i).2:=by rw [bm];omega
     rcases ZkS hE with ⟨e1,rfl⟩ | ⟨e1,rfl⟩ | ⟨e1,rfl⟩ | ⟨e1,rfl⟩
     all_goals (rw [e1] at l7;subst l7)
     all_goals (conv=>whnf)
     all_goals (refine ⟨oM,by first | omega | (simp;done) | (simp;omega),?_⟩)
     all_goals (conv=>whnf)
     all_goals (refine ⟨⟨.inl rfl,rfl,rfl,co,oM⟩,?_⟩)
     all_goals (conv=>whnf)
     all_goals (refine ⟨⟨false,_,_,f,_,rfl,?_,.inr rfl,⟨g3,oM,?_⟩,g1.symm⟩,?_⟩)
     all_goals (first | (rw [JC];rfl) | (rw [Ta];simp;omega) | exact (show u.length - (i+(decodeL u i).2)<u.length - i by omega))
    exact mq45
   conv=>whnf
   refine ZEH (fun h2=>wN ?_) (fun h2=>wN ?_)
   ·have ai:u.drop i≠[]:=fun g=>by have:=congrArg List.length g;rw [TG] at this;simp at this;omega
    refine Zi ?_;refine Zi ?_;refine ⟨⟨.inl rfl,oM,by rw [bm];omega⟩,wN ?_⟩;generalize hk:Zdd _ _=k;have l7:Zdd [110,116,34,92] ((Lib.decodeL (u.drop i)).1:Int)=k:=by rw [<- bm];exact hk
    cases hE:ZuT (Lib.decodeL (u.drop i)).1 with
    | none =>
     exact mq74
    | some b =>
    have g1:W2 (s.drop a)=Z6 f (u.drop (i+(decodeL u i).2)) false (l++[b]) (1+(i+(decodeL u i).2)):=by rw [<- gq,bm];simp [Z6,ai,hE,TL,Sp]
    have g3:i+(decodeL u i).2<=u.length:=by rw [bm];have:=jo ai;omega
    have qg:1<=(decodeL u i).2:=by rw [bm];omega
    rcases ZkS hE with ⟨e1,rfl⟩ | ⟨e1,rfl⟩ | ⟨e1,rfl⟩ | ⟨e1,rfl⟩
    all_goals (rw [e1] at l7;subst l7)
    all_goals (conv=>whnf)
    all_goals (refine ⟨oM,by first | omega | (simp;done) | (simp;omega),?_⟩)
    all_goals (conv=>whnf)
    all_goals (refine ⟨⟨.inr rfl,rfl,rfl,co,oM⟩,?_⟩)
    all_goals (conv=>whnf)
    all_goals (refine ⟨⟨false,_,_,f,_,rfl,?_,.inr rfl,⟨g3,oM,?_⟩,g1.symm⟩,?_⟩)
    all_goals (first | (rw [JC];rfl) | (rw [Ta];simp;omega) | exact (show u.length - (i+(decodeL u i).2)<u.length - i by omega))
   exact mq45
  | false =>
  rcases hp with rfl | rfl
  ·conv=>whnf
   refine ZEH (fun h2=>wN ?_) (fun h2=>wN ?_)
   ·have ai:u.drop i≠[]:=fun g=>by have:=congrArg List.length g;rw [TG] at this;simp at this;omega
    have g3:i+(decodeL u i).2<=u.length:=by rw [bm];have:=jo ai;omega
    have qg:1<=(decodeL u i).2:=by rw [bm];omega
    have po:((a:Int)+1+(i:Int)).toNat=a+1+i:=oM;have vp:s.drop (a+1+i)=u.drop i:=by rw [hu,TL]
    refine Zi ?_;refine Zi ?_;refine ⟨⟨oM,oM⟩,wN ?_⟩;refine ZEH (fun h3=>wN ?_) (fun h3=>wN ?_)
    ·have ef:(Lib.decodeL (u.drop i)).1=34:=by rw [bm] at h3;omega
     have g1:W2 (s.drop a)=.ok l (1+i+1):=by rw [<- gq];simp [Z6,ai,ef]
     refine Zi ?_;refine ⟨l,⟨rfl,rfl,rfl,.inl rfl,oM⟩,wN ?_⟩;exact mq105
    have ef:¬(Lib.decodeL (u.drop i)).1=34:=by rw [bm] at h3;omega
    refine ZEH (fun h4=>wN ?_) (fun h4=>wN ?_)
    ·have jt:(Lib.decodeL (u.drop i)).1=92:=by rw [bm] at h4;omega
     have g1:W2 (s.drop a)=Z6 f (u.drop (i+(decodeL u i).2)) true l (1+(i+(decodeL u i).2)):=by rw [<- gq,bm];simp [Z6,ai,ef,jt,TL,Sp]
     refine ⟨⟨true,_,_,f,_,rfl,rfl,.inl rfl,⟨g3,oM,oM⟩,g1.symm⟩,?_⟩;exact mq194
    have jt:¬(Lib.decodeL (u.drop i)).1=92:=by rw [bm] at h4;omega
    refine ZEH (fun h5=>wN ?_) (fun h5=>wN ?_)
    ·exact mq79
    have fq:¬(pk (u.drop i)).1<32:=by rw [po,vp] at h5;exact h5
    have g1:W2 (s.drop a)=Z6 f (u.drop (i+(decodeL u i).2)) false (l++Lib.encodeRune ((decodeL u i).1:Int)) (1+(i+(decodeL u i).2)):=by rw [<- gq,bm];simp [Z6,ai,ef,jt,fq,TL,Sp]
    have hen:=ZjD ((decodeL u i).1:Int);refine ⟨⟨.inl rfl,rfl,rfl,co,oM,oM,by rw [bm];omega⟩,wN ?_⟩;exact mq103
   exact mq45
  conv=>whnf
  refine ZEH (fun h2=>wN ?_) (fun h2=>wN ?_)
  ·have ai:u.drop i≠[]:=fun g=>by have:=congrArg List.length g;rw [TG] at this;simp at this;omega
   have g3:i+(decodeL u i).2<=u.length:=by rw [bm];have:=jo ai;omega
   have qg:1<=(decodeL u i).2:=by rw [bm];omega
   have po:((a:Int)+1+(i:Int)).toNat=a+1+i:=oM;have vp:s.drop (a+1+i)=u.drop i:=by rw [hu,TL]
   refine Zi ?_;refine Zi ?_;refine ⟨⟨oM,oM⟩,wN ?_⟩;refine ZEH (fun h3=>wN ?_) (fun h3=>wN ?_)
   ·have ef:(Lib.decodeL (u.drop i)).1=34:=by rw [bm] at h3;omega
    have g1:W2 (s.drop a)=.ok l (1+i+1):=by rw [<- gq];simp [Z6,ai,ef]
    refine Zi ?_;refine ⟨l,⟨rfl,rfl,rfl,.inr rfl,oM⟩,wN ?_⟩;exact mq105
   have ef:¬(Lib.decodeL (u.drop i)).1=34:=by rw [bm] at h3;omega
   refine ZEH (fun h4=>wN ?_) (fun h4=>wN ?_)
   ·have jt:(Lib.decodeL (u.drop i)).1=92:=by rw [bm] at h4;omega
    have g1:W2 (s.drop a)=Z6 f (u.drop (i+(decodeL u i).2)) true l (1+(i+(decodeL u i).2)):=by rw [<- gq,bm];simp [Z6,ai,ef,jt,TL,Sp]
    refine ⟨⟨true,_,_,f,_,rfl,rfl,.inr rfl,⟨g3,oM,oM⟩,g1.symm⟩,?_⟩;exact mq194
   have jt:¬(Lib.decodeL (u.drop i)).1=92:=by rw [bm] at h4;omega
   refine ZEH (fun h5=>wN ?_) (fun h5=>wN ?_)
   ·exact mq79
   have fq:¬(pk (u.drop i)).1<32:=by rw [po,vp] at h5;exact h5
   have g1:W2 (s.drop a)=Z6 f (u.drop (i+(decodeL u i).2)) false (l++Lib.encodeRune ((decodeL u i).1:Int)) (1+(i+(decodeL u i).2)):=by rw [<- gq,bm];simp [Z6,ai,ef,jt,fq,TL,Sp]
   have hen:=ZjD ((decodeL u i).1:Int);refine ⟨⟨.inr rfl,rfl,rfl,co,oM,oM,by rw [bm];omega⟩,wN ?_⟩;exact mq103
  exact mq45
 exact h.elim
def ZoQ (r:Bs) (h:0<r.length):XN r<=r.length/\XN r<=2:=by
 unfold XN
 split
 ·rename_i h1
  simp only [twos,List.any_cons,List.any_nil,Sz,Sw] at h1;rcases h1 with h1 | h1 | h1 | h1 | h1
  all_goals (have:=(Yp h1).1;omega)
 split <;> omega
def Xh (a:Nat) (r:Bs) (room:Bool):Jz a r room=if XN r=0/\(pk r).1≠34/\Zj (pk r).1=false/\Zq (pk r).1=false then .bad a 140
 else if room=false then .bad a 3
 else if 0<XN r then .tok ⟨4,r.take (XN r),0,a,a+XN r⟩
 else if (pk r).1=34 then Zem a r
 else if Zq (pk r).1=true then W3 a r
 else .tok ⟨1,r.take (VG r),0,a,a+VG r⟩:=rfl
def Zu9:OKw w0 nG [(186,ZbI),(273,ZkN),(187,UT),(229,Zdc),(274,ZkO),(275,Zcp),(188,ZhQ)] 242 Zfc:=by
 refine pwo Tryz.func242 fun args σ K h=>?_
 unfold Zfc at h
 split at h
 ·rename_i room t s a
  obtain ⟨⟨h0,h1,hs⟩,h⟩:=h;obtain ⟨a,rfl⟩:∃n:Nat,a=n:=⟨a.toNat,oM⟩
  simp only [Tl] at h;have uc:-1<=(pk (s.drop ((a:Int)).toNat)).1/\(pk (s.drop ((a:Int)).toNat)).1<=1114111:=WT (s.drop a);have ee:=ZoQ (s.drop a) hD;rw [TG] at ee;have cy:∀e:Nat,Jz a (s.drop a) room=.bad a e->K (.ret (.tuple [Zeo 0 [] 0 0 0,ZhP a e])) ⟨[.cells t [.d (.str s),.d (.int .i64 a)]],[],0⟩:=fun e g=>by
   rw [g] at h;exact h
  have xg:∀n:Nat,XN (s.drop a)=n->Jz a (s.drop a) room=.tok ⟨4,(s.drop a).take n,0,a,a+n⟩->K (.ret (.tuple [Zeo 4 (cut s ((a:Int)).toNat ((a:Int)+(n:Int)).toNat) 0 a ((a:Int)+(n:Int)),ZhP 0 0])) ⟨[.cells t [.d (.str s),.d (.int .i64 a)]],[],0⟩:=fun n g1 g2=>by
   rw [g2] at h;rw [Zgr,show ((a:Int)+(n:Int)).toNat - ((a:Int)).toNat=n by omega];exact h
  have ia:Jz a (s.drop a) room=.tok ⟨1,(s.drop a).take (VG (s.drop a)),0,a,a+VG (s.drop a)⟩->K (.ret (.tuple [Zeo 1 ((s.drop a).take (VG (s.drop a))) 0 a ((a:Int)+(VG (s.drop a):Int)),ZhP 0 0])) ⟨[.cells t [.d (.str s),.d (.int .i64 a)]],[],0⟩:=fun g=>by
   rw [g] at h;exact h
  refine pwv [] 1 false ?_;refine ⟨⟨oM,oM⟩,wN ?_⟩;refine ⟨⟨oM,oM,oM⟩,wN ?_⟩;generalize iv:(pk (s.drop ((a:Int)).toNat)).1=c at uc |-;have hc:(pk (s.drop a)).1=c:=iv;generalize dk:XN (s.drop ((a:Int)).toNat)=n;have hn:XN (s.drop a)=n:=dk;rw [hn] at ee;refine ZEH (fun h2=>?_) (fun h2=>?_)
  ·obtain rfl:n=0:=by omega
   conv=>whnf
   refine ZEJ (fun h3=>wN ?_) (fun h3=>?_)
   ·refine ⟨⟨oM,oM⟩,wN ?_⟩;refine ZEL (fun h4=>wN ?_) (fun h4=>?_)
    ·have jt:Zj c=false:=by simpa using h4
     refine ZEL (fun h5=>wN ?_) (fun h5=>?_)
     ·have fq:Zq c=false:=by simpa using h5
      (try (refine ⟨rfl,?_⟩;conv=>whnf))
      (try (refine ⟨rfl,?_⟩;conv=>whnf))
      exact cy 140 (by rw [Xh,hn,hc,Tj ⟨rfl,h3,jt,fq⟩])
     have fq:Zq c=true:=by simpa using h5
     have jm:¬(0=0/\c≠34/\Zj c=false/\Zq c=false):=fun g=>by rw [fq] at g;simp at g
     cases room with
     | false =>
      exact mq51
     | true =>
     conv=>whnf
     refine ZEH (fun h6=>?_) (fun h6=>wN ?_)
     ·exact absurd h6 (by simpa using h3)
     refine ZEL (fun h7=>wN ?_) (fun h7=>?_)
     ·refine ⟨⟨oM,oM,oM⟩,wN ?_⟩;have g:Jz a (s.drop a) true=W3 a (s.drop a):=by
       rw [Xh,hn,hc,Tf jm,Tf sM,Tf oM,Tf h3,Tj fq]
      rw [g] at h;exact h
     rw [fq] at h7;cases h7
    have jt:Zj c=true:=by simpa using h4
    have fq:Zq c=false:=by
     have afi:(c=95\/128<=c\/(97<=c/\c<=122)\/(65<=c/\c<=90)):=by simpa [Zj] using jt
     simp only [Zq,decide_eq_false_iff_not];omega
    have jm:¬(0=0/\c≠34/\Zj c=false/\Zq c=false):=fun g=>by rw [jt] at g;simp at g
    cases room with
    | false =>
     exact mq51
    | true =>
    conv=>whnf
    refine ZEH (fun h6=>?_) (fun h6=>wN ?_)
    ·exact absurd h6 (by simpa using h3)
    refine ZEL (fun h7=>?_) (fun h7=>wN ?_)
    ·rw [fq] at h7;cases h7
    refine ⟨⟨oM,oM,oM⟩,wN ?_⟩;exact ia (by rw [Xh,hn,hc,Tf jm,Tf sM,Tf oM,Tf h3,Tf (by rw [fq];simp)])
   obtain rfl:c=34:=h3;have jm:¬(0=0/\(34:Int)≠34/\Zj 34=false/\Zq 34=false):=fun g=>g.2.1 rfl
   cases room with
   | false =>
    exact mq51
   | true =>
   conv=>whnf
   refine ⟨⟨oM,oM,oM⟩,wN ?_⟩;have g:Jz a (s.drop a) true=Zem a (s.drop a):=by
    rw [Xh,hn,hc,Tf jm,Tf sM,Tf oM,Tj rfl]
   rw [g] at h;exact h
  have jm:¬(n=0/\c≠34/\Zj c=false/\Zq c=false):=fun g=>by omega
  cases room with
  | false =>
   exact mq51
  | true =>
  conv=>whnf
  refine ZEH (fun h6=>wN ?_) (fun h6=>?_)
  ·refine Zi ?_;refine ⟨oM,oM,oM,wN ?_⟩;refine Zi ?_
   (try (refine ⟨rfl,?_⟩;conv=>whnf))
   (try (refine ⟨rfl,?_⟩;conv=>whnf))
   exact xg n hn (by rw [Xh,hn,hc,Tf jm,Tf sM,Tj oM])
  omega
 exact h.elim
def Zh0:∀(f:Nat) (r:Bs),YY f r<=r.length
 | 0,r=>T7 _
 | f+1,r=>by
  have ih:=Zh0 f (r.drop (pk r).2);rw [TG] at ih;have hl:(pk r).1≠-1->(pk r).2<=r.length:=fun h=>(ZyT r h).2.1
  unfold YY
  split
  ·rename_i h;have:=hl oM;split <;> omega
  split
  ·rename_i h
   have:=hl (fun h1=>by rw [h1,ZbK,Zdf] at h;simp at h);omega
  omega
def ZoR (r:Bs) (h:Zj (pk r).1=true):1<=VG r/\VG r<=r.length:=by
 refine ⟨?_,Zh0 _ _⟩;have:=ZoK r;have h46:¬(pk r).1=46:=fun g=>by rw [g] at h;revert h;decide
 rw [VG,ZhU h46 (.inl h)];omega
def UU:∀(f:Nat) (r:Bs) (esc:Bool) (acc:Bs) (p:Nat) (t:Bs) (l:Nat),Z6 f r esc acc p=.ok t l->p<l/\l<=p+r.length
 | 0,r,esc,acc,p,t,l,h=>by simp [Z6] at h
 | f+1,r,esc,acc,p,t,l,h=>by
  unfold Z6 at h
  split at h
  ·cases h
  rename_i ai
  have hd:=Lib.decodeL_le r ai;have hr:=Zgw r;split at h
  ·split at h
   ·cases h
   have:=UU f _ _ _ _ _ _ h;rw [TG] at this;omega
  split at h
  ·cases h;have:=List.length_pos_iff.2 ai;omega
  split at h
  ·have:=UU f _ _ _ _ _ _ h;rw [TG] at this;omega
  split at h
  ·cases h
  have:=UU f _ _ _ _ _ _ h;rw [TG] at this;omega
def ZoS (r:Bs):ZE r<=r.length:=by
 unfold ZE Zd
 have:=Us (Wa (Vi r)) (r.drop (if Vi r then 2 else 0));rw [TG] at this
 by_cases h:Vi r=true
 ·have:=(Yp h).1;simp only [h,if_true] at *;omega
 simp only [h,Tu,if_false] at *;omega
def ZoT {a:Nat} {r:Bs} {room:Bool} {t:Tok} (h0:0<r.length) (h:Jz a r room=.tok t):t.at'=a/\a<t.fin/\t.fin<=a+r.length:=by
 rw [Xh] at h;split at h
 ·cases h
 rename_i g0
 split at h
 ·cases h
 split at h
 ·cases h;rename_i g1;have:=ZoQ r h0;exact ⟨rfl,by simp only;omega,by simp only;omega⟩
 rename_i g1
 split at h
 ·unfold Zem at h
  split at h
  ·cases h
  rename_i t' l hx
  cases h
  have:=UU _ _ _ _ _ _ _ hx;rw [TG] at this;exact ⟨rfl,by simp only;omega,by simp only;omega⟩
 rename_i g2
 split at h
 ·rename_i g3
  unfold W3 at h
  split at h
  ·cases h
  rename_i n hx
  cases h
  have ak:=ZoS r;refine ⟨rfl,?_,by simp only;omega⟩;simp only;have ai:Zd r≠[]:=fun g=>by rw [ZZ,Tj g] at hx;cases hx
  have:=List.length_pos_iff.2 ai;unfold ZE;omega
 rename_i g3
 cases h
 have h4:Zj (pk r).1=true:=by
  cases hb:Zj (pk r).1 with
  | true=>rfl
  | false=>exact absurd ⟨oM,g2,hb,by simpa using g3⟩ g0
 have:=ZoR r h4;exact ⟨rfl,by simp only;omega,by simp only;omega⟩
def ZoU {a:Nat} {r:Bs} {room:Bool} {p e:Nat} (h:Jz a r room=.bad p e):e≠0/\e<=142:=by
 rw [Xh] at h
 repeat' split at h
 all_goals first | (cases h;done) | (cases h;omega) | (cases h;decide) | skip
 ·unfold Zem at h;split at h <;> cases h;decide
 unfold W3 at h;split at h <;> cases h;decide
def Zdh:∀(f:Nat) (r:Bs),(ZU f r).2<=r.length
 | 0,r=>T7 _
 | f+1,r=>by
  have zx:=Uq (([32,9,13,10]:Bs).contains ·) r
  obtain ⟨rest,am⟩:∃x,x=Lib.trimLeftS r [32,9,13,10]:=⟨_,rfl⟩
  have dc:rest.length<=r.length:=by rw [am];exact zx.2
  simp only [ZU,<- am];split
  ·rename_i h1
   have ih:=fun n=>Zdh f (rest.drop n)
   have ab:=Ur 10 rest;have i6:=Lib.indexByte_ge rest 10;have ih2:=ih (if Lib.indexByte rest 10<0 then rest.length else (Lib.indexByte rest 10).toNat);rw [TG] at ih2;simp only;have:(if Lib.indexByte rest 10<0 then rest.length else (Lib.indexByte rest 10).toNat)<=rest.length:=by split <;> omega
   omega
  split
  ·rename_i h1 h2
   have hl:=(Yp h2).1;split
   ·simp only;omega
   rename_i h3
   have ak:=Zgs [42,47] (rest.drop 2) oM;simp only [TG,Te,Tg] at ak;have ih2:=Zdh f (rest.drop ((Lib.index (rest.drop 2) [42,47]).toNat+4));rw [TG] at ih2;simp only;omega
  simp only;omega
end Go.PM.Lex
end

section
namespace Go.PM
def ZoV (T:Tab) (tbl:Tbl) (it:Zrk) (gid:FuncId) (fn:Func):Zrk:=fun g args raw σ K=>∃loops,ZoF T tbl it gid fn loops g args raw σ K
def ZjE {G : GE} {T : Tab} {tbl : Tbl} (hT : TabOK T G.P) (be : G.P.follows .mixedOrders = true) (ht : TblOK G tbl) (hm : TblM tbl) {it : Zrk} (mh : Uh G it) {gid : FuncId} {fn : Func} {c : Code} (hf : G.P.funcs[gid]? = some fn) (hb : fn.body = some c) (av : (fn.name == "runtime.NumGoroutine") = false)
  (ax:ZA fn.ntmps c=true):Uh G (ZoV T tbl it gid fn):=fun g args raw σ K h=>by
 obtain ⟨loops,h⟩:=h;exact ZmC hT be ht hm mh hf hb av ax loops g args raw σ K h
end Go.PM
namespace Go.PM.Lex
open Go.Proofs
variable {w0:World} {nG:Nat}
def ZoW:Zp:=fun args σ K=>match args,σ with
 | [.d (.str s),.d (.int .i64 m)],⟨[],[],0⟩=>K (.ret (.func 240 [] [.ptr 0 0,.ptr 1 0])) ⟨[.cells 9 [.d (.str s)],.cells 3 [.d (.int .i64 m)]],[],0⟩
 | _,_=>False
def ZmJ:ZG ZoW:=fun args σ K K' hK h=>by
 unfold ZoW at h |-;split at h <;> first | exact hK _ _ h | exact h.elim
def ZyX:PC w0 nG 205 ZoW:=by
 refine pwe Tryz.func205 fun args σ K h=>?_
 unfold ZoW at h
 split at h
 ·rename_i s m
  refine pwv [] 2 false ?_;exact h
 exact h.elim
def ZyY (t:Tok):List D:=[.int .u8 t.kind,.str t.text,.int .i64 t.n,.int .i64 t.at',.int .i64 t.fin]
def ZR (l:List Tok):List (List D):=l.map ZyY
def XO (l:List Tok):(ZR l).length=l.length:=by simp [ZR]
def ZmK (l:List Tok) (t:Tok):ZR (l++[t])=ZR l++[ZyY t]:=by simp [ZR]
def Zag:Zp:=fun args σ K=>match args,σ with
 | [.d (.str s),.d (.int .i64 m)],⟨[],[],0⟩=>s.length<4294967281 /\
   K (.ret (.tuple [.d (.sl (if (Zen s m).2.2=0 then ZR (Zen s m).1 else [])),.d (.int .i64 (Zen s m).2.1),.d (.int .i64 (Zen s m).2.2)])) ⟨[],[],0⟩
 | _,_=>False
def Zgx:Tbl:=[(241,Za5),(242,Zfc)]
def ZB6:Zrk:=ZoV Jy Zgx Zc9 240 Tryz.f240
def ZoY (ht:TO w0 nG Zgx):Uh (GG w0 nG) ZB6:=ZjE ZI mixed ht ⟨ZhR,ZjA,trivial⟩ Zfa Tryz.func240 rfl kR kR
def muX (B:Int) (k:Nat):List PV->St->Nat:=fun _ σ=>match σ.bx[k]? with | some (.cells _ (_::.d (.int _ n)::_))=>(B - n).toNat | _=>0
def ZoZ (fe:TO w0 nG Zgx) (ht:TO w0 nG [(205,ZoW)]):PC w0 nG 150 Zag:=by
 refine ZuS ZI mixed ht ⟨ZmJ,trivial⟩ (ZoY fe) Tryz.func150 rfl kR kR ?_;intro args σ K h
 unfold Zag at h
 split at h
 ·rename_i s m
  obtain ⟨hs,h⟩:=h;refine ⟨Zo [],0,false,sM,Tc rfl,wN ?_⟩;intro y r
  refine ⟨Zo [(3,⟨[5],[0,1,2,4],fun vs σ=>∃(l:List Tok) (e f:Nat),vs=[.d (.int .i64 (l.length:Int))] /\
   σ=⟨[.cells 134 [.sl 0 196 []],.cells 3 [.d (.int .i64 0)],.cells 35 [.d (.int .i64 0)],.cells 134 [.sl 1 196 (ZR l)],.cells 9 [.d (.str s)],.cells 3 [.d (.int .i64 m)],.loop .ready none r,.cells 250 [.d (.str s),.d (.int .i64 e)]],[1,0],2⟩ /\
   (e<=s.length/\s.length<e+f/\l.length<=e)/\Zen s m=(l++(Um f (m - l.length) e (s.drop e)).1,(Um f (m - l.length) e (s.drop e)).2),muX s.length 7⟩)],rfl,?_⟩
  conv=>whnf
  refine ⟨⟨[],0,s.length+1,rfl,rfl,⟨oM,oM,sM⟩,by simp [Zen]⟩,?_⟩;intro vs σ1 hI
  obtain ⟨l,e,f,rfl,rfl,⟨zw,pu,ak⟩,cf⟩:=hI;obtain ⟨f,rfl⟩:∃g,f=g+1:=⟨f - 1,oM⟩
  have cm:(YN (s.drop e)).2<=s.length - e:=by have:(YN (s.drop e)).2<=(s.drop e).length:=Zdh _ _;rw [TG] at this;exact this
  have cy:∀p c:Nat,(Um (f+1) (m - l.length) e (s.drop e)).2=(p,c)->c≠0->K (.ret (.tuple [.d (.sl []),.d (.int .i64 p),.d (.int .i64 c)])) ⟨[],[],0⟩:=fun p c g1 g2=>by
   have e1:(Zen s m).2=(p,c):=by rw [cf];exact g1
   rw [e1] at h;simp only at h;rw [Tf g2] at h;exact h
  have d7:Um (f+1) (m - l.length) e (s.drop e)=([],(0,0))->K (.ret (.tuple [.d (.sl (ZR l)),.d (.int .i64 0),.d (.int .i64 0)])) ⟨[],[],0⟩:=fun g=>by
   rw [cf,g] at h;simp only [T1,if_true] at h;exact h
  conv=>whnf
  refine ⟨⟨oM,oM,oM⟩,wN ?_⟩;generalize hk0:(YN (s.drop ((e:Int)).toNat)).2=k;have hk:(YN (s.drop e)).2=k:=hk0;rw [hk] at cm;refine ZEL (fun h2=>wN ?_) (fun h2=>wN ?_)
  ·have dl:(YN (s.drop e)).1=false:=by simpa using h2
   have g1:Um (f+1) (m - l.length) e (s.drop e)=([],(e+k,140)):=by rw [Um,Tj dl,hk]
   have g2:=cy _ _ (by rw [g1]) dM;rw [show ((e+k:Nat):Int)=(e:Int)+(k:Int) by omega] at g2;refine ⟨rfl,rfl,rfl,wN ?_⟩;refine ⟨rfl,wN ?_⟩
   iterate 6 (try (refine ⟨rfl,?_⟩;conv=>whnf))
   exact g2
  have dl:(YN (s.drop e)).1=true:=by simpa using h2
  have co:¬(YN (s.drop e)).1=false:=by rw [dl];simp
  refine ZEH (fun h3=>wN ?_) (fun h3=>wN ?_)
  ·have eo:(s.drop e).drop k=[]:=by rw [TL];exact Tv oM
   have g1:Um (f+1) (m - l.length) e (s.drop e)=([],(0,0)):=by rw [Um,Tf co,hk,Tj eo]
   exact d7 g1
  have ab:e+k<s.length:=by omega
  have ai:¬(s.drop e).drop k=[]:=fun g=>by have:=congrArg List.length g;rw [TL,TG] at this;simp at this;omega
  have g1:Um (f+1) (m - l.length) e (s.drop e)=(match Jz (e+k) (s.drop (e+k)) (decide ((l.length:Int)<m)) with
    | .bad p e=>([],(p,e))
    | .tok t=>(t::(Um f (m - l.length - 1) t.fin ((s.drop (e+k)).drop (t.fin - (e+k)))).1,(Um f (m - l.length - 1) t.fin ((s.drop (e+k)).drop (t.fin - (e+k)))).2)):=by
   rw [Um,Tf co,hk,Tf ai,TL,show (decide (0<m - (l.length:Int)))=decide ((l.length:Int)<m) from by rw [decide_eq_decide];omega] <;> rfl
  refine ⟨⟨oM,oM,oM⟩,wN ?_⟩;generalize iz:Jz ((e:Int)+(k:Int)).toNat (s.drop ((e:Int)+(k:Int)).toNat) _=x;have hx:Jz (e+k) (s.drop (e+k)) (decide ((l.length:Int)<m))=x:=by
   rw [show ((e:Int)+(k:Int)).toNat=e+k by omega] at iz;exact iz
  rw [hx] at g1
  cases x with
  | bad p c =>
   have hc:=ZoU hx;have g2:=cy p c (by rw [g1]) hc.1;(conv=>whnf);refine ⟨rfl,rfl,rfl,wN ?_⟩;refine ⟨rfl,wN ?_⟩;refine ZEJ (fun h4=>wN ?_) (fun h4=>?_)
   ·iterate 6 (try (refine ⟨rfl,?_⟩;conv=>whnf))
    exact g2
   exact absurd h4 (by have:((c:Nat):Int)≠0:=oM;exact this)
  | tok t =>
  obtain ⟨fe,ki,ht3⟩:=ZoT hD hx;rw [TG] at ht3;(conv=>whnf);refine ⟨rfl,rfl,rfl,wN ?_⟩;refine ⟨rfl,wN ?_⟩;refine ⟨fun r hr=>by (simp at hr;subst hr;rfl),(show ((ZR l).length+1) * 48<=2 ^ 47 by rw [XO];omega),(show (ZR l).length+1<=2 ^ 47 by rw [XO];omega),wN ?_⟩
  iterate 3 (try (refine ⟨rfl,?_⟩;conv=>whnf))
  refine Zi ?_;refine ⟨⟨l++[t],t.fin,f,?_,?_,⟨oM,oM,by rw [Ta];simp;omega⟩,?_⟩,?_⟩
  ·rw [Ta];rfl
  ·rw [ZmK];rfl
  ·have hd:(s.drop (e+k)).drop (t.fin - (e+k))=s.drop t.fin:=by rw [TL,show e+k+(t.fin - (e+k))=t.fin by omega]
   rw [cf,g1,Ta];simp only [hd,Te,Tg,Int.natCast_add,Int.sub_sub,To,Sf,Sn];rfl
  exact (show ((s.length:Int) - (t.fin:Int)).toNat<((s.length:Int) - (e:Int)).toNat by omega)
 exact h.elim
end Go.PM.Lex
end

section
namespace Go.PM.Lex
open Go.Proofs
variable {w0:World} {nG:Nat}
def ZyZ:Tbl:=[(306,ZBX),(307,Zdg)]
def Zh1 (hg:GlobOK w0 nG):PC w0 nG 293 JA:=by
 refine pwt (tbl:=ZyZ) ⟨ZBZ,ZmI hg,trivial⟩ Tryz.func293 fun args σ K h=>?_
 unfold JA at h
 split at h
 ·rename_i l base bits
  obtain ⟨fk,⟨hl,rfl,rfl⟩,cy,dv⟩:=h;refine pwv [] 0 false ?_;refine ⟨fk,⟨hl,rfl,rfl⟩,fun h0=>?_,fun h0 h1=>?_,fun h0 h1=>?_⟩
  ·conv=>whnf
   refine ⟨⟨.inr rfl,hl.2⟩,wN ?_⟩;exact cy (.inl h0) _
  ·conv=>whnf
   refine ⟨⟨.inl rfl,hl.2⟩,wN ?_⟩;exact cy (.inr h1) _
  conv=>whnf
  exact dv (by simp only [not_or];exact ⟨h0,h1⟩)
 exact h.elim
def Zo0:PC w0 nG 186 ZbI:=ZuW ⟨ZmD,WS,trivial⟩
def ZB7:PC w0 nG 273 ZkN:=ZuY ⟨WS,Uo,trivial⟩
def Zy0:PC w0 nG 188 ZhQ:=Zu0 ⟨Zo0,Zaf,Zgp,trivial⟩
def Zy1 (hg:GlobOK w0 nG):PC w0 nG 241 Za5:=ZrP ⟨Zjz,WS,Uo,ZrM (by have:=hg.big;omega) hg.maxLen,trivial⟩
def Zva (hg:GlobOK w0 nG):PC w0 nG 275 Zcp:=ZoN ⟨WS,Zgp,Zh1 hg,Zo0,Zaf,trivial⟩
def Zh2:PC w0 nG 264 JB:=YI (Ze Tryz.func264 kR rfl) fun args σ K h e w vs hS ha=>by
 unfold JB at h
 split at h
 ·obtain ⟨u,rfl,hu⟩:=Zgo ha
  cases hu.dint
  exact ⟨_,h,_,fun _ _=>.mkbool,(Tryz.utf8_ValidRune _ w).mono fun en w' ⟨h1,h2⟩=>⟨h1,by rw [h2];exact Grows.refl _⟩⟩
 exact h.elim
def Zff:PC w0 nG 233 Ww:=ZhZ ⟨Uo,Zh2,trivial⟩
def ZB8:PC w0 nG 274 ZkO:=Zu7 ⟨Zff,ZbM,Zo0,ZbN,ZhT,trivial⟩
def ZB9 (hg:GlobOK w0 nG):PC w0 nG 242 Zfc:=Zu9 ⟨Zo0,ZB7,Zaf,Zgp,ZB8,Zva hg,Zy0,trivial⟩
def ZCa (hg:GlobOK w0 nG):TO w0 nG Zgx:=⟨Zy1 hg,ZB9 hg,trivial⟩
def Zvb (hg:GlobOK w0 nG):PC w0 nG 150 Zag:=ZoZ (ZCa hg) ⟨ZyX,trivial⟩
structure T0 where
 kind:Nat
 text:Bs
 n:Int
 deriving DecidableEq
def Tok.t0 (t:Tok):T0:=⟨t.kind,t.text,t.n⟩
abbrev Ts:=List T0
inductive R (α:Type) where
 | ok (a:α) (ts:Ts) | err (r e:Nat)
def R.bind {α β:Type} (x:R α) (f:α->Ts->R β):R β:=match x with
 | .ok a ts=>f a ts
 | .err r e=>.err r e
@[simp] theorem R.bind_ok {α β:Type} (a:α) (ts:Ts) (f:α->Ts->R β):(R.ok a ts).bind f=f a ts:=rfl
@[simp] theorem R.bind_err {α β:Type} (r e:Nat) (f:α->Ts->R β):(R.err r e:R α).bind f=.err r e:=rfl
inductive Ex where
 | mk (op:Nat) (text:Bs) (n:Int) (args:List Ex) (at':Nat)
inductive Li where
 | mk (op:Nat) (rel:Bs) (args:List Ex) (body:List Li) (at':Nat)
structure Ru where
 head:Bs
 args:List Ex
 body:List Li
 at':Nat
structure Fi where
 name:Bs
 typ:Bs
structure Ca where
 name:Bs
 fields:List Fi
structure Ty where
 kind:Nat
 name:Bs
 base:Bs
 fields:List Fi
 cases:List Ca
 at':Nat
structure Re where
 name:Bs
 fields:List Fi
 inn:Bool
 out:Bool
 inl:Bool
 at':Nat
structure Ini where
 name:Bs
 comp:Bs
 types:List Bs
 at':Nat
structure Ov where
 rel:Bs
 at':Nat
mutual
inductive Un where
 | mk (types:List Ty) (rels:List Re) (rules:List Ru) (comps:List Co) (inits:List Ini) (overs:List Ov)
inductive Co where
 | mk (name:Bs) (params:List Bs) (base:Bs) (types:List Bs) (unit:Un) (at':Nat)
end
def hd (ts:Ts):T0:=match ts with
 | []=>⟨0,[],0⟩
 | t::_=>t
def YJ (s:Bs):Nat :=
 if s=[99,97,116] then 20 else if s=[115,116,114,108,101,110] then 21 else if s=[115,117,98,115,116,114] then 22 else if s=[99,111,100,101] then 23 else if s=[115,116,114] then 24 else if s=[110,117,109] then 25 else 0
def keptWords:List Bs:=[[116,121,112,101],[100,101,99,108],[105,110,112,117,116],[111,117,116,112,117,116],[105,110,108,105,110,101],[99,111,109,112],[105,110,105,116],[111,118,101,114,114,105,100,101],[110,105,108],[99,111,117,110,116],[115,117,109],[109,105,110],[109,97,120],[98,111,114],[98,120,111,114],[98,97,110,100],[115,104,108],[115,104,114]]
def ZmL (s:Bs):Bool:=keptWords.contains s || decide (YJ s≠0)
def isW (ts:Ts) (ws:List Bs):Bool:=(decide ((hd ts).kind=1) || decide ((hd ts).kind=4)) && ws.contains (hd ts).text
def ZM (ts:Ts):Bool:=decide ((hd ts).kind=1) && (!decide ((hd ts).text=[95]) && !ZmL (hd ts).text)
def Z0 (ts:Ts):Bool :=
 if (hd ts).kind=2\/(hd ts).kind=3 then true
 else if (hd ts).kind=4 then isW ts [[45],[126],[40],[91],[36]]
 else if (hd ts).kind=1 then !ZmL (hd ts).text || (decide ((hd ts).text=[110,105,108]) || decide (YJ (hd ts).text≠0))
 else false
def Za6 (ts:Ts):Nat×Nat :=
 if (hd ts).kind≠1/\(hd ts).kind≠4 then (0,0)
 else if (hd ts).text=[98,111,114] then (1,16) else if (hd ts).text=[98,120,111,114] then (1,17) else if (hd ts).text=[98,97,110,100] then (2,15) else if (hd ts).text=[115,104,108] then (3,18) else if (hd ts).text=[115,104,114] then (3,19)
 else if (hd ts).text=[43] then (4,10) else if (hd ts).text=[45] then (4,11) else if (hd ts).text=[42] then (5,12) else if (hd ts).text=[47] then (5,13) else if (hd ts).text=[37] then (5,14) else (0,0)
def Z1 (w:Bs) (ts:Ts):R Unit:=if isW ts [w]=true then .ok () ts.tail else .err ts.length 150
def XT (ts:Ts):R Bs:=if ZM ts=true then .ok (hd ts).text ts.tail else .err ts.length 150
def Zx {α:Type} (d:Nat) (fr tw:Bs) (read:Ts->R α) (ts:Ts):R α :=
 if isW ts [fr]=true then
  (if d=0 then .err ts.length 151 else (read ts.tail).bind fun x ts=>if tw=[] then .ok x ts else (Z1 tw ts).bind fun _ ts=>.ok x ts)
 else .err ts.length 150
def Wx {α:Type} (sign:Bs) (ao:Nat) (starts:Ts->Bool) (one:Ts->R α):Nat->List α->Ts->R (List α)
 | 0,_,_=>.err 0 150
 | f+1,l,ts=>if starts ts=true/\l.length=ao then .err ts.length 3
   else (one ts).bind fun x ts=>if isW ts [sign]=true then Wx sign ao starts one f (l++[x]) ts.tail else .ok (l++[x]) ts
def XU {α:Type} (sign:Bs) (ao:Nat) (starts:Ts->Bool) (one:Ts->R α) (ts:Ts):R (List α):=Wx sign ao starts one (ts.length+1) [] ts
def Uv (ts:Ts):R Fi:=(XT ts).bind fun a ts=>(Z1 [58] ts).bind fun _ ts=>(XT ts).bind fun b ts=>.ok ⟨a,b⟩ ts
def Za7 (fin:Bs) (ts:Ts):R (List Fi):=if isW ts [fin]=true then .ok [] ts else XU [44] 12 ZM Uv ts
def Zfg (ts:Ts):R (List Bs):=if isW ts [[60]]=true then (XU [44] 12 ZM XT ts.tail).bind fun l ts=>(Z1 [62] ts).bind fun _ ts=>.ok l ts else .ok [] ts
def Zdi (ts:Ts):R Ca:=(XT ts).bind fun a ts=>(Z1 [123] ts).bind fun _ ts=>(Za7 [125] ts).bind fun l ts=>(Z1 [125] ts).bind fun _ ts=>.ok ⟨a,l⟩ ts
def Zh3 (t0:Ts):R Ty:=(XT t0).bind fun nm ts =>
 if isW ts [[60,58]]=true then (XT ts.tail).bind fun b ts=>.ok ⟨1,nm,b,[],[],t0.length⟩ ts
 else (Z1 [61] ts).bind fun _ ts =>
  if isW ts [[91]]=true then (Za7 [93] ts.tail).bind fun l ts=>(Z1 [93] ts).bind fun _ ts=>.ok ⟨2,nm,[],l,[],t0.length⟩ ts
  else (XU [124] 64 ZM Zdi ts).bind fun l ts=>.ok ⟨3,nm,[],[],l,t0.length⟩ ts
def Y4:Nat->Bool->Bool->Bool->Ts->(Bool×Bool×Bool)×Ts
 | 0,i,o,n,ts=>((i,o,n),ts)
 | f+1,i,o,n,ts=>if i=false/\isW ts [[105,110,112,117,116]]=true then Y4 f true o n ts.tail
   else if o=false/\isW ts [[111,117,116,112,117,116]]=true then Y4 f i true n ts.tail
   else if n=false/\isW ts [[105,110,108,105,110,101]]=true then Y4 f i o true ts.tail
   else ((i,o,n),ts)
def Zo1 (t0:Ts):R Re:=(XT t0).bind fun nm ts=>(Z1 [40] ts).bind fun _ ts=>(Za7 [41] ts).bind fun l ts=>(Z1 [41] ts).bind fun _ ts =>
 .ok ⟨nm,l,(Y4 4 false false false ts).1.1,(Y4 4 false false false ts).1.2.1,(Y4 4 false false false ts).1.2.2,t0.length⟩ (Y4 4 false false false ts).2
def Zh4 (d:Nat) (ex:Ts->R Ex) (fr tw:Bs) (ts:Ts):R (List Ex):=Zx d fr tw (fun ts=>if isW ts [tw]=true then .ok [] ts else XU [44] 12 Z0 ex ts) ts
def Zah (ex:Ts->R Ex):Nat->List Ex->Ts->R (List Ex)
 | 0,l,ts=>.ok l ts
 | k+1,l,ts=>(if l=[] then .ok () ts else Z1 [44] ts).bind fun _ ts=>(ex ts).bind fun e ts=>Zah ex k (l++[e]) ts
def ZmM (op:Nat):Nat:=if op=22 then 3 else if op=20 then 2 else 1
def Zai (d:Nat) (ex:Ts->R Ex) (ts:Ts):R Ex :=
 if Z0 ts=false then .err ts.length 150
 else if (hd ts).kind=2 then .ok (.mk 3 [] (hd ts).n [] ts.length) ts.tail
 else if (hd ts).kind=3 then .ok (.mk 4 (hd ts).text 0 [] ts.length) ts.tail
 else if (hd ts).text=[40] then Zx d [40] [41] ex ts
 else if (hd ts).text=[91] then (Zh4 d ex [91] [93] ts).bind fun l ts'=>.ok (.mk 6 [] 0 l ts.length) ts'
 else if (hd ts).text=[36] then (XT ts.tail).bind fun nm ts'=>if isW ts' [[40]]=true then (Zh4 d ex [40] [41] ts').bind fun l ts'=>.ok (.mk 7 nm 0 l ts.length) ts' else .ok (.mk 7 nm 0 [] ts.length) ts'
 else if YJ (hd ts).text≠0 then (Zx d [40] [41] (Zah ex (ZmM (YJ (hd ts).text)) []) ts.tail).bind fun l ts'=>.ok (.mk (YJ (hd ts).text) [] 0 l ts.length) ts'
 else if (hd ts).text=[110,105,108] then .ok (.mk 5 [] 0 [] ts.length) ts.tail
 else if (hd ts).text=[95] then .ok (.mk 2 [] 0 [] ts.length) ts.tail
 else .ok (.mk 1 (hd ts).text 0 [] ts.length) ts.tail
def Ex.at':Ex->Nat | .mk _ _ _ _ a=>a
def Jg (sub:Nat->Ts->R Ex) (least:Nat):Nat->Ex->Ts->R Ex
 | 0,_,_=>.err 0 150
 | f+1,e,ts=>if (Za6 ts).1<least\/(Za6 ts).1=0 then .ok e ts
   else (sub ((Za6 ts).1+1) ts.tail).bind fun g ts'=>Jg sub least f (.mk (Za6 ts).2 [] 0 [e,g] e.at') ts'
def JD (sg:Ts->R Ex):Nat->Nat->Ts->R Ex
 | 0,_,ts=>sg ts
 | k+1,least,ts=>(sg ts).bind fun e ts=>Jg (JD sg k) least (ts.length+1) e ts
def Zdj (d:Nat) (sg:Ts->R Ex) (ts:Ts):R Ex :=
 if isW ts [[45]]=true then (Zx d [45] [] sg ts).bind fun e ts'=>.ok (.mk 8 [] 0 [e] ts.length) ts'
 else if isW ts [[126]]=true then (Zx d [126] [] sg ts).bind fun e ts'=>.ok (.mk 9 [] 0 [e] ts.length) ts'
 else Zai d (JD sg 6 1) ts
def Xy:Nat->Ts->R Ex
 | 0=>Zdj 0 fun _=>.err 0 150
 | d+1=>Zdj (d+1) (Xy d)
def Zaj (d:Nat) (ts:Ts):R Ex:=JD (Xy d) 6 1 ts
def Zdk:Nat->Ts->R Ex
 | 0=>fun _=>.err 0 150
 | d+1=>Zaj d
def ZbO (ts:Ts):Nat->List Bs->Option Nat
 | _,[]=>none
 | i,w::ws=>if isW ts [w]=true then some i else ZbO ts (i+1) ws
def Z2:List Bs:=[[61],[33,61],[60],[60,61],[62],[62,61]]
def Yq:List Bs:=[[99,111,117,110,116],[115,117,109],[109,105,110],[109,97,120]]
def Zdl (ts:Ts):R Nat:=match ZbO ts 0 Z2 with
 | none=>.err ts.length 150
 | some 0=>match ZbO ts.tail 0 Yq with
  | some j=>.ok (9+j) ts.tail.tail
  | none=>.ok 3 ts.tail
 | some k=>.ok (3+k) ts.tail
def Zdm (d op a:Nat) (ts:Ts):R Li:=(XT ts).bind fun nm ts=>(Zh4 d (Zdk d) [40] [41] ts).bind fun l ts=>.ok (.mk op nm l [] a) ts
def Wy (d:Nat) (bd:Ts->R (List Li)) (a op:Nat) (l:List Ex) (ts:Ts):R Li :=
 if 9<=op then (Z1 [58] ts).bind fun _ ts=>(Zx d [123] [125] bd ts).bind fun b ts=>.ok (.mk op [] l b a) ts
 else .ok (.mk op [] l [] a) ts
def ZkT (d:Nat) (bd:Ts->R (List Li)) (t0:Ts):R Li:=(Zaj d t0).bind fun e ts=>(Zdl ts).bind fun op ts =>
 if op=9 then Wy d bd t0.length op [e] ts else (Zaj d ts).bind fun g ts=>Wy d bd t0.length op [e,g] ts
def ZmN (d:Nat) (bd:Ts->R (List Li)) (t0:Ts):R Li :=
 if isW t0 [[33]]=true then Zdm d 2 t0.length t0.tail
 else if ZM t0=true/\(hd t0.tail).kind=4/\(hd t0.tail).text=[40] then Zdm d 1 t0.length t0
 else ZkT d bd t0
def Ya (ts:Ts):Bool:=Z0 ts || isW ts [[33]]
def ZmO:Nat->Ts->R (List Li)
 | 0=>XU [44] 32 Ya (ZmN 0 fun _=>.err 0 150)
 | d+1=>XU [44] 32 Ya (ZmN (d+1) (ZmO d))
def Zer:Nat->Ts->R (List Li)
 | 0=>fun _=>.err 0 150
 | d+1=>ZmO d
def Zo2 (d:Nat) (bodies:Bool) (t0:Ts):R Ru:=(XT t0).bind fun nm ts=>(Zh4 d (Zdk d) [40] [41] ts).bind fun l ts =>
 if bodies=true/\isW ts [[58,45]]=true then (ZmO d ts.tail).bind fun b ts=>(Z1 [46] ts).bind fun _ ts=>.ok ⟨nm,l,b,t0.length⟩ ts
 else (Z1 [46] ts).bind fun _ ts=>.ok ⟨nm,l,[],t0.length⟩ ts
def Zo3 (d:Nat) (un:Ts->R Un) (t0:Ts):R Co:=(XT t0).bind fun nm ts=>(Zfg ts).bind fun ps ts =>
 if isW ts [[58]]=true then (XT ts.tail).bind fun b ts=>(Zfg ts).bind fun tys ts=>(Zx d [123] [125] un ts).bind fun u ts=>.ok (.mk nm ps b tys u t0.length) ts
 else (Zx d [123] [125] un ts).bind fun u ts=>.ok (.mk nm ps [] [] u t0.length) ts
def Zo4 (t0:Ts):R Ini:=(XT t0).bind fun nm ts=>(Z1 [61] ts).bind fun _ ts=>(XT ts).bind fun c ts=>(Zfg ts).bind fun tys ts=>.ok ⟨nm,c,tys,t0.length⟩ ts
def Zo5 (t0:Ts):R Ov:=(XT t0).bind fun nm ts=>.ok ⟨nm,t0.length⟩ ts
def XY (inside:Bool) (d:Nat) (un:Ts->R Un):Nat->Un->Ts->R Un
 | 0,_,_=>.err 0 150
 | f+1,.mk tys rels rules comps inits overs,ts =>
  if ts=[]\/(inside=true/\isW ts [[125]]=true) then .ok (.mk tys rels rules comps inits overs) ts
  else if isW ts [[116,121,112,101]]=true then (if tys.length=256 then .err ts.length 3 else (Zh3 ts.tail).bind fun x ts=>XY inside d un f (.mk (tys++[x]) rels rules comps inits overs) ts)
  else if isW ts [[100,101,99,108]]=true then (if rels.length=256 then .err ts.length 3 else (Zo1 ts.tail).bind fun x ts=>XY inside d un f (.mk tys (rels++[x]) rules comps inits overs) ts)
  else if isW ts [[99,111,109,112]]=true then (if comps.length=64 then .err ts.length 3 else (Zo3 d un ts.tail).bind fun x ts=>XY inside d un f (.mk tys rels rules (comps++[x]) inits overs) ts)
  else if isW ts [[105,110,105,116]]=true then (if inits.length=256 then .err ts.length 3 else (Zo4 ts.tail).bind fun x ts=>XY inside d un f (.mk tys rels rules comps (inits++[x]) overs) ts)
  else if isW ts [[111,118,101,114,114,105,100,101]]=true then (if overs.length=256 then .err ts.length 3 else (Zo5 ts.tail).bind fun x ts=>XY inside d un f (.mk tys rels rules comps inits (overs++[x])) ts)
  else if ZM ts=true then (if rules.length=1024 then .err ts.length 3 else (Zo2 d true ts).bind fun x ts=>XY inside d un f (.mk tys rels (rules++[x]) comps inits overs) ts)
  else .err ts.length 150
def Un.nil:Un:=.mk [] [] [] [] [] []
def ZmP (inside:Bool) (d:Nat) (un:Ts->R Un) (ts:Ts):R Un:=XY inside d un (ts.length+1) .nil ts
def Zo6:Nat->Ts->R Un
 | 0=>ZmP true 0 fun _=>.err 0 150
 | d+1=>ZmP true (d+1) (Zo6 d)
def JE (ts:Ts):R Un:=ZmP false 64 (Zo6 63) ts
end Go.PM.Lex
end
