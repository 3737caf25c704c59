/- A part of the proof: plain logic, contracts and laws over the given program. -/
import Derived.Test.YtipdifmlclblhaaGreatDoorProg
import Derived.Lib.MapLaws
import Derived.Lib.Strings
import Derived.Lib.Bytealg
import Derived.Lib.Index
import Derived.Lib.SlTrimSet
import Derived.Lib.Small
import Derived.Test.YtipdifmlclblhaaGreatDoorShelf
import Derived.Shelf.Strings.SlTrimAscii
import Derived.Shelf.Strings.Builder1
import Derived.Shelf.RegionOpenPlain
import Derived.Lib.Walk
import Derived.Lib.UnsafeStr
import Derived.Lib.Builder
import Derived.WalkKit
import Derived.Laws.Externs
import Derived.Lib.IndexAny
import Derived.KernelRfl
import Derived.Test.YtipdifmlclblhaaGreatDoorG05
set_option linter.unusedVariables false
set_option linter.unusedSimpArgs false
set_option linter.all false
set_option maxRecDepth 100000
set_option maxHeartbeats 16000000
section
namespace Go.PM.Lex
open Go.Proofs
abbrev yi:PV:=.d (.int .i64 0)
abbrev yb:PV:=.d (.int .u8 0)
abbrev ys:PV:=.d (.str [])
abbrev yf:PV:=.d (.bool false)
abbrev yp:PV:=.d .nilp
abbrev ya (a b:Nat) (k:TK) (z:D):TI:=⟨a,b,k,[.d z],false⟩
abbrev yr (n:Nat):TI:=⟨1,8,.ptr n,[yp],false⟩
abbrev yl (n:Nat):TI:=⟨1,24,.slice n,[.nils n],false⟩
abbrev yn (n:Nat) (t:TI):Tab:=.node .leaf n t .leaf
def Zbv:Tab:=(.node (.node (.node (.node (.node (.node (.node (yn 2 ⟨1,8,.int .i64,[yi],true⟩) 3 ⟨1,8,.int .i64,[yi],true⟩ .leaf) 4 ⟨1,1,.bool,[yf],false⟩ (yn 5 ⟨1,1,.int .u8,[yb],true⟩)) 6 ⟨1,1,.int .u8,[yb],true⟩ (.node (.node (yn 7 ⟨4,24,.struct [(0,2),(1,3),(2,4),(3,6)],[yi,yi,yf,yb],false⟩) 8 ⟨4,24,.struct [(0,2),(1,3),(2,4),(3,6)],[yi,yi,yf,yb],false⟩ .leaf) 9 ⟨1,16,.string,[ys],false⟩ (yn 10 ⟨1,16,.string,[ys],false⟩))) 11 ⟨1,16,.string,[ys],false⟩ (.node (.node (.node (yn 12 ⟨1,8,.int .u64,[.d (.int .u64 (0))],true⟩) 13 ⟨2,24,.struct [(0,9),(1,12)],[ys,.d (.int .u64 (0))],false⟩ .leaf) 14 ⟨2,24,.struct [(0,9),(1,12)],[ys,.d (.int .u64 (0))],false⟩ (yn 15 (yr 357))) 16 (yr 360) (.node (yn 17 (yr 367)) 18 ⟨1,8,.struct [(0,17)],[yp],false⟩ (yn 19 ⟨1,8,.struct [(0,17)],[yp],false⟩)))) 20 ⟨1,16,.iface,[.d .nili],false⟩ (.node (.node (.node (.node (yn 21 ⟨1,4,.int .i32,[.d (.int .i32 (0))],true⟩) 22 (yl 48) .leaf) 23 (yl 53) (yn 24 (yl 37))) 25 ⟨3,72,.struct [(0,22),(1,23),(2,24)],[.nils 48,.nils 53,.nils 37],false⟩ (.node (yn 26 ⟨3,72,.struct [(0,22),(1,23),(2,24)],[.nils 48,.nils 53,.nils 37],false⟩) 27 ⟨1,8,.int .u64,[.d (.int .u64 (0))],true⟩ (yn 30 ⟨1,8,.int .i64,[yi],true⟩))) 34 (yl 74) (.node (.node (.node (yn 35 (yl 102)) 36 ⟨4,72,.struct [(0,9),(1,34),(2,35),(3,3)],[ys,.nils 74,.nils 102,yi],false⟩ .leaf) 37 ⟨4,72,.struct [(0,9),(1,34),(2,35),(3,3)],[ys,.nils 74,.nils 102,yi],false⟩ (yn 41 (yl 68))) 45 (yl 71) (.node (yn 46 (yl 51)) 47 ⟨6,96,.struct [(0,5),(1,9),(2,9),(3,45),(4,46),(5,3)],[yb,ys,ys,.nils 71,.nils 51,yi],false⟩ (yn 48 ⟨6,96,.struct [(0,5),(1,9),(2,9),(3,45),(4,46),(5,3)],[yb,ys,ys,.nils 71,.nils 51,yi],false⟩))))) 50 ⟨2,40,.struct [(0,9),(1,45)],[ys,.nils 71],false⟩ (.node (.node (.node (.node (.node (yn 51 ⟨2,40,.struct [(0,9),(1,45)],[ys,.nils 71],false⟩) 52 ⟨6,56,.struct [(0,9),(1,45),(2,4),(3,4),(4,4),(5,3)],[ys,.nils 71,yf,yf,yf,yi],false⟩ .leaf) 53 ⟨6,56,.struct [(0,9),(1,45),(2,4),(3,4),(4,4),(5,3)],[ys,.nils 71,yf,yf,yf,yi],false⟩ (yn 56 (yr 91))) 57 ⟨2,16,.struct [(0,3),(1,30)],[yi,yi],false⟩ (.node (.node (yn 58 ⟨2,16,.struct [(0,3),(1,30)],[yi,yi],true⟩) 63 (ya 1 8 .func .nilf) .leaf) 65 (yl 3) (yn 66 (yl 65)))) 67 ⟨3,56,.struct [(0,5),(1,65),(2,66)],[yb,.nils 3,.nils 65],false⟩ (.node (.node (.node (yn 68 ⟨3,56,.struct [(0,5),(1,65),(2,66)],[yb,.nils 3,.nils 65],false⟩) 70 ⟨2,32,.struct [(0,9),(1,9)],[ys,ys],false⟩ .leaf) 71 ⟨2,32,.struct [(0,9),(1,9)],[ys,ys],true⟩ (yn 73 ⟨5,64,.struct [(0,5),(1,9),(2,2),(3,34),(4,3)],[yb,ys,yi,.nils 74,yi],false⟩)) 74 ⟨5,64,.struct [(0,5),(1,9),(2,2),(3,34),(4,3)],[yb,ys,yi,.nils 74,yi],false⟩ (.node (yn 76 (yl 149)) 77 (yl 154) (yn 78 (yl 158))))) 79 ⟨6,144,.struct [(0,22),(1,23),(2,24),(3,76),(4,77),(5,78)],[.nils 48,.nils 53,.nils 37,.nils 149,.nils 154,.nils 158],false⟩ (.node (.node (.node (.node (yn 80 ⟨6,144,.struct [(0,22),(1,23),(2,24),(3,76),(4,77),(5,78)],[.nils 48,.nils 53,.nils 37,.nils 149,.nils 154,.nils 158],false⟩) 86 (yr 124) .leaf) 88 ⟨1,8,.map 9 96,[.nilm],false⟩ (yn 89 ⟨1,8,.map 9 3,[.nilm],false⟩)) 90 ⟨7,104,.struct [(0,89),(1,89),(2,89),(3,88),(4,26)],[.nilm,.nilm,.nilm,.nilm,.nils 48,.nils 53,.nils 37],false⟩ (.node (yn 91 ⟨7,104,.struct [(0,89),(1,89),(2,89),(3,88),(4,26)],[.nilm,.nilm,.nilm,.nilm,.nils 48,.nils 53,.nils 37],false⟩) 96 ⟨2,16,.array 2 3,[yi,yi],false⟩ (yn 101 ⟨5,80,.struct [(0,5),(1,9),(2,34),(3,35),(4,3)],[yb,ys,.nils 74,.nils 102,yi],false⟩))) 102 ⟨5,80,.struct [(0,5),(1,9),(2,34),(3,35),(4,3)],[yb,ys,.nils 74,.nils 102,yi],false⟩ (.node (.node (.node (yn 103 (yr 134)) 109 (yr 115) .leaf) 110 (yr 113) (yn 111 (yl 5))) 112 ⟨2,32,.struct [(0,110),(1,111)],[yp,.nils 5],false⟩ (.node (yn 113 ⟨2,32,.struct [(0,110),(1,111)],[yp,.nils 5],false⟩) 114 ⟨2,32,.struct [(0,113)],[yp,.nils 5],false⟩ (yn 115 ⟨2,32,.struct [(0,113)],[yp,.nils 5],false⟩)))))) 119 ⟨1,8,.map 9 4,[.nilm],false⟩ (.node (.node (.node (.node (.node (.node (yn 122 (ya 1 8 .func .nilf)) 123 ⟨7,96,.struct [(0,56),(1,37),(5,89),(6,4)],[yp,ys,.nils 74,.nils 102,yi,.nilm,yf],false⟩ .leaf) 124 ⟨7,96,.struct [(0,56),(1,37),(5,89),(6,4)],[yp,ys,.nils 74,.nils 102,yi,.nilm,yf],false⟩ (yn 130 (yl 180))) 133 ⟨6,64,.struct [(0,130),(1,3),(2,3),(3,3),(4,30),(5,3)],[.nils 180,yi,yi,yi,yi,yi],false⟩ (.node (.node (yn 134 ⟨6,64,.struct [(0,130),(1,3),(2,3),(3,3),(4,30),(5,3)],[.nils 180,yi,yi,yi,yi,yi],false⟩) 139 (ya 1 8 .func .nilf) .leaf) 142 (ya 1 8 .func .nilf) (yn 143 (ya 1 8 .func .nilf)))) 145 (ya 1 8 .func .nilf) (.node (.node (.node (yn 147 (yl 9)) 148 ⟨11,232,.struct [(0,9),(1,147),(2,9),(3,147),(4,80),(10,3)],[ys,.nils 9,ys,.nils 9,.nils 48,.nils 53,.nils 37,.nils 149,.nils 154,.nils 158,yi],false⟩ .leaf) 149 ⟨11,232,.struct [(0,9),(1,147),(2,9),(3,147),(4,80),(10,3)],[ys,.nils 9,ys,.nils 9,.nils 48,.nils 53,.nils 37,.nils 149,.nils 154,.nils 158,yi],false⟩ (yn 151 (ya 1 8 .func .nilf))) 153 ⟨4,64,.struct [(0,9),(1,9),(2,147),(3,3)],[ys,ys,.nils 9,yi],false⟩ (.node (yn 154 ⟨4,64,.struct [(0,9),(1,9),(2,147),(3,3)],[ys,ys,.nils 9,yi],false⟩) 155 (ya 1 8 .func .nilf) (yn 157 ⟨2,24,.struct [(0,9),(1,3)],[ys,yi],false⟩)))) 158 ⟨2,24,.struct [(0,9),(1,3)],[ys,yi],true⟩ (.node (.node (.node (.node (yn 159 (ya 1 8 .func .nilf)) 164 ⟨3,3,.array 3 4,[yf,yf,yf],false⟩ .leaf) 165 ⟨3,48,.array 3 9,[ys,ys,ys],false⟩ (yn 169 (yr 209))) 171 (yr 5) (.node (yn 176 ⟨1,8,.map 9 147,[.nilm],false⟩) 179 ⟨5,48,.struct [(0,5),(1,9),(2,2),(3,3),(4,3)],[yb,ys,yi,yi,yi],false⟩ (yn 180 ⟨5,48,.struct [(0,5),(1,9),(2,2),(3,3),(4,3)],[yb,ys,yi,yi,yi],true⟩))) 190 (ya 1 8 .func .nilf) (.node (.node (.node (yn 192 (ya 1 8 .func .nilf)) 193 ⟨1,16,.iface,[.d .nili],false⟩ .leaf) 194 ⟨1,16,.iface,[.d .nili],false⟩ (yn 203 ⟨2,16,.struct [(0,3),(1,30)],[yi,yi],false⟩)) 204 ⟨2,16,.struct [(0,3),(1,30)],[yi,yi],true⟩ (.node (yn 206 ⟨3,40,.struct [(0,130),(1,3),(2,3)],[.nils 180,yi,yi],false⟩) 207 ⟨3,40,.struct [(0,130),(1,3),(2,3)],[.nils 180,yi,yi],false⟩ (yn 208 ⟨4,48,.struct [(0,207),(3,3)],[.nils 180,yi,yi,yi],false⟩))))) 209 ⟨4,48,.struct [(0,207),(3,3)],[.nils 180,yi,yi,yi],false⟩ (.node (.node (.node (.node (.node (yn 229 (yr 231)) 230 ⟨2,24,.struct [(0,9),(1,3)],[ys,yi],false⟩ .leaf) 231 ⟨2,24,.struct [(0,9),(1,3)],[ys,yi],true⟩ (yn 238 ⟨3,32,.struct [(0,3),(1,9),(2,3)],[yi,ys,yi],false⟩)) 239 ⟨3,32,.struct [(0,3),(1,9),(2,3)],[yi,ys,yi],true⟩ (.node (yn 247 ⟨6,96,.array 6 9,[ys,ys,ys,ys,ys,ys],false⟩) 248 ⟨4,64,.array 4 9,[ys,ys,ys,ys],false⟩ (yn 252 ⟨2,16,.struct [(0,3),(1,30)],[yi,yi],false⟩))) 253 ⟨2,16,.struct [(0,3),(1,30)],[yi,yi],true⟩ (.node (.node (.node (yn 254 (yr 207)) 291 ⟨1,8,.int .u64,[.d (.int .u64 (0))],true⟩ .leaf) 298 ⟨2,2,.struct [(0,5),(1,5)],[yb,yb],false⟩ (yn 299 ⟨2,2,.struct [(0,5),(1,5)],[yb,yb],false⟩)) 300 ⟨32,32,.array 16 299,(.replicate 32 yb),false⟩ (.node (yn 309 ⟨1,4,.int .u32,[.d (.int .u32 (0))],true⟩) 311 ⟨24,24,.array 24 5,(.replicate 24 yb),false⟩ (yn 322 (yr 318))))) 323 ⟨5,80,.array 5 9,[ys,ys,ys,ys,ys],false⟩ (.node (.node (.node (.node (yn 330 ⟨20,160,.array 20 27,[.d (.int .u64 (0)),.d (.int .u64 (0)),.d (.int .u64 (0)),.d (.int .u64 (0)),.d (.int .u64 (0)),.d (.int .u64 (0)),.d (.int .u64 (0)),.d (.int .u64 (0)),.d (.int .u64 (0)),.d (.int .u64 (0)),.d (.int .u64 (0)),.d (.int .u64 (0)),.d (.int .u64 (0)),.d (.int .u64 (0)),.d (.int .u64 (0)),.d (.int .u64 (0)),.d (.int .u64 (0)),.d (.int .u64 (0)),.d (.int .u64 (0)),.d (.int .u64 (0))],false⟩) 337 ⟨2,24,.struct [(0,9),(1,5)],[ys,yb],false⟩ .leaf) 338 ⟨4,48,.array 2 337,[ys,yb,ys,yb],false⟩ (yn 342 ⟨1,8,.int .i64,[yi],true⟩)) 344 (yr 351) (.node (yn 347 ⟨32,32,.array 32 5,(.replicate 32 yb),false⟩) 348 ⟨64,64,.array 64 5,(.replicate 64 yb),false⟩ (yn 351 ⟨3,48,.struct [(0,9),(1,9),(2,194)],[ys,ys,.d .nili],false⟩))) 353 (yr 355) (.node (.node (.node (yn 355 ⟨1,16,.struct [(0,9)],[ys],false⟩) 357 ⟨4,40,.struct [(0,17),(1,17),(2,17),(3,9)],[yp,yp,yp,ys],false⟩ .leaf) 361 ⟨1,1,.int .u8,[yb],true⟩ (yn 362 ⟨1,1,.int .u8,[yb],true⟩)) 363 (ya 1 8 .func .nilf) (.node (yn 364 ⟨1,4,.int .i32,[.d (.int .i32 (0))],true⟩) 365 ⟨1,4,.int .i32,[.d (.int .i32 (0))],true⟩ (yn 367 ⟨11,48,.struct [(0,12),(1,12),(2,309),(3,361),(4,5),(5,5),(6,362),(7,363),(8,171),(9,364),(10,365)],[.d (.int .u64 (0)),.d (.int .u64 (0)),.d (.int .u32 (0)),yb,yb,yb,yb,.d .nilf,yp,.d (.int .i32 (0)),.d (.int .i32 (0))],false⟩)))))))
theorem Zc:TabOK Zbv Tryz.prog:=by unfold TabOK;kernel_rfl
theorem mixed:Tryz.prog.follows .mixedOrders=true:=by kernel_rfl
abbrev Bs:=List UInt8
def Zm (c:Int):Bool:=decide (48<=c/\c<=57)
def Zl (c:Int):Bool:=decide (c=95\/128<=c\/(97<=c/\c<=122)\/(65<=c/\c<=90))
def pk (r:Bs):Int×Nat:=if r=[]\/Lib.decodeL r=(65533,1) then (-1,1) else ((Lib.decodeL r).1,(Lib.decodeL r).2)
def Y4:Nat->Bs->Nat
 | 0,_=>0
 | f+1,r=>if (pk r).1=46 then (if Zl (pk (r.drop 1)).1=true then (pk r).2+Y4 f (r.drop (pk r).2) else 0)
   else if Zl (pk r).1=true\/Zm (pk r).1=true then (pk r).2+Y4 f (r.drop (pk r).2) else 0
def VC (r:Bs):Nat:=Y4 (r.length+1) r
def ZP:Nat->Bs->Bool×Nat
 | 0,_=>(false,0)
 | f+1,r =>
  let rest:=Lib.trimLeftS r [32,9,13,10]
  let k:=r.length - rest.length
  if Lib.hasPrefix rest [47,47]=true then
   let n:=if Lib.indexByte rest 10<0 then rest.length else (Lib.indexByte rest 10).toNat
   let t:=ZP f (rest.drop n)
   (t.1,k+n+t.2)
  else if Lib.hasPrefix rest [47,42]=true then
   if Lib.index (rest.drop 2) [42,47]<0 then (false,k) else
   let n:=(Lib.index (rest.drop 2) [42,47]).toNat+4
   let t:=ZP f (rest.drop n)
   (t.1,k+n+t.2)
  else (true,k)
def YT (r:Bs):Bool×Nat:=ZP (r.length+1) r
def X8 (fj:Bool) (b:UInt8):Bool:=Zm b.toNat || (fj && decide ((97<=b.toNat/\b.toNat<=102)\/(65<=b.toNat/\b.toNat<=70)))
def Zf3 (b:UInt8):Nat:=if b.toNat<=57 then b.toNat - 48 else if b.toNat<=70 then b.toNat - 55 else b.toNat - 87
def WD (base:Nat) (l:Bs):Nat:=l.foldl (fun n b=>n * base+Zf3 b) 0
def Vh (r:Bs):Bool:=Lib.hasPrefix r [48,120]
def Zf (r:Bs):Bs:=(r.drop (if Vh r then 2 else 0)).takeWhile (X8 (Vh r))
def Zy (r:Bs):Nat:=(if Vh r then 2 else 0)+(Zf r).length
def ZU (r:Bs):Option Nat :=
 if Zf r=[] then none
 else if (if Vh r then 18446744073709551616 else 9223372036854775808)<=WD (if Vh r then 16 else 10) (Zf r) then none
 else if Zl (pk (r.drop (Zy r))).1=true\/Zm (pk (r.drop (Zy r))).1=true\/(Vh r=true/\16<(Zf r).length) then none
 else some (WD (if Vh r then 16 else 10) (Zf r))
def Zvu (c:Nat):Option UInt8:=if c=110 then some 10 else if c=116 then some 9 else if c=34 then some 34 else if c=92 then some 92 else none
inductive TR where
 | err (at':Nat) | ok (txt:Bs) (len:Nat)
 deriving DecidableEq
def Z1:Nat->Bs->Bool->Bs->Nat->TR
 | 0,_,_,_,_=>.err 0
 | f+1,r,esc,acc,p =>
  if r=[] then .err 0
  else if esc=true then (match Zvu (Lib.decodeL r).1 with
   | none=>.err (p - 1)
   | some b=>Z1 f (r.drop (Lib.decodeL r).2) false (acc++[b]) (p+(Lib.decodeL r).2))
  else if (Lib.decodeL r).1=34 then .ok acc (p+1)
  else if (Lib.decodeL r).1=92 then Z1 f (r.drop (Lib.decodeL r).2) true acc (p+(Lib.decodeL r).2)
  else if (pk r).1<32 then .err p
  else Z1 f (r.drop (Lib.decodeL r).2) false (acc++Lib.encodeRune (Lib.decodeL r).1) (p+(Lib.decodeL r).2)
def WY (r:Bs):TR:=Z1 (r.length+1) (r.drop 1) false [] 1
def twos:List Bs:=[[58,45],[33,61],[60,61],[62,61],[60,58]]
def ones:Bs:=[40,41,91,93,123,125,44,46,58,33,61,60,62,43,45,42,47,37,124,36,126]
def XO (r:Bs):Nat:=if twos.any (Lib.hasPrefix r) then 2 else if ones.contains (r.getD 0 0) then 1 else 0
structure Tok where
 kind:Nat
 text:Bs
 n:Int
 at':Nat
 fin:Nat
 deriving DecidableEq
inductive NR where
 | bad (at':Nat) (e:Nat) | tok (t:Tok)
 deriving DecidableEq
def WZ (a:Nat) (r:Bs):NR:=match ZU r with | none=>.bad a 142 | some n=>.tok ⟨2,[],IntKind.i64.wrap n,a,a+Zy r⟩
def Zd3 (a:Nat) (r:Bs):NR:=match WY r with | .err p=>.bad (a+p) 141 | .ok t l=>.tok ⟨3,t,0,a,a+l⟩
def Jt (a:Nat) (r:Bs) (room:Bool):NR :=
 let c:=(pk r).1
 let n:=XO r
 if n=0/\c≠34/\Zl c=false/\Zm c=false then .bad a 140
 else if room=false then .bad a 3
 else if 0<n then .tok ⟨4,r.take n,0,a,a+n⟩
 else if c=34 then Zd3 a r
 else if Zm c=true then WZ a r
 else .tok ⟨1,r.take (VC r),0,a,a+VC r⟩
def Uc:Nat->Int->Nat->Bs->List Tok×(Nat×Nat)
 | 0,_,_,_=>([],(0,0))
 | f+1,au,a,r =>
  if (YT r).1=false then ([],(a+(YT r).2,140))
  else
   let a:=a+(YT r).2
   let r:=r.drop (YT r).2
   if r=[] then ([],(0,0))
   else match Jt a r (decide (0<au)) with
    | .bad p e=>([],(p,e))
    | .tok t=>let u:=Uc f (au - 1) t.fin (r.drop (t.fin - a));(t::u.1,u.2)
def Zd4 (s:Bs) (au:Int):List Tok×(Nat×Nat):=Uc (s.length+1) au 0 s
end Go.PM.Lex
end

section
noncomputable section
namespace Go.PM.Lex
open Go.Proofs
theorem kR {P:Prop} (h:P:=by kernel_rfl):P:=h
abbrev GG (w0:World) (nG:Nat):GE:=⟨Tryz.prog,w0,nG⟩
theorem pc {w0:World} {nG:Nat} {tbl:Tbl} {sp:Zo} {g:FuncId} {fn:Func} {c:Code} (ht:TblOK (GG w0 nG) tbl) (hf:Tryz.prog.funcs[g]?=some fn) (h:∀args σ K,sp args σ K->∃loops keep own,σ.bx.length<=keep/\args.length<=fn.ntmps/\WF (ctx Zbv tbl loops) fn keep own args σ K) (hb:fn.body=some c:=by rfl) (hn:(fn.name == "runtime.NumGoroutine") = false:=by kernel_rfl) (hk:Zz fn.ntmps c=true:=by kernel_rfl):PCalls (GG w0 nG) g sp:=Zd Zc mixed ht hf hb hn hk h
abbrev PC (w0:World) (nG:Nat):=PCalls (GG w0 nG)
abbrev TO (w0:World) (nG:Nat):=TblOK (GG w0 nG)
abbrev OKw (w0:World) (nG:Nat) (T:Tbl) (g:FuncId) (sp:Zo):Prop:=TO w0 nG T->PC w0 nG g sp
theorem pwt {w0:World} {nG:Nat} {tbl:Tbl} (ht:TO w0 nG tbl) {g:FuncId} {fn:Func} {sp:Zo} (hf:Tryz.prog.funcs[g]?=some fn) (h:∀args σ K,sp args σ K->∃loops keep own,σ.bx.length<=keep/\args.length<=fn.ntmps/\WF (ctx Zbv tbl loops) fn keep own args σ K) (hb:fn.body=some (Ye fn):=by rfl) (hn:(fn.name=="runtime.NumGoroutine")=false:=by kernel_rfl) (ho:Zz fn.ntmps (Ye fn)=true:=by kernel_rfl):PC w0 nG g sp:=Zd Zc mixed ht hf hb hn ho h
theorem pwo {w0:World} {nG:Nat} {tbl:Tbl} {g:FuncId} {fn:Func} {sp:Zo} (hf:Tryz.prog.funcs[g]?=some fn) (h:∀args σ K,sp args σ K->∃loops keep own,σ.bx.length<=keep/\args.length<=fn.ntmps/\WF (ctx Zbv tbl loops) fn keep own args σ K) (hb:fn.body=some (Ye fn):=by rfl) (hn:(fn.name=="runtime.NumGoroutine")=false:=by kernel_rfl) (ho:Zz fn.ntmps (Ye fn)=true:=by kernel_rfl):OKw w0 nG tbl g sp:=fun ht=>pwt ht hf h hb hn ho
theorem pwe {w0:World} {nG:Nat} {g:FuncId} {fn:Func} {sp:Zo} (hf:Tryz.prog.funcs[g]?=some fn) (h:∀args σ K,sp args σ K->∃loops keep own,σ.bx.length<=keep/\args.length<=fn.ntmps/\WF (ctx Zbv [] loops) fn keep own args σ K) (hb:fn.body=some (Ye fn):=by rfl) (hn:(fn.name=="runtime.NumGoroutine")=false:=by kernel_rfl) (ho:Zz fn.ntmps (Ye fn)=true:=by kernel_rfl):PC w0 nG g sp:=pwt (tbl:=[]) trivial hf h hb hn ho
theorem pwv {T:Tab} {tbl:Tbl} {fn:Func} {args:List PV} {σ:St} {K:PEnd->St->Prop} {Q:Prop} (l:List (Nat×LoopAnn)) (k:Nat) (b:Bool) (q:Q) (h:Q->WF (ctx T tbl (Zb l)) fn k b args σ K:=by intro k;(conv=>whnf);exact k) (h1:σ.bx.length<=k:=by simp) (h2:args.length<=fn.ntmps:=by exact Ta rfl):∃loops keep own,σ.bx.length<=keep/\args.length<=fn.ntmps/\WF (ctx T tbl loops) fn keep own args σ K:=⟨Zb l,k,b,h1,h2,h q⟩
theorem pwu {T:Tab} {tbl:Tbl} {fn:Func} {args:List PV} {σ:St} {K:PEnd->St->Prop} (l:List (Nat×LoopAnn)) (k:Nat) (b:Bool) (q:WF (ctx T tbl (Zb l)) fn k b args σ K) (h1:σ.bx.length<=k:=by simp) (h2:args.length<=fn.ntmps:=by exact Ta rfl):∃loops keep own,σ.bx.length<=keep/\args.length<=fn.ntmps/\WF (ctx T tbl loops) fn keep own args σ K:=⟨Zb l,k,b,h1,h2,q⟩
theorem lzI {i n m:Nat} (e:n=m) (h:(i:Int)<(n:Int)):i<m:=by omega
theorem lzE {i n m:Nat} (e:n=m) (hi:i<=m) (h:¬(i:Int)<(n:Int)):i=m:=by omega
theorem lzG {i n m:Nat} (e:n=m) (h:¬(i:Int)<(n:Int)):m<=i:=by omega
theorem lzM {i n:Nat} (h:i<n):((n:Int) - ((i:Int)+1)).toNat<((n:Int) - (i:Int)).toNat:=by omega
def mu1 (n:Nat):List PV->St->Nat:=fun vs _=>match vs with | [.d (.int _ i)]=>((n:Int) - i).toNat | _=>0
def mu2 (n:Nat):List PV->St->Nat:=fun vs _=>match vs with | [_,.d (.int _ i)]=>((n:Int) - i).toNat | _=>0
theorem ZeX (s:Bs) (pos:Nat):decodeL s pos=Lib.decodeL (s.drop pos):=by
 have:=Lib.decodeL_drop ⟨s.toArray⟩ pos;simpa [decodeL] using this.symm
def Xv:Zo:=fun args σ K=>match args with
 | [.d (.str s),.d (.str p)]=>K (.ret (.d (.bool (Lib.hasPrefix s p)))) σ
 | _=>False
def Wq:Zo:=fun args σ K=>match args with
 | [.d (.str s),.d (.int .u8 c)]=>K (.ret (.d (.int .i64 (Lib.indexByte s c.toNat.toUInt8)))) σ
 | _=>False
def Zjc:Zo:=fun args σ K=>match args with
 | [.d (.str s),.d (.str p)]=>s.length<4294967281/\K (.ret (.d (.int .i64 (Lib.index s p)))) σ
 | _=>False
def Zc8:Zo:=fun args σ K=>match args with
 | [.d (.int .i32 c)]=>K (.ret (.d (.int .i64 (Lib.runeLen c)))) σ
 | _=>False
def ZaS:Zo:=fun args σ K=>match args with
 | [.d (.str s),.d (.str p)]=>(p.length<4294967281/\∀(j:Nat) b,p[j]?=some b->b.toNat<128)/\K (.ret (.d (.str (Lib.trimLeftS s p)))) σ
 | _=>False
abbrev Zd5 (k:Int) (x:Bs) (n a f:Int):PV:=.agg [.d (.int .u8 k),.d (.str x),.d (.int .i64 n),.d (.int .i64 a),.d (.int .i64 f)]
abbrev Zhu (a e:Int):PV:=.agg [.d (.int .i64 a),.d (.int .i64 e)]
def NR.t:NR->Tok | .bad _ _=>⟨0,[],0,0,0⟩ | .tok t=>t
def NR.p:NR->Nat | .bad p _=>p | .tok _=>0
def NR.e:NR->Nat | .bad _ e=>e | .tok _=>0
abbrev ZAR (x:NR):PV:=.tuple [Zd5 x.t.kind x.t.text x.t.n x.t.at' x.t.fin,Zhu x.p x.e]
def UK:Zo:=fun args σ K=>match args,σ with
 | [.d (.int .i32 c)],⟨[],[],0⟩=>(-1<=c/\c<2147483648)/\K (.ret (.d (.bool (Zl c)))) ⟨[],[],0⟩
 | _,_=>False
def Zc9:Zo:=fun args σ K=>match args,σ with
 | [.d (.int .i32 c)],⟨[],[],0⟩=>K (.ret (.d (.bool (Zm c)))) ⟨[],[],0⟩
 | _,_=>False
def Zbz:Zo:=fun args σ K=>match args,σ with
 | [.ptr 0 0,.d (.int .i64 at')],⟨[.cells t [.d (.str s),.d (.int .i64 a)]],[],0⟩=>(0<=at'/\s.length<4611686018427387904) /\
   K (.ret (.tuple [.d (.int .i32 (pk (s.drop at'.toNat)).1),.d (.int .i64 (pk (s.drop at'.toNat)).2)])) ⟨[.cells t [.d (.str s),.d (.int .i64 a)]],[],0⟩
 | _,_=>False
def Zhv:Zo:=fun args σ K=>match args,σ with
 | [.ptr 0 0],⟨[.cells t [.d (.str s),.d (.int .i64 a)]],[],0⟩=>(0<=a/\a<=s.length/\s.length<4294967281) /\
   K (.ret (Zd5 1 ((s.drop a.toNat).take (VC (s.drop a.toNat))) 0 a (a+VC (s.drop a.toNat)))) ⟨[.cells t [.d (.str s),.d (.int .i64 a)]],[],0⟩
 | _,_=>False
def ZaT:Zo:=fun args σ K=>match args,σ with
 | [.ptr 0 0],⟨[.cells t [.d (.str s),.d (.int .i64 a)]],[],0⟩=>(0<=a/\a<=s.length/\s.length<4294967281) /\
   K (.ret (.d (.bool (YT (s.drop a.toNat)).1))) ⟨[.cells t [.d (.str s),.d (.int .i64 (a+(YT (s.drop a.toNat)).2))]],[],0⟩
 | _,_=>False
def Zkx:Zo:=fun args σ K=>match args,σ with
 | [.ptr 0 0],⟨[.cells t [.d (.str s),.d (.int .i64 a)]],[],0⟩=>(0<=a/\a<s.length/\s.length<4294967281) /\
   K (.ret (.d (.int .i64 (XO (s.drop a.toNat))))) ⟨[.cells t [.d (.str s),.d (.int .i64 a)]],[],0⟩
 | _,_=>False
theorem Zhw:ZK ZaT:=fun args σ K K' hK h=>by
 unfold ZaT at h |-;split at h <;> first | exact ⟨h.1,hK _ _ h.2⟩ | exact h.elim
end Go.PM.Lex
end
end

section
namespace Go.PM.Lex
open Go.Proofs
noncomputable def ZB5 (g:Nat):Bool:=ZdU g [54,236,272]
noncomputable def ZB6:RInf:=⟨ZB5,fun _ _=>false,fun _=>none⟩
noncomputable def runK (g:Nat) (a:List PV):Option (PEnd×St):=fnR Tryz.prog (ZaR Tryz.prog Zbv ZB6 100000 200) Zbv ZB6 100000 g a ⟨[],[],0⟩
def txA:List UInt8:=[116,121,112,101,32,78,32,60,58,32,110,117,109,98,101,114,32,100,101,99,108,32,112,40,120,58,32,78,41,32,100,101,99,108,32,113,40,120,58,32,110,117,109,98,101,114,41,32,113,40,120,41,32,58,45,32,112,40,120,41,46]
def txB:List UInt8:=[116,121,112,101,32,78,32,60,58,32,110,117,109,98,101,114,32,100,101,99,108,32,112,40,120,58,32,78,41,32,100,101,99,108,32,113,40,120,58,32,110,117,109,98,101,114,41,32,112,40,120,41,32,58,45,32,113,40,120,41,46]
def xAt (a:Int):List D:=[.int .u8 1,.str [120],.int .i64 0,.sl [],.int .i64 a]
def ZCx (h b:UInt8):List D:=[.str [h],.sl [xAt 50],.sl [[.int .u8 1,.str [b],.sl [xAt 58],.sl [],.int .i64 56]],.int .i64 48]
def ZAQ (h b:UInt8):List (List (List D)):=[[[.int .u8 1,.str [78],.str [110,117,109,98,101,114],.sl [],.sl [],.int .i64 5]],
 [[.str [112],.sl [[.str [120],.str [78]]],.bool false,.bool false,.bool false,.int .i64 22],[.str [113],.sl [[.str [120],.str [110,117,109,98,101,114]]],.bool false,.bool false,.bool false,.int .i64 35]],[ZCx h b]]
def ZB7 (r:PV):Option (PEnd×St)->Bool
 | some (.ret v,⟨[],[],0⟩)=>Zya v r
 | _=>false
theorem Zf2 {r:PV} {o:Option (PEnd×St)} (h:ZB7 r o=true):o=some (.ret r,⟨[],[],0⟩):=by
 unfold ZB7 at h
 split at h
 ·rw [Zi2 h]
 cases h
def ZtX (h b:UInt8):PV:=.agg ((ZAQ h b).map fun r=>.d (.sl r))
theorem ZCy:runK 14 [.d (.str txA)]=some (.ret (ZtX 113 112),⟨[],[],0⟩):=Zf2 kR
theorem ZCz:runK 14 [.d (.str txB)]=some (.ret (ZtX 112 113),⟨[],[],0⟩):=Zf2 kR
end Go.PM.Lex
end

section
noncomputable section
namespace Go.PM
theorem Yw {G:GE} {g:FuncId} {sp:Zo} (ko:W8 G.P g)
  (h:∀args σ K,sp args σ K->∀(e:Env) (w:World) (vs:Array Value),SRel G e σ w->ArgsRel G e σ w args vs->∃pv,K (.ret pv) σ/\∃v,(∀w',Grows w w'->VRel G e σ w' pv v)/\Calls G.P g vs w fun en w'=>en=.returned v/\Grows w w'):PCalls G g sp where
 enters:=ko
 calls:=fun args σ K hs n e w vs hS ha=>by
  obtain ⟨pv,hK,v,hv,hc⟩:=h args σ K hs e w vs hS ha;refine CallsIn.mono (callsIn_wide.2 hc) fun en w' ⟨he,hg⟩=>?_
  subst he;exact ⟨.ret pv,σ,e,hK,⟨v,rfl,hv w' hg⟩,hS.grow hg,(hg.stepped e σ).toLater⟩
theorem ZDi {w w':World} (h:RowKit.Below w.heap.size w w'):Grows w w':=⟨h.os,h.tape,h.output,h.size,h.block⟩
section
variable {G:GE} {e:Env} {σ:St} {w:World} {vs:Array Value}
theorem Zhx {x:PV} (h:ArgsRel G e σ w [x] vs):∃u,vs=#[u]/\VRel G e σ w x u:=by
 obtain ⟨hs,hr⟩:=h;obtain ⟨l⟩:=vs
 match l,hs with
 | [u],_=>exact ⟨u,rfl,hr 0 x u rfl rfl⟩
theorem Zhy {x y:PV} (h:ArgsRel G e σ w [x,y] vs):∃u v,vs=#[u,v]/\VRel G e σ w x u/\VRel G e σ w y v:=by
 obtain ⟨hs,hr⟩:=h;obtain ⟨l⟩:=vs
 match l,hs with
 | [u,v],_=>exact ⟨u,v,rfl,hr 0 x u rfl rfl,hr 1 y v rfl rfl⟩
end
end Go.PM
namespace Go.PM.Lex
open Go.Proofs
variable {w0:World} {nG:Nat}
theorem WO:PC w0 nG 204 Xv:=Yw (Zk Tryz.func204 kR rfl) fun args σ K h e w vs hS ha=>by
 unfold Xv at h
 split at h
 ·obtain ⟨u,v,rfl,hu,hv⟩:=Zhy ha
  cases hu.dstr;cases hv.dstr
  exact ⟨_,h,_,fun _ _=>.mkbool,(Tryz.strings_HasPrefix _ _ w).mono fun en w' ⟨h1,h2⟩=>⟨h1,by rw [h2];exact Grows.refl _⟩⟩
 exact h.elim
theorem Ud:PC w0 nG 239 Wq:=Yw (Zk Tryz.func239 kR rfl) fun args σ K h e w vs hS ha=>by
 unfold Wq at h
 split at h
 ·obtain ⟨u,v,rfl,hu,hv⟩:=Zhy ha
  cases hu.dstr;cases hv.dint
  exact ⟨_,h,_,fun _ _=>.mkint,(Tryz.strings_IndexByte _ _ w).mono fun en w' ⟨h1,h2⟩=>⟨h1,by rw [h2];exact Grows.refl _⟩⟩
 exact h.elim
theorem Zmd:PC w0 nG 203 Zc8:=Yw (Zk Tryz.func203 kR rfl) fun args σ K h e w vs hS ha=>by
 unfold Zc8 at h
 split at h
 ·obtain ⟨u,rfl,hu⟩:=Zhx ha
  cases hu.dint
  exact ⟨_,h,_,fun _ _=>.mkint,(Tryz.utf8_RuneLen _ w).mono fun en w' ⟨h1,h2⟩=>⟨h1,by rw [h2];exact Grows.refl _⟩⟩
 exact h.elim
theorem Zsl (h2:2<nG) (hm:∃m,w0.cell? ⟨2,0,none⟩=some (.int .i64 m)):PC w0 nG 248 Zjc:=Yw (Zk Tryz.func248 kR rfl) fun args σ K h e w vs hS ha=>by
 unfold Zjc at h
 split at h
 ·rename_i s p
  obtain ⟨u,v,rfl,hu,hv⟩:=Zhy ha
  cases hu.dstr;cases hv.dstr
  obtain ⟨m,hm⟩:=hm;have we:w.cell? ⟨2,0,none⟩=some (.int .i64 m):=by
   have:=hS.glob 2 h2;simpa [World.cell?,this] using hm
  exact ⟨_,h.2,_,fun _ _=>.mkint,(Tryz.strings_Index ⟨s.toArray⟩ ⟨p.toArray⟩ m w (show s.toArray.size<_ by simpa using h.1) we).mono fun en w' ⟨h1,h2⟩=>⟨h1,by rw [h2];exact Grows.refl _⟩⟩
 exact h.elim
theorem Zjd:PC w0 nG 247 ZaS:=Yw (Zk Tryz.func247 kR rfl) fun args σ K h e w vs hS ha=>by
 unfold ZaS at h
 split at h
 ·rename_i s p
  obtain ⟨u,v,rfl,hu,hv⟩:=Zhy ha
  cases hu.dstr;cases hv.dstr
  refine ⟨_,h.2,_,fun _ _=>.mkstr,(Any.strings_TrimLeft_laid Tryz.lays161 kR ⟨s.toArray⟩ ⟨p.toArray⟩ w (show p.toArray.size<_ by simpa using h.1.1) h.1.2).mono fun en w' ⟨h1,h2⟩=>⟨h1,ZDi h2⟩⟩
 exact h.elim
end Go.PM.Lex
end
end

section
noncomputable section
namespace Go.PM.Lex
open Go.Proofs
def Zj (l:Bs):List (List D):=l.map fun b=>[.int .u8 b.toNat]
def Ju:Zo:=fun args σ K=>match args,σ with
 | [.d (.str l),.d (.int .i64 base),.d (.int .i64 bits)],⟨[],[],0⟩=>∃fj:Bool,((l.all (X8 fj)=true/\l.length<4294967281)/\base=(if fj then 16 else 10)/\bits=(if fj then 64 else 63)) /\
   ((l=[]\/(if fj then 18446744073709551616 else 9223372036854775808)<=WD (if fj then 16 else 10) l)->∀n,K (.ret (.tuple [.d (.int .u64 n),.iface 344 .undef])) ⟨[],[],0⟩) /\
   (¬(l=[]\/(if fj then 18446744073709551616 else 9223372036854775808)<=WD (if fj then 16 else 10) l)->K (.ret (.tuple [.d (.int .u64 (WD (if fj then 16 else 10) l)),.d .nili])) ⟨[],[],0⟩)
 | _,_=>False
def VD:Zo:=fun args σ K=>match args,σ with
 | [.ptr 0 0,.d (.int .u8 c)],⟨[.cells t [p,.sl 0 e rows]],[0],1⟩=>((p=.d .nilp\/p=.ptr 0 0)/\t=113/\e=5/\(∀r∈rows,r.length=1)/\rows.length<70368744177664) /\
   K (.ret (.d .nili)) ⟨[.cells t [.ptr 0 0,.sl 0 e (rows++[[.int .u8 c]])]],[0],1⟩
 | _,_=>False
def VE:Zo:=fun args σ K=>match args,σ with
 | [.ptr 0 0,.d (.int .i32 c)],⟨[.cells t [p,.sl 0 e rows]],[0],1⟩=>((p=.d .nilp\/p=.ptr 0 0)/\t=113/\e=5/\(∀r∈rows,r.length=1)/\rows.length<70368744177664/\0<=c/\c<=1114111) /\
   K (.ret (.tuple [.d (.int .i64 (((rows++Zj (Lib.encodeRune c)).length:Int) - (rows.length:Int))),.d .nili])) ⟨[.cells t [.ptr 0 0,.sl 0 e (rows++Zj (Lib.encodeRune c))]],[0],1⟩
 | _,_=>False
def Zcb:Zo:=fun args σ K=>match args,σ with
 | [.ptr 0 0],⟨[.cells t [p,.sl 0 e rows]],[0],1⟩=>∃l:Bs,(rows=Zj l/\t=113/\e=5/\(p=.d .nilp\/p=.ptr 0 0)/\l.length<70368744177664)/\K (.ret (.d (.str l))) ⟨[.cells t [p,.d (.sl rows)]],[],0⟩
 | _,_=>False
def Zda (s:Bs) (c:Int):Int:=if c<128 then Lib.indexByte s c.toNat.toUInt8 else -1
def Ws:Zo:=fun args σ K=>match args,σ with
 | [.d (.str s),.d (.int .i32 c)],⟨[],[],0⟩=>((s=[110,116,34,92]\/s=[10,9,34,92])/\0<=c/\c<=1114111)/\K (.ret (.d (.int .i64 (Zda s c)))) ⟨[],[],0⟩
 | _,_=>False
def Zcc:Zo:=fun args σ K=>match args,σ with
 | [.ptr 0 0],⟨[.cells t [.d (.str s),.d (.int .i64 a)]],[],0⟩=>(0<=a/\a<s.length/\s.length<4294967281) /\
   K (.ret (ZAR (WZ a.toNat (s.drop a.toNat)))) ⟨[.cells t [.d (.str s),.d (.int .i64 a)]],[],0⟩
 | _,_=>False
def Zky:Zo:=fun args σ K=>match args,σ with
 | [.ptr 0 0],⟨[.cells t [.d (.str s),.d (.int .i64 a)]],[],0⟩=>(0<=a/\a<s.length/\s.length<4294967281) /\
   K (.ret (ZAR (Zd3 a.toNat (s.drop a.toNat)))) ⟨[.cells t [.d (.str s),.d (.int .i64 a)]],[],0⟩
 | _,_=>False
def ZeY:Zo:=fun args σ K=>match args,σ with
 | [.ptr 0 0,.d (.bool room)],⟨[.cells t [.d (.str s),.d (.int .i64 a)]],[],0⟩=>(0<=a/\a<s.length/\s.length<4294967281) /\
   K (.ret (ZAR (Jt a.toNat (s.drop a.toNat) room))) ⟨[.cells t [.d (.str s),.d (.int .i64 a)]],[],0⟩
 | _,_=>False
theorem Zje:ZK ZeY:=fun args σ K K' hK h=>by
 unfold ZeY at h |-;split at h <;> first | exact ⟨h.1,hK _ _ h.2⟩ | exact h.elim
end Go.PM.Lex
end
end

section
namespace Go.PM
theorem VF {G:GE} {g:FuncId} {sp:Zo} (ko:W8 G.P g)
  (h:∀args σ K,sp args σ K->∀(e:Env) (w:World) (vs:Array Value),SRel G e σ w->ArgsRel G e σ w args vs->∃pv σ' v,K (.ret pv) σ'/\Calls G.P g vs w fun en w'=>en=.returned v/\VRel G e σ' w' pv v/\SRel G e σ' w'/\Later e σ w e σ' w'):PCalls G g sp where
 enters:=ko
 calls:=fun args σ K hs n e w vs hS ha=>by
  obtain ⟨pv,σ',v,hK,hc⟩:=h args σ K hs e w vs hS ha;refine CallsIn.mono (callsIn_wide.2 hc) fun en w' ⟨he,hv,ip,hL⟩=>?_
  subst he;exact ⟨.ret pv,σ',e,hK,⟨v,rfl,hv⟩,ip,hL⟩
section
variable {G:GE} {T:Tab} {e:Env} {σ:St} {w:World}
theorem Zdb (hT:TabOK T G.P) (hS:SRel G e σ w) {t:TypeId} {b off:Nat} {x:PV} {v:Value} {l cs:List PV} {ty:TypeId} (hb:σ.bx[b]?=some (.cells ty cs)) (hx:VRel G e σ w x v) (hl:x.cells=some l)
  (aa:l.length=(T.get t).size) (mo:off+l.length<=cs.length) (hk:(T.get t).kind≠.other) :
  Stepped e σ w e (σ.set b (.cells ty (ZJ cs off l))) (w.setCells (e.β b) off v.cells.toList)/\SRel G e (σ.set b (.cells ty (ZJ cs off l))) (w.setCells (e.β b) off v.cells.toList):=by
 obtain ⟨w1,hr,h1,h2⟩:=Ji hT hS hb hx hl aa mo hk;obtain ⟨i,d,z,hi,hd,hs,dm,aw,hz,cx,_⟩:=(hT.get hk).ex;obtain ⟨vs,lp,oq,xl⟩:=hS.box b _ hb;obtain ⟨cy,cu⟩:=W7 hx hl;have hvc:v.cells.toList.length=l.length:=by simpa using cy
 have jo:∀u∈v.cells.toList,u.oneCell'=true:=fun u hu=>by
  exact m139
 have ah:=run_storeCells_cells (P:=G.P) (e.β b) off v.cells.toList 0 w (fun j hj=>by
   have:off+j<vs.size:=oM;simp [World.cell?,lp,this]) (fun j hj=>by simp [World.frozen?,lp]) jo
 simp only [SC] at ah;have f5:(Instr.storeAt t (.pointer (some ⟨e.β b,off,none⟩)) v).run G.P w=.ok () (w.setCells (e.β b) off v.cells.toList):=by
  have mq:v.cells.size=i.size:=by rw [cy,aa,hs]
  exact m68
 rw [f5] at hr
 cases hr
 exact ⟨h1,h2⟩
end
end Go.PM
namespace Go.PM.Lex
open Go.Proofs Go.Shelf
variable {w0:World} {nG:Nat}
theorem u50:Tryz.prog.underlying 110=some (.pointer 113):=kR
theorem u95:Tryz.prog.underlying 276=some .unsafePointer:=kR
theorem i53:∃j,Tryz.prog.info? 113=some j/\j.size=2:=by
 have h:(Tryz.prog.info? 113).map (·.size)=some 2:=kR
 obtain ⟨j,h1,h2⟩:=TW.1 h;exact ⟨j,h1,h2⟩
theorem Zyo:liesAt Tryz.prog Tryz.prog.depth 113 (2 / Tryz.prog.cellsOf 113) 0 113 1=true:=kR
theorem Zhz (b:Nat) (w:World) (h0:w.cell? ⟨b,0,none⟩=some (.pointer (some ⟨b,0,none⟩))) :
  Calls Tryz.prog 177 #[.pointer (some ⟨b,0,none⟩)] w fun e w'=>e=.returned (.tuple #[])/\w'=w:=by
 obtain ⟨j,hj,rf⟩:=i53
 go_enter Tryz.func177,Tryz.ntmps177
 go_wp2
 rw [Go.Lib.run_neq_ptr_same w _ u50 hj]
 go_wp2
 go_end0
 exact ⟨rfl,rfl⟩
theorem Zme (b:Nat) (w:World) (h0:w.cell? ⟨b,0,none⟩=some (.pointer none)) (ep:w.shape? b=some (113,2)) (ji:w.frozen? ⟨b,0,none⟩=false) :
  Calls Tryz.prog 177 #[.pointer (some ⟨b,0,none⟩)] w fun e w'=>e=.returned (.tuple #[])/\w'=w.setCell ⟨b,0,none⟩ (.pointer (some ⟨b,0,none⟩)):=by
 obtain ⟨j,hj,rf⟩:=i53
 go_enter Tryz.func177,Tryz.ntmps177
 go_wp2
 rw [Go.Lib.run_to_unsafe w ⟨b,0,none⟩ u50 u95 hj (by rw [rf];decide) ep (Nat.zero_lt_succ 1)];simp only [Result.andThen];rw [Oper.upon_value]
 go_wp2
 rw [run_callFunc_extern Tryz.func212 kR kR kR (e:=Extern.AbiNoEscape.same) kR];rw [Go.Lib.run_noEscape];simp only [Result.andThen];rw [Oper.upon_value]
 go_wp2
 rw [Go.Lib.run_from_unsafe w ⟨b,0,none⟩ u95 u50 hj ep Zyo];simp only [Result.andThen];rw [Oper.upon_value]
 go_wp2
 go_end0
 exact ⟨rfl,rfl⟩
noncomputable def VG:Zo:=fun args σ K=>match args,σ with
 | [.ptr 0 0],⟨[.cells t [p,q]],tk,nx⟩=>((p=.d .nilp\/p=.ptr 0 0)/\t=113)/\K (.ret (.tuple [])) ⟨[.cells t [.ptr 0 0,q]],tk,nx⟩
 | _,_=>False
theorem ZbA:PC w0 nG 177 VG:=VF (Zk Tryz.func177 kR rfl) fun args σ K h e w vs hS ha=>by
 unfold VG at h
 split at h
 ·rename_i t p q tk nx
  obtain ⟨⟨hp,rfl⟩,hK⟩:=h;obtain ⟨u,rfl,hu⟩:=Zhx ha;obtain ⟨cv,cy,cu,jc⟩:=hS.box 0 _ rfl;have dj:cv.size=2:=cu;obtain ⟨x0,il⟩:∃x,cv[0]?=some x:=⟨cv[0]'oM,by simp [dj]⟩
  have kl:=(jc 0 p x0 rfl il).1
  cases hu with
  | ptr b off hb =>
  refine ⟨_,_,.tuple #[],hK,?_⟩;rcases hp with rfl | rfl
  ·cases kl with
   | d _ _ hd =>
   cases hd
   refine Calls.mono (Zme (e.β 0) w ?_ ?_ ?_) fun en w' ⟨h1,h2⟩=>?_
   ·simp [World.cell?,cy,il]
   ·simp only [World.shape?,cy,dj]
   ·simp [World.frozen?,cy]
   have hst:=Zdb (G:=GG w0 nG) (T:=Zbv) Zc hS (t:=110) (b:=0) (off:=0) (x:=.ptr 0 0) (v:=.pointer (some ⟨e.β 0,0,none⟩)) (l:=[.ptr 0 0]) (cs:=[.d .nilp,q]) (ty:=113) rfl (.ptr 0 0 hb) rfl rfl sM (by intro h;cases h);rw [h2];exact ⟨h1,.tuple [] #[] rfl (fun i x u hx=>by simp at hx),hst.2,hst.1.toLater⟩
  exact m81
 exact h.elim
theorem ZoU {P:Program} {ρ:Ren} (L:Lays.n169 P ρ) (X:Builder.Extra P ρ) (b g cap:Nat) (p:Value) (cur:Array Value) (fz:Nat×Nat) (l:Bs) (w:World) (h0:l≠[])
  (oc:w.heap[b]?=some (.cells #[p,.slice (some ⟨g,0,none⟩) l.length cap] (ρ.t 72) (0,0))) (hg:w.heap[g]?=some (.cells cur (ρ.t 5) fz)) (hn:l.length<=cur.size) (hcap:cap≠0) (dc:l.length<=9223372036854775807)
  (be:∀j x,l[j]?=some x->w.cell? ⟨g,j,none⟩=some (.int .u8 x.toNat)) :
  Calls P (ρ.f 169) #[.pointer (some ⟨b,0,none⟩)] w fun e w'=>e=.returned (.string ⟨l.toArray⟩)/\w'=w.drew.freeze ⟨g,0,none⟩ l.length:=by
 have c1:w.drew.cell? ⟨b,1,none⟩=some (.slice (some ⟨g,0,none⟩) l.length cap):=by
  have:w.drew.heap[b]?=some (.cells #[p,.slice (some ⟨g,0,none⟩) l.length cap] (ρ.t 72) (0,0)):=oc;rw [Go.Lib.cell_of_heap this];rfl
 have hSD:(Builtin.unsafeSliceData_ #[(ρ.t 37)] (ρ.t 127) #[.slice (some ⟨g,0,none⟩) l.length cap]).run P w.drew=.ok (.pointer (some ⟨g,0,none⟩)) w.drew :=
  Go.Lib.run_unsafeSliceData_row _ _ _ _ _ _ hcap
 have hUS:(Builtin.unsafeString_ #[(ρ.t 127),(ρ.t 3)] (ρ.t 9) #[.pointer (some ⟨g,0,none⟩),.int .i64 l.length]).run P w.drew=.ok (.string ⟨l.toArray⟩) (w.drew.freeze ⟨g,0,none⟩ l.length):=by
  exact m70
 have mixed:=L.mixed;have t72:=L.t72;have a72:=L.a72;have z72:=L.z72;have v72:=L.v72;have u72:=run_underlying L.t72;have t70:=L.t70;have a70:=L.a70;have z70:=L.z70;have v70:=L.v70;have u70:=run_underlying L.t70;have t37:=L.t37;have a37:=L.a37;have z37:=L.z37;have v37:=L.v37;have u37:=run_underlying L.t37;have t127:=L.t127;have a127:=L.a127;have z127:=L.z127;have v127:=L.v127;have u127:=run_underlying L.t127;have t3:=L.t3;have a3:=L.a3;have z3:=L.z3;have v3:=L.v3;have u3:=run_underlying L.t3;have t9:=L.t9;have a9:=L.a9;have z9:=L.z9;have v9:=L.v9;have u9:=run_underlying L.t9;have t5:=X.t5;have a5:=X.a5;have z5:=X.z5;have v5:=X.v5;have u5:=run_underlying X.t5
 go_enter L.f169,Body.n169_ntmps ρ
 go_wp2
 go_region_o
 all_goals (go_wp2;go_ret;exact ⟨rfl,rfl⟩)
theorem VH (w:World) (g n k:Nat) (hk:k≠g):(w.drew.freeze ⟨g,0,none⟩ n).heap[k]?=w.heap[k]?:=by
 unfold World.freeze
 split
 ·rfl
 simp only [Array.getElem?_modify];rw [Tg (fun h=>hk h.symm)];rfl
theorem Zjf (w:World) (g n:Nat) {cs:Array Value} {ty:TypeId} {fz:Nat×Nat} (h:w.heap[g]?=some (.cells cs ty fz)):∃fz',(w.drew.freeze ⟨g,0,none⟩ n).heap[g]?=some (.cells cs ty fz'):=by
 have h':w.drew.heap[g]?=some (.cells cs ty fz):=h;unfold World.freeze
 split
 ·exact ⟨fz,h'⟩
 simp only [Array.getElem?_modify,if_true,h',Sk];exact ⟨_,rfl⟩
theorem Zyp {G:GE} {e:Env} {w w':World} {t:TypeId} {p:PV} {rows:List (List D)} (hp:p=.d .nilp\/p=.ptr 0 0) (hS:SRel G e ⟨[.cells t [p,.sl 0 5 rows]],[0],1⟩ w)
  (hsz:w.heap.size<=w'.heap.size) (oy:w'.os=w.os) (htp:w'.tape=w.tape) (i5:w'.output=w.output)
  (be:∀b off u,w.cell? ⟨b,off,none⟩=some u->w'.cell? ⟨b,off,none⟩=some u)
  (f6:∀b,b<w.heap.size->(∀q,e.M 0=some q->q.1≠b)->w'.heap[b]?=w.heap[b]?) :
  SRel G e ⟨[.cells t [p,.d (.sl rows)]],[],0⟩ w'/\Later e ⟨[.cells t [p,.sl 0 5 rows]],[0],1⟩ w e ⟨[.cells t [p,.d (.sl rows)]],[],0⟩ w':=by
 have hL:Later e ⟨[.cells t [p,.sl 0 5 rows]],[0],1⟩ w e ⟨[.cells t [p,.d (.sl rows)]],[],0⟩ w':={
  len:=Tq _
  beta:=fun _ _=>rfl
  X:=rfl
  pres:=fun b off u hu ho=>⟨⟨ho.1,ho.2.1,fun x hx=>by cases hx⟩,be b off u hu⟩
  blocks:=fun b hb h1 h2=>f6 b hb fun q hq=>h2 0 sM q hq
  size:=hsz
  os:=oy
  tape:=htp
  output:=i5
  fresh:=fun i h1 h2=>by simp at h1 h2;omega
  ftok:=fun x hx=>by cases hx }
 have ai:=hS.lt (i:=0) sM;have nr:w'.heap[e.β 0]?=w.heap[e.β 0]?:=f6 _ ai fun q hq=>fun h=>(hS.own 0 sM q hq).2.1 0 sM h.symm
 refine ⟨?_,hL⟩;exact {
  inj:=hS.inj
  box:=fun i x hx=>by
   match i,hx with
   | 0,hx =>
    cases hx
    obtain ⟨cv,h1,h2,h3⟩:=hS.box 0 _ rfl;refine ⟨cv,nr.trans h1,h2,fun j y u hy hu=>?_⟩
    match j,hy with
    | 0,hy =>
     exact m85
    | 1,hy =>
     cases hy
     obtain ⟨q1,q2⟩:=h3 1 (.sl 0 5 rows) u rfl hu;refine ⟨?_,q2⟩
     cases q1 with
     | sl _ _ _ _ hn hd ht=>exact .d _ _ (hd.later hL)
    | j+2,hy=>simp at hy
   | i+1,hx=>simp at hx
  low:=hS.low
  tkn:=fun x hx=>by cases hx
  own:=fun x hx=>by cases hx
  dis:=fun x y hx=>by cases hx
  xlt:=fun b off hx=>TD (hS.xlt b off hx) hsz
  xown:=fun x hx=>by cases hx
  glob:=fun b hb=>by
   rw [f6 b (TD hb hS.big) fun q hq=>fun h=>by have:=(hS.own 0 sM q hq).1;omega];exact hS.glob b hb
  big:=T1 hS.big hsz }
theorem Y9 (l:Bs):(Zj l).length=l.length:=by simp [Zj]
theorem Zyq:(Tryz.prog.info? 5).map (·.size)=some 1:=kR
theorem ZhA:PC w0 nG 40 Zcb:=VF (Zk Tryz.func40 kR rfl) fun args σ K h e w vs hS ha=>by
 unfold Zcb at h
 split at h
 ·rename_i t p el rows
  obtain ⟨l,⟨rfl,rfl,rfl,hp,dc⟩,hK⟩:=h;obtain ⟨u,rfl,hu⟩:=Zhx ha;obtain ⟨cv,cy,cu,jc⟩:=hS.box 0 _ rfl;have dj:cv.size=2:=cu;obtain ⟨v0,v1,rfl⟩:∃v0 v1,cv=#[v0,v1]:=by
   obtain ⟨lst⟩:=cv
   match lst,dj with
   | [a,b],_=>exact ⟨a,b,rfl⟩
  have bi:=(jc 1 (.sl 0 5 (Zj l)) v1 rfl rfl).1
  cases hu with
  | ptr b off hb =>
  refine ⟨_,_,.string ⟨l.toArray⟩,hK,?_⟩;have fin:∀w',w.heap.size<=w'.heap.size->w'.os=w.os->w'.tape=w.tape->w'.output=w.output ->
    (∀b off u,w.cell? ⟨b,off,none⟩=some u->w'.cell? ⟨b,off,none⟩=some u) ->
    (∀b,b<w.heap.size->(∀q,e.M 0=some q->q.1≠b)->w'.heap[b]?=w.heap[b]?) ->
    VRel (GG w0 nG) e ⟨[.cells 113 [p,.d (.sl (Zj l))]],[],0⟩ w' (.d (.str l)) (.string ⟨l.toArray⟩)/\SRel (GG w0 nG) e ⟨[.cells 113 [p,.d (.sl (Zj l))]],[],0⟩ w'/\Later e ⟨[.cells 113 [p,.sl 0 5 (Zj l)]],[0],1⟩ w e ⟨[.cells 113 [p,.d (.sl (Zj l))]],[],0⟩ w':=fun w' h1 h2 h3 h4 h5 h6 =>
   ⟨.mkstr,Zyp hp hS h1 h2 h3 h4 h5 h6⟩
  have grown:∀w',Grows w w'->_:=fun w' g=>fin w' g.size g.os g.tape g.output (fun b off u hu=>(g.cell (Vu hu)).trans hu) (fun b hb _=>g.old b hb)
  cases bi with
  | sl _ _ _ _ hn hd ht =>
  rcases ht sM with ⟨rfl,bh,hM⟩ | ⟨sz,g1,g2,g3,g,off,cap,cs,ty,fz,rfl,g4,g5,g6,⟨g7,rfl,rfl,g8⟩,g9,hM⟩
  ·have hl:l=[]:=by simpa [Zj] using bh
   subst hl;refine (Any.Builder_String_nil Tryz.lays169 Tryz.Builder_Extra_169 w.heap.size (e.β 0) v0 w cy).mono fun en w' ⟨h1,h2⟩=>?_
   exact ⟨h1,grown w' (ZDi h2)⟩
  have ib:sz=1:=by
   have:(Tryz.prog.info? 5).map (·.size)=some sz:=g1
   rw [Zyq] at this;cases this;rfl
  subst ib;rw [Y9] at g5 cy g9 hM hd
  by_cases hl:l=[]
  ·subst hl;refine (Any.Builder_String_room Tryz.lays169 Tryz.Builder_Extra_169 w.heap.size (e.β 0) g cap v0 w oM cy).mono fun en w' ⟨h1,h2⟩=>?_
   exact ⟨h1,grown w' (ZDi h2)⟩
  have be:∀j x,l[j]?=some x->w.cell? ⟨g,j,none⟩=some (.int .u8 x.toNat):=by
   exact m31
  obtain ⟨fz',pa⟩:=Zjf w g l.length g6;refine (ZoU Tryz.lays169 Tryz.Builder_Extra_169 (e.β 0) g cap v0 cs fz l w hl cy g6 oM oM oM be).mono fun en w' ⟨h1,h2⟩=>?_
  rw [h2];refine ⟨h1,fin _ ?_ ?_ ?_ ?_ ?_ ?_⟩
  ·unfold World.freeze;split <;> first | exact Tq _ | (simp only [Array.size_modify];exact Tq _)
  ·exact m141
  ·exact m141
  ·exact m141
  ·exact m106
  intro b hb hq
  exact VH w g l.length b fun h=>hq _ hM h.symm
 exact h.elim
end Go.PM.Lex
end

section
namespace Go.PM.Lex
open Go.Proofs
variable {w0:World} {nG:Nat}
theorem orB (n:Fin 128):Zi .or .i32 (n.val:Int) 32=((n.val ||| 32:Nat):Int):=by rw [Z2];revert n;decide +kernel
theorem orM:Zi .or .i32 (-1) 32=-1:=by rw [Z2];decide +kernel
theorem orL:∀n:Fin 128,(97<=(n.val ||| 32)/\(n.val ||| 32)<=122)↔((97<=n.val/\n.val<=122)\/(65<=n.val/\n.val<=90)):=by decide +kernel
theorem ZoV {c:Int} (h0:-1<=c) (h1:c<128):(97<=Zi .or .i32 c 32/\Zi .or .i32 c 32<=122)↔((97<=c/\c<=122)\/(65<=c/\c<=90)):=by
 by_cases hc:c=-1
 ·subst hc;rw [orM];omega
 obtain ⟨n,rfl⟩:∃n:Nat,c=n:=⟨c.toNat,oM⟩
 have hn:n<128:=oM;have h2:=orB ⟨n,hn⟩;have h3:=orL ⟨n,hn⟩;simp only at h2 h3;rw [h2];omega
theorem Zkz {K:PEnd->St->Prop} {b b':Bool} {σ:St} (h:K (.ret (.d (.bool b))) σ) (h1:b=b'):K (.ret (.d (.bool b'))) σ:=by subst h1;exact h
theorem Zf4:PC w0 nG 205 Zc9:=by
 refine Zd Zc mixed (tbl:=[]) trivial Tryz.func205 rfl kR kR ?_;intro args σ K h
 unfold Zc9 at h
 split at h
 ·rename_i c
  refine ⟨Zb [],0,false,dM,Ta rfl,?_⟩;refine ZDc (fun h1=>?_) (fun h1=>?_)
  ·refine Zkz h ?_;simp only [Zm,decide_eq_decide];omega
  refine Zkz h ?_;simp only [Zm,decide_eq_false_iff_not];omega
 exact h.elim
theorem J8:PC w0 nG 164 UK:=by
 refine Zd Zc mixed (tbl:=[]) trivial Tryz.func164 rfl kR kR ?_;intro args σ K h
 unfold UK at h
 split at h
 ·rename_i c
  obtain ⟨⟨h0,_⟩,h⟩:=h;refine ⟨Zb [],0,false,dM,Ta rfl,?_⟩
  repeat' ((conv=>whnf);refine ZDc (fun h1=>?_) (fun h1=>?_))
  all_goals (conv=>whnf)
  all_goals (try (have hl:=ZoV (c:=c) h0 oM))
  all_goals (refine Zkz h ?_;simp only [Zl,TM,decide_eq_false_iff_not,decide_eq_decide];omega)
 exact h.elim
theorem ZCA (r:Bs):Lib.hasPrefix r [239,191,189]=true↔2<r.length/\(r.getD 0 0).toNat=239/\(r.getD 1 0).toNat=191/\(r.getD 2 0).toNat=189:=by
 unfold Lib.hasPrefix
 match r with
 | []=>simp
 | [a]=>simp [List.isPrefixOf]
 | [a,b]=>simp [List.isPrefixOf]
 | a::b::c::l =>
  have ha:=UInt8.toNat_inj (a:=239) (b:=a);have hb:=UInt8.toNat_inj (a:=191) (b:=b);have hc:=UInt8.toNat_inj (a:=189) (b:=c);simp only [List.isPrefixOf,Bool.and_true,Tl,beq_iff_eq,Tc,Sz,SA];rw [<- ha,<- hb,<- hc];have e1:(239:UInt8).toNat=239:=rfl;have e2:(191:UInt8).toNat=191:=rfl;have e3:(189:UInt8).toNat=189:=rfl;rw [e1,e2,e3];omega
theorem ZB8 (r:Bs) (hv:(Lib.decodeL r).1=65533):(Lib.hasPrefix r [239,191,189]=true/\(Lib.decodeL r).2=3)\/(¬Lib.hasPrefix r [239,191,189]=true/\(Lib.decodeL r).2=1):=by
 rw [ZCA];rw [Lib.decodeL_N] at hv |-;have k0:=(r.getD 0 0).toNat_lt;have k1:=(r.getD 1 0).toNat_lt;have k2:=(r.getD 2 0).toNat_lt;have k3:=(r.getD 3 0).toNat_lt
 by_cases hp:2<r.length/\(r.getD 0 0).toNat=239/\(r.getD 1 0).toNat=191/\(r.getD 2 0).toNat=189
 ·left
  refine ⟨hp,?_⟩;obtain ⟨p0,p1,p2,p3⟩:=hp;rw [p1,p2,p3];unfold Lib.decodeN
  have hl:1<r.length:=oM;simp [p0,hl]
 right
 refine ⟨hp,?_⟩;rcases Lib.decodeN_shape r.length (r.getD 0 0).toNat (r.getD 1 0).toNat (r.getD 2 0).toNat (r.getD 3 0).toNat with ⟨c,e⟩ | ⟨c1,c2,c3,cv,e⟩ | ⟨c1,c2,c3,c4,cv,cs,e⟩ | ⟨c1,c2,c3,c4,c5,cv,cw,e⟩ | e
 all_goals (rw [e] at hv)
 all_goals (dsimp only at hv)
 ·omega
 ·omega
 ·exact absurd ⟨c2,oM,oM,oM⟩ hp
 ·omega
 rw [e]
theorem Zyr:pk []=(-1,1):=by simp [pk]
theorem Zsm (r:Bs) (h0:0<r.length) (hv:¬(Lib.decodeL r).1=65533):pk r=(((Lib.decodeL r).1:Int),(Lib.decodeL r).2):=by
 have ao:r≠[]:=fun h=>by subst h;simp at h0
 have:Lib.decodeL r≠(65533,1):=fun h=>hv (by rw [h])
 simp [pk,ao,this]
theorem Zvv (r:Bs) (h0:0<r.length) (hp:Lib.hasPrefix r [239,191,189]=true) (hv:(Lib.decodeL r).1=65533):pk r=(65533,3):=by
 have ao:r≠[]:=fun h=>by subst h;simp at h0
 rcases ZB8 r hv with ⟨_,h2⟩ | ⟨h1,_⟩
 ·have:Lib.decodeL r≠(65533,1):=fun h=>by rw [h] at h2;simp at h2
  simp [pk,ao,this,hv,h2]
 exact absurd hp h1
theorem Zys (r:Bs) (hp:¬Lib.hasPrefix r [239,191,189]=true) (hv:(Lib.decodeL r).1=65533):pk r=(-1,1):=by
 rcases ZB8 r hv with ⟨h1,h2⟩ | ⟨_,h2⟩
 ·exact absurd h1 hp
 have:Lib.decodeL r=(65533,1):=Prod.ext hv h2;simp [pk,this]
theorem ZoW (r:Bs):1<=(pk r).2/\(pk r).2<=4:=by
 unfold pk
 split
 ·simp
 rename_i h
 simp only [not_or] at h;simp only;rw [Lib.decodeL_N];rcases Lib.decodeN_shape r.length (r.getD 0 0).toNat (r.getD 1 0).toNat (r.getD 2 0).toNat (r.getD 3 0).toNat with ⟨c,e⟩ | ⟨c1,c2,c3,cv,e⟩ | ⟨c1,c2,c3,c4,cv,cs,e⟩ | ⟨c1,c2,c3,c4,c5,cv,cw,e⟩ | e
 all_goals (rw [e];simp)
theorem WP (r:Bs):-1<=(pk r).1/\(pk r).1<=1114111:=by
 unfold pk
 split
 ·simp
 simp only;exact m65
theorem Zyt (r:Bs) (h:(pk r).1≠-1):1<=(pk r).2/\(pk r).2<=r.length/\r≠[]:=by
 have hl:=ZoW r;unfold pk at h hl |-
 split at h
 ·exact absurd rfl h
 rename_i h1
 simp only [not_or] at h1;rw [Tg (by simp only [not_or];exact h1)] at hl |-;exact ⟨hl.1,Lib.decodeL_le r h1.1,h1.1⟩
theorem Ue {s:Bs} {n:Nat}:cut s n s.length=s.drop n:=by simp [cut]
theorem Zvx (ht:TO w0 nG [(203,Zc8),(204,Xv)]):PC w0 nG 163 Zbz:=by
 refine Zd Zc mixed ht Tryz.func163 rfl kR kR ?_;intro args σ K h
 unfold Zbz at h
 split at h
 ·rename_i at' t s a
  obtain ⟨⟨h0,hs⟩,h⟩:=h;refine ⟨Zb [(2,⟨[],[0,1,21],fun vs σ=>vs=[]/\σ=⟨[.cells t [.d (.str s),.d (.int .i64 a)],.iter (s.drop at'.toNat) 0],[],0⟩,fun _ _=>0⟩)],1,false,sM,Ta rfl,wN ?_⟩;have fm:cut s (min at' (s.length:Int)).toNat s.length=s.drop at'.toNat:=by
   rw [Ue]
   by_cases hl:at'<=s.length
   ·rw [Int.min_eq_left hl]
   rw [Int.min_eq_right oM,TJ oM,TJ oM]
  refine ⟨oM,wN ?_⟩;refine ⟨oM,wN ?_⟩;refine ⟨⟨rfl,?_⟩,?_⟩
  ·rw [fm];rfl
  intro vs σ1 hI
  obtain ⟨rfl,rfl⟩:=hI;refine ZDc (fun h1=>wN ?_) (fun h1=>wN ?_)
  ·refine ZDe (fun h2=>wN ?_) (fun h2=>wN ?_)
   ·rw [ZeX] at h2;have hl:0<(s.drop at'.toNat).length:=by simpa using h1
    rw [SE] at h2;have ao:¬(Lib.decodeL (s.drop at'.toNat)).1=65533:=oM;rw [Zsm _ hl ao] at h;rw [ZeX,SE];have hr:=Lib.runeLen_decode _ ao;rw [hr];exact h
   rw [ZeX] at h2;have hl:0<(s.drop at'.toNat).length:=by simpa using h1
   have hd:(Lib.decodeL (s.drop at'.toNat)).1=65533:=by rw [SE] at h2;omega
   refine ⟨h0,by simp at hl;omega,wN ?_⟩;refine ZDg (fun h3=>wN ?_) (fun h3=>wN ?_)
   ·rw [Ue] at h3;rw [Zvv _ hl h3 hd] at h;rw [ZeX,SE,hd];exact h
   rw [Ue] at h3;rw [Zys _ (by rw [h3];simp) hd] at h;exact h
  have:s.drop at'.toNat=[]:=by simp at h1;exact TJ oM
  rw [this,Zyr] at h;exact h
 exact h.elim
def muI (B:Int):List PV->St->Nat:=fun vs _=>match vs with | .d (.int _ n)::_=>(B - n).toNat | _=>0
theorem Zvz (ht:TO w0 nG [(204,Xv),(239,Wq)]):PC w0 nG 249 Zkx:=by
 refine Zd Zc mixed ht Tryz.func249 rfl kR kR ?_;intro args σ K h
 unfold Zkx at h
 split at h
 ·rename_i t s a
  obtain ⟨⟨h0,h1,hs⟩,h⟩:=h;refine ⟨Zb [(3,⟨[16],[0,3,15],fun vs σ=>σ=⟨[.cells t [.d (.str s),.d (.int .i64 a)]],[],0⟩/\∃i:Nat,i<=5/\vs=[.d (.int .i64 i)]/\(twos.take i).any (Lib.hasPrefix (s.drop a.toNat))=false,muI 5⟩)],1,false,sM,Ta rfl,wN ?_⟩;refine ⟨h0,oM,wN ?_⟩;rw [Ue];refine ⟨⟨rfl,0,oM,rfl,rfl⟩,?_⟩;intro vs σ1 hI
  obtain ⟨rfl,i,hi,rfl,hn⟩:=hI
  match i,hi,hn with
  | 0,hi,hn =>
   conv=>whnf
   refine ⟨oM,oM,wN ?_⟩;refine ZDg (fun h2=>wN ?_) (fun h2=>wN ?_)
   ·exact m37
   refine Or.inl ⟨InR.i64 oM oM,wN ?_⟩;refine ⟨⟨rfl,1,oM,rfl,?_⟩,?_⟩
   ·have dh:Lib.hasPrefix (s.drop a.toNat) (twos.getD 0 [])=false:=h2;exact m50
   exact (show (5 - (((0:Nat):Int)+1)).toNat<(5 - ((0:Nat):Int)).toNat by omega)
  | 1,hi,hn =>
   conv=>whnf
   refine ⟨oM,oM,wN ?_⟩;refine ZDg (fun h2=>wN ?_) (fun h2=>wN ?_)
   ·exact m37
   refine Or.inl ⟨InR.i64 oM oM,wN ?_⟩;refine ⟨⟨rfl,2,oM,rfl,?_⟩,?_⟩
   ·have dh:Lib.hasPrefix (s.drop a.toNat) (twos.getD 1 [])=false:=h2;exact m50
   exact (show (5 - (((1:Nat):Int)+1)).toNat<(5 - ((1:Nat):Int)).toNat by omega)
  | 2,hi,hn =>
   conv=>whnf
   refine ⟨oM,oM,wN ?_⟩;refine ZDg (fun h2=>wN ?_) (fun h2=>wN ?_)
   ·exact m37
   refine Or.inl ⟨InR.i64 oM oM,wN ?_⟩;refine ⟨⟨rfl,3,oM,rfl,?_⟩,?_⟩
   ·have dh:Lib.hasPrefix (s.drop a.toNat) (twos.getD 2 [])=false:=h2;exact m50
   exact (show (5 - (((2:Nat):Int)+1)).toNat<(5 - ((2:Nat):Int)).toNat by omega)
  | 3,hi,hn =>
   conv=>whnf
   refine ⟨oM,oM,wN ?_⟩;refine ZDg (fun h2=>wN ?_) (fun h2=>wN ?_)
   ·exact m37
   refine Or.inl ⟨InR.i64 oM oM,wN ?_⟩;refine ⟨⟨rfl,4,oM,rfl,?_⟩,?_⟩
   ·have dh:Lib.hasPrefix (s.drop a.toNat) (twos.getD 3 [])=false:=h2;exact m50
   exact (show (5 - (((3:Nat):Int)+1)).toNat<(5 - ((3:Nat):Int)).toNat by omega)
  | 4,hi,hn =>
   conv=>whnf
   refine ⟨oM,oM,wN ?_⟩;refine ZDg (fun h2=>wN ?_) (fun h2=>wN ?_)
   ·exact m37
   refine Or.inl ⟨InR.i64 oM oM,wN ?_⟩;refine ⟨⟨rfl,5,oM,rfl,?_⟩,?_⟩
   ·have dh:Lib.hasPrefix (s.drop a.toNat) (twos.getD 4 [])=false:=h2;exact m50
   exact (show (5 - (((4:Nat):Int)+1)).toNat<(5 - ((4:Nat):Int)).toNat by omega)
  | 5,hi,hn =>
   conv=>whnf
   refine ⟨oM,sO,wN ?_⟩;refine ZDc (fun h2=>wN ?_) (fun h2=>wN ?_)
   ·have e:XO (s.drop a.toNat)=1:=by
     have hc:ones.contains ((s.drop a.toNat).getD 0 0)=true:=by
      rw [Lib.contains_iff_indexByte];simpa [ones] using h2
     rw [XO,Tg (by simpa [twos] using hn),Tj hc]
    rw [e] at h;exact h
   have e:XO (s.drop a.toNat)=0:=by
    have hc:ones.contains ((s.drop a.toNat).getD 0 0)=false:=by
     rw [Lib.contains_iff_indexByte];simpa [ones] using h2
    rw [XO,Tg (by simpa [twos] using hn),Tg (by rw [hc];simp)]
   rw [e] at h;exact h
 exact h.elim
theorem ZbB:Zl (-1)=false:=dM
theorem Zdc:Zm (-1)=false:=dM
theorem Zmf {f:Nat} {r:Bs} (h1:(pk r).1=46) (h2:Zl (pk (r.drop 1)).1=true):Y4 (f+1) r=(pk r).2+Y4 f (r.drop (pk r).2):=by rw [Y4,Tj h1,Tj h2]
theorem Zf5 {f:Nat} {r:Bs} (h1:(pk r).1=46) (h2:Zl (pk (r.drop 1)).1=false):Y4 (f+1) r=0:=by rw [Y4,Tj h1,Tg (by rw [h2];simp)]
theorem ZhB {f:Nat} {r:Bs} (h1:¬(pk r).1=46) (h2:Zl (pk r).1=true\/Zm (pk r).1=true):Y4 (f+1) r=(pk r).2+Y4 f (r.drop (pk r).2):=by rw [Y4,Tg h1,Tj h2]
theorem Zmg {f:Nat} {r:Bs} (h1:¬(pk r).1=46) (h2:Zl (pk r).1=false) (h3:Zm (pk r).1=false):Y4 (f+1) r=0:=by rw [Y4,Tg h1,Tg (by simp [h2,h3])]
theorem Zf6 {s:Bs} {a b:Nat}:cut s a b=(s.drop a).take (b - a):=by simp [cut,List.drop_take]
theorem ZvB (ht:TO w0 nG [(163,Zbz),(164,UK),(205,Zc9)]):PC w0 nG 165 Zhv:=by
 refine Zd Zc mixed ht Tryz.func165 rfl kR kR ?_;intro args σ K h
 unfold Zhv at h
 split at h
 ·rename_i t s a
  obtain ⟨⟨h0,h1,hs⟩,h⟩:=h;obtain ⟨a,rfl⟩:∃n:Nat,a=n:=⟨a.toNat,oM⟩
  simp only [Tw] at h;refine ⟨Zb [(2,⟨[3],[0,2],fun vs σ=>σ=⟨[.cells t [.d (.str s),.d (.int .i64 a)],.cells 180 [.d (.int .u8 0),.d (.str []),.d (.int .i64 0),.d (.int .i64 0),.d (.int .i64 0)]],[],0⟩ /\
   ∃e f:Nat,a<=e/\e<=s.length/\vs=[.d (.int .i64 e)]/\s.length<e+f/\e+Y4 f (s.drop e)=a+VC (s.drop a),muI s.length⟩)],1,false,sM,Ta rfl,?_⟩
  conv=>whnf
  refine ⟨⟨rfl,a,s.length - a+1,oM,oM,rfl,oM,by simp [VC]⟩,?_⟩;intro vs σ1 hI
  obtain ⟨rfl,e,f,x7,t8,rfl,hf,hn⟩:=hI;obtain ⟨f,rfl⟩:∃g,f=g+1:=⟨f - 1,oM⟩
  have sq:=WP (s.drop e);have iu:=ZoW (s.drop e);have wg:=Zyt (s.drop e);have uf:=WP (s.drop ((e:Int)+1).toNat);have eb:Y4 (f+1) (s.drop e)=0->K (.ret (Zd5 1 (cut s a e) 0 a e)) ⟨[.cells t [.d (.str s),.d (.int .i64 a)]],[],0⟩:=fun h3=>by
   have e2:VC (s.drop a)=e - a:=by rw [h3] at hn;omega
   rw [e2,show (a:Int)+((e - a:Nat):Int)=(e:Int) by omega,<- Zf6] at h;exact h
  have f7:∀n:Nat,1<=n->e+n<=s.length->Y4 (f+1) (s.drop e)=n+Y4 f ((s.drop e).drop n)->a<=e+n/\e+n<=s.length/\s.length<(e+n)+f/\(e+n)+Y4 f (s.drop (e+n))=a+VC (s.drop a):=fun n h1 h2 h3=>by
   rw [TF] at h3;exact ⟨oM,h2,oM,by rw [<- hn,h3];omega⟩
  conv=>whnf
  refine ⟨⟨oM,oM⟩,wN ?_⟩;refine ZDc (fun h2=>wN ?_) (fun h2=>wN ?_)
  ·refine Or.inl ⟨InR.i64 oM oM,wN ?_⟩;refine ⟨⟨oM,oM⟩,wN ?_⟩;refine ⟨⟨oM,oM⟩,wN ?_⟩;have hw:((e:Int)+1).toNat=e+1:=oM;refine ZDg (fun h3=>wN ?_) (fun h3=>wN ?_)
   ·rw [hw] at h3;refine ⟨oM,oM,oM,wN ?_⟩;exact eb (Zf5 h2 (by rw [TF];simpa using h3))
   rw [hw] at h3;have ao:(pk (s.drop e)).1≠-1:=by have:(pk (s.drop e)).1=46:=h2;omega
   obtain ⟨g1,g2,g3⟩:=wg ao;have g2':e+(pk (s.drop e)).2<=s.length:=by rw [TA] at g2;omega
   refine Or.inl ⟨InR.i64 tN tN,wN ?_⟩;obtain ⟨k1,k2,k3,k4⟩:=f7 _ g1 g2' (Zmf h2 (by rw [TF];simpa using h3));exact m57
  have dh:¬(pk (s.drop e)).1=46:=h2;have fin:∀(h4:Zl (pk (s.drop e)).1=true\/Zm (pk (s.drop e)).1=true),a<=e+(pk (s.drop e)).2/\e+(pk (s.drop e)).2<=s.length/\s.length<(e+(pk (s.drop e)).2)+f/\(e+(pk (s.drop e)).2)+Y4 f (s.drop (e+(pk (s.drop e)).2))=a+VC (s.drop a):=fun h4=>by
   have ao:(pk (s.drop e)).1≠-1:=fun h5=>by rw [h5,ZbB,Zdc] at h4;simp at h4
   obtain ⟨g1,g2,g3⟩:=wg ao;have g2':e+(pk (s.drop e)).2<=s.length:=by rw [TA] at g2;omega
   exact f7 _ g1 g2' (ZhB dh h4)
  refine ⟨⟨sq.1,tN⟩,wN ?_⟩;refine ZDg (fun h3=>wN ?_) (fun h3=>wN ?_)
  ·have ei:Zl (pk (s.drop e)).1=false:=by simpa using h3
   refine ZDg (fun h4=>wN ?_) (fun h4=>wN ?_)
   ·have jd:Zm (pk (s.drop e)).1=false:=by simpa using h4
    refine ⟨oM,oM,oM,wN ?_⟩;exact eb (Zmg dh ei jd)
   have jd:Zm (pk (s.drop e)).1=true:=by simpa using h4
   obtain ⟨k1,k2,k3,k4⟩:=fin (.inr jd);refine Or.inl ⟨InR.i64 tN tN,wN ?_⟩;exact m57
  have ei:Zl (pk (s.drop e)).1=true:=by simpa using h3
  obtain ⟨k1,k2,k3,k4⟩:=fin (.inl ei);refine Or.inl ⟨InR.i64 tN tN,wN ?_⟩;exact m57
 exact h.elim
def ZCB (B:Int):List PV->St->Nat:=fun _ σ=>match σ.bx with | .cells _ (_::.d (.int _ n)::_)::_=>(B - n).toNat | _=>0
theorem Uf (p:UInt8->Bool):∀r:Bs,r.dropWhile p=r.drop (r.length - (r.dropWhile p).length)/\(r.dropWhile p).length<=r.length
 | []=>sM
 | x::r=>by
  have ih:=Uf p r
  by_cases hx:p x=true
  ·simp only [List.dropWhile_cons,hx,if_true,Tc];refine ⟨?_,oM⟩;rw [show r.length+1 - (r.dropWhile p).length=(r.length - (r.dropWhile p).length)+1 by omega,List.drop_succ_cons];exact ih.1
  simp [List.dropWhile_cons,hx]
theorem Ug (c:UInt8):∀l:Bs,Lib.indexByte l c<l.length\/Lib.indexByte l c=-1
 | []=>.inr rfl
 | b::l=>by
  have ih:=Ug c l;unfold Lib.indexByte
  split
  ·left;simp
  split
  ·exact .inr rfl
  rename_i h1 h2
  rcases ih with h | h
  ·left;simp;omega
  rw [h] at h2;simp at h2
theorem Zf7 (p:Bs):∀l:Bs,0<=Lib.index l p->Lib.index l p+p.length<=l.length
 | [],h=>by
  unfold Lib.index at h |-
  split at h
  ·rename_i hp
   simp at hp;subst hp;simp
  omega
 | b::l,h=>by
  have ih:=Zf7 p l;unfold Lib.index at h |-
  split at h
  ·rename_i hp
   have:=List.IsPrefix.length_le (List.isPrefixOf_iff_prefix.1 hp);simp only [hp,if_true];simp only [Tc] at this |-;omega
  split at h
  ·omega
  rename_i h1 h2
  have:=Lib.index_ge l p;have h3:Lib.index l p≠-1:=by simpa using h2
  simp only [h1,h2,Tp,if_false];have:=ih oM;simp only [Tc];omega
theorem Yl {r:Bs} {a b:UInt8} (h:Lib.hasPrefix r [a,b]=true):2<=r.length/\r=a::b::r.drop 2:=by
 obtain ⟨t,rfl⟩:=List.isPrefixOf_iff_prefix.1 h;simp
theorem Zf8 {r:Bs} {a b c:UInt8} (h:Lib.hasPrefix r [a,b]=true) (ha:a≠c) (hb:b≠c) (h0:0<=Lib.indexByte r c):2<=Lib.indexByte r c:=by
 rw [(Yl h).2] at h0 |-;have h1:(a == c)=false:=by simpa using ha
 have h2:(b == c)=false:=by simpa using hb
 have hg:=Lib.indexByte_ge (r.drop 2) c;simp only [Lib.indexByte,h1,h2,Tp,if_false] at h0 |-
 by_cases hm:Lib.indexByte (r.drop 2) c=-1
 ·rw [hm] at h0;simp at h0
 have we:(Lib.indexByte (r.drop 2) c == -1)=false:=by simpa using hm
 simp only [we,Tp,if_false] at h0 |-;have:(Lib.indexByte (r.drop 2) c+1 == -1)=false:=sO;simp only [this,Tp,if_false];omega
theorem Zyu:∀(j:Nat) (b:UInt8),([32,9,13,10]:Bs)[j]?=some b->b.toNat<128
 | 0,b,h=>by simp at h;subst h;decide
 | 1,b,h=>by simp at h;subst h;decide
 | 2,b,h=>by simp at h;subst h;decide
 | 3,b,h=>by simp at h;subst h;decide
 | j+4,b,h=>by simp at h
theorem Zso (ht:TO w0 nG [(247,ZaS),(204,Xv),(239,Wq),(248,Zjc)]):PC w0 nG 217 ZaT:=by
 refine Zd Zc mixed ht Tryz.func217 rfl kR kR ?_;intro args σ K h
 unfold ZaT at h
 split at h
 ·rename_i t s a
  obtain ⟨⟨h0,h1,hs⟩,h⟩:=h;obtain ⟨a,rfl⟩:∃n:Nat,a=n:=⟨a.toNat,oM⟩
  simp only [Tw] at h;refine ⟨Zb [(1,⟨[],[0],fun vs σ=>vs=[] /\
   ∃e f:Nat,σ=⟨[.cells t [.d (.str s),.d (.int .i64 e)]],[],0⟩/\a<=e/\e<=s.length/\s.length<e+f/\(ZP f (s.drop e)).1=(YT (s.drop a)).1/\e+(ZP f (s.drop e)).2=a+(YT (s.drop a)).2,ZCB s.length⟩)],1,false,sM,Ta rfl,?_⟩
  conv=>whnf
  refine ⟨⟨rfl,a,s.length - a+1,rfl,oM,oM,oM,by simp [YT],by simp [YT]⟩,?_⟩;intro vs σ1 hI
  obtain ⟨rfl,e,f,rfl,x7,t8,hf,eo,gy⟩:=hI;obtain ⟨f,rfl⟩:∃g,f=g+1:=⟨f - 1,oM⟩
  conv=>whnf
  refine ⟨oM,oM,wN ?_⟩;refine ⟨⟨dM,Zyu⟩,wN ?_⟩;generalize ns:Lib.trimLeftS (cut s _ _) _=rest;have an:Lib.trimLeftS (s.drop e) [32,9,13,10]=rest:=by rw [Ue] at ns;exact ns
  have x8:=Uf (([32,9,13,10]:Bs).contains ·) (s.drop e)
  have bi:rest=(s.drop e).drop ((s.drop e).length - rest.length):=by rw [<- an];exact x8.1
  have f5:rest.length<=(s.drop e).length:=by rw [<- an];exact x8.2
  rw [TA] at f5;have sr:rest=s.drop (s.length - rest.length):=by
   rw [TF,TA,show e+(s.length - e - rest.length)=s.length - rest.length by omega] at bi;exact bi
  have hk:(s.drop e).length - rest.length=s.length - rest.length - e:=hD;have f7:∀n:Nat,1<=n->n<=rest.length->ZP (f+1) (s.drop e)=((ZP f (rest.drop n)).1,(s.drop e).length - rest.length+n+(ZP f (rest.drop n)).2) ->
    a<=s.length - rest.length+n/\s.length - rest.length+n<=s.length/\s.length<(s.length - rest.length+n)+f/\(ZP f (s.drop (s.length - rest.length+n))).1=(YT (s.drop a)).1/\(s.length - rest.length+n)+(ZP f (s.drop (s.length - rest.length+n))).2=a+(YT (s.drop a)).2:=fun n g1 g2 g3=>by
   have g4:rest.drop n=s.drop (s.length - rest.length+n):=by rw [<- TF,<- sr]
   rw [g3,g4] at eo gy;simp only at eo gy;exact ⟨oM,oM,oM,eo,oM⟩
  have eb:∀b:Bool,ZP (f+1) (s.drop e)=(b,(s.drop e).length - rest.length)->K (.ret (.d (.bool b))) ⟨[.cells t [.d (.str s),.d (.int .i64 ((s.length:Int) - rest.length))]],[],0⟩:=fun b g=>by
   rw [g] at eo gy;simp only at eo gy;rw [<- eo,show (a:Int)+((YT (s.drop a)).2:Int)=(s.length:Int) - rest.length by omega] at h;exact h
  have bg1:Lib.hasPrefix rest [47,47]=true->ZP (f+1) (s.drop e)=((ZP f (rest.drop (if Lib.indexByte rest 10<0 then rest.length else (Lib.indexByte rest 10).toNat))).1,(s.drop e).length - rest.length+(if Lib.indexByte rest 10<0 then rest.length else (Lib.indexByte rest 10).toNat)+(ZP f (rest.drop (if Lib.indexByte rest 10<0 then rest.length else (Lib.indexByte rest 10).toNat))).2):=fun g=>by
   simp only [ZP,an,g,if_true]
  have bg2:Lib.hasPrefix rest [47,47]=false->Lib.hasPrefix rest [47,42]=true->Lib.index (rest.drop 2) [42,47]<0->ZP (f+1) (s.drop e)=(false,(s.drop e).length - rest.length):=fun g1 g2 g3=>by
   simp only [ZP,an,g1,g2,g3,if_true,Tp,if_false]
  have bg3:Lib.hasPrefix rest [47,47]=false->Lib.hasPrefix rest [47,42]=true->¬Lib.index (rest.drop 2) [42,47]<0->ZP (f+1) (s.drop e)=((ZP f (rest.drop ((Lib.index (rest.drop 2) [42,47]).toNat+4))).1,(s.drop e).length - rest.length+((Lib.index (rest.drop 2) [42,47]).toNat+4)+(ZP f (rest.drop ((Lib.index (rest.drop 2) [42,47]).toNat+4))).2):=fun g1 g2 g3=>by
   simp only [ZP,an,g1,g2,g3,if_true,Tp,if_false]
  have bg4:Lib.hasPrefix rest [47,47]=false->Lib.hasPrefix rest [47,42]=false->ZP (f+1) (s.drop e)=(true,(s.drop e).length - rest.length):=fun g1 g2=>by
   simp only [ZP,an,g1,g2,Tp,if_false]
  refine Or.inl ⟨InR.i64 oM oM,wN ?_⟩;refine ZDg (fun h2=>wN ?_) (fun h2=>wN ?_)
  ·have dh:Lib.hasPrefix rest [47,47]=true:=h2;have ss:=(Yl dh).1;have bg:=bg1 dh;have kg:=Lib.indexByte_ge rest 10;have ai:=Ug 10 rest;have h22:=Zf8 (c:=10) dh dM dM;refine ZDc (fun h3=>wN ?_) (fun h3=>wN ?_)
   ·have ei:Lib.indexByte rest 10<0:=h3;simp only [ei,if_true] at bg;refine Or.inl ⟨InR.i64 oM oM,wN ?_⟩;obtain ⟨k1,k2,k3,k4,k5⟩:=f7 _ oM oM bg;refine ⟨⟨rfl,_,f,?_,k1,k2,k3,k4,k5⟩,?_⟩
    ·rw [show (s.length:Int) - (rest.length:Int)+(rest.length:Int)=((s.length - rest.length+rest.length:Nat):Int) by omega];rfl
    exact (show ((s.length:Int) - ((s.length:Int) - (rest.length:Int)+(rest.length:Int))).toNat<((s.length:Int) - (e:Int)).toNat by omega)
   have ei:¬Lib.indexByte rest 10<0:=h3;simp only [ei,if_false] at bg;obtain ⟨n,hn⟩:∃n:Nat,Lib.indexByte rest 10=n:=⟨(Lib.indexByte rest 10).toNat,oM⟩
   have ri:Lib.indexByte rest ((10:Int).toNat.toUInt8)=n:=hn;rw [ri];rw [hn] at h22 ai;rw [hn,Tw] at bg;refine Or.inl ⟨InR.i64 oM oM,wN ?_⟩;obtain ⟨k1,k2,k3,k4,k5⟩:=f7 _ oM oM bg;refine ⟨⟨rfl,_,f,?_,k1,k2,k3,k4,k5⟩,?_⟩
   ·rw [show (s.length:Int) - (rest.length:Int)+(n:Int)=((s.length - rest.length+n:Nat):Int) by omega];rfl
   exact (show ((s.length:Int) - ((s.length:Int) - (rest.length:Int)+(n:Int))).toNat<((s.length:Int) - (e:Int)).toNat by omega)
  have dh:Lib.hasPrefix rest [47,47]=false:=h2;refine ZDg (fun h3=>wN ?_) (fun h3=>wN ?_)
  ·have ei:Lib.hasPrefix rest [47,42]=true:=h3;have ss:=(Yl ei).1;refine ⟨oM,oM,wN ?_⟩;rw [Ue];have ja:(rest.drop 2).length=rest.length - 2:=sM;refine ⟨by have:(rest.drop ((2:Int).toNat)).length=rest.length - 2:=ja;omega,wN ?_⟩;have kg:=Lib.index_ge (rest.drop 2) [42,47];have aq:=Zf7 [42,47] (rest.drop 2);simp only [Tc,Td,ja] at aq;refine ZDc (fun h4=>wN ?_) (fun h4=>wN ?_)
   ·exact eb _ (bg2 dh ei h4)
   have jd:¬Lib.index (rest.drop 2) [42,47]<0:=h4;have bg:=bg3 dh ei jd;obtain ⟨n,hn⟩:∃n:Nat,Lib.index (rest.drop 2) [42,47]=n:=⟨(Lib.index (rest.drop 2) [42,47]).toNat,oM⟩
   generalize hi:Lib.index _ _=i;have jj:i=n:=by rw [<- hi];exact hn
   subst jj;rw [hn] at aq;rw [hn,Tw] at bg;refine Or.inl ⟨InR.i64 oM oM,wN ?_⟩;refine Or.inl ⟨InR.i64 oM oM,wN ?_⟩;obtain ⟨k1,k2,k3,k4,k5⟩:=f7 _ oM oM bg;refine ⟨⟨rfl,_,f,?_,k1,k2,k3,k4,k5⟩,?_⟩
   ·rw [show (s.length:Int) - (rest.length:Int)+((n:Int)+4)=((s.length - rest.length+(n+4):Nat):Int) by omega];rfl
   exact (show ((s.length:Int) - ((s.length:Int) - (rest.length:Int)+((n:Int)+4))).toNat<((s.length:Int) - (e:Int)).toNat by omega)
  exact eb _ (bg4 dh h3)
 exact h.elim
theorem orU (n:Fin 256):Zi .or .u8 (n.val:Int) 32=((n.val ||| 32:Nat):Int):=by rw [Z2];revert n;decide +kernel
theorem orH:∀n:Fin 256,(97<=(n.val ||| 32)/\(n.val ||| 32)<=102)↔((97<=n.val/\n.val<=102)\/(65<=n.val/\n.val<=70)):=by decide +kernel
theorem Zyv (b:UInt8):(97<=Zi .or .u8 (b.toNat:Int) 32/\Zi .or .u8 (b.toNat:Int) 32<=102)↔((97<=b.toNat/\b.toNat<=102)\/(65<=b.toNat/\b.toNat<=70)):=by
 have h2:=orU ⟨b.toNat,b.toNat_lt⟩;have h3:=orH ⟨b.toNat,b.toNat_lt⟩;simp only at h2 h3;rw [h2];omega
theorem W0 (p:UInt8->Bool):∀l:Bs,l.takeWhile p=l.take (l.takeWhile p).length
 | []=>rfl
 | x::l=>by
  by_cases h:p x=true
  ·simp only [Sn,h,if_true,Tc,List.take_succ_cons];rw [<- W0 p l]
  simp [Sn,h]
theorem VI (p:UInt8->Bool):∀l:Bs,(l.takeWhile p).all p=true
 | []=>rfl
 | x::l=>by
  by_cases h:p x=true
  ·simp only [Sn,h,if_true,List.all_cons,VI p l,Bool.and_self]
  simp [Sn,h]
theorem Uh (p:UInt8->Bool) (l:Bs):(l.takeWhile p).length<=l.length:=List.Sublist.length_le (List.takeWhile_sublist p)
theorem ZoX {s:Bs} {e:Nat} (h:e<s.length):s.drop e=s.getD e 0::s.drop (e+1):=by
 rw [TH h];simp [List.getD,h]
theorem ZoZ (ht:TO w0 nG [(204,Xv),(205,Zc9),(269,Ju),(163,Zbz),(164,UK)]):PC w0 nG 251 Zcc:=by
 refine Zd Zc mixed ht Tryz.func251 rfl kR kR ?_;intro args σ K h
 unfold Zcc at h
 split at h
 ·rename_i t s a
  obtain ⟨⟨h0,h1,hs⟩,h⟩:=h;obtain ⟨a,rfl⟩:∃n:Nat,a=n:=⟨a.toNat,oM⟩
  simp only [Tw] at h;refine ⟨Zb [(5,⟨[5],[0,2,3,4,6],fun vs σ=>σ=⟨[.cells t [.d (.str s),.d (.int .i64 a)],.cells 180 [.d (.int .u8 0),.d (.str []),.d (.int .i64 0),.d (.int .i64 0),.d (.int .i64 0)],.cells 253 [.d (.int .i64 0),.d (.int .i64 0)]],[],0⟩ /\
   ∃e:Nat,vs=[.d (.int .i64 e)]/\a+(if Vh (s.drop a) then 2 else 0)<=e/\e<=s.length/\e - (a+(if Vh (s.drop a) then 2 else 0))+((s.drop e).takeWhile (X8 (Vh (s.drop a)))).length=(Zf (s.drop a)).length,muI s.length⟩)],1,false,sM,Ta rfl,?_⟩
  have dv:ZU (s.drop a)=none->K (.ret (.tuple [Zd5 0 [] 0 0 0,Zhu a 142])) ⟨[.cells t [.d (.str s),.d (.int .i64 a)]],[],0⟩:=fun g=>by
   have e1:WZ a (s.drop a)=.bad a 142:=by rw [WZ,g]
   rw [e1] at h;exact h
  have dx:∀n:Nat,ZU (s.drop a)=some n->K (.ret (.tuple [Zd5 2 [] (IntKind.i64.wrap n) a ((a+Zy (s.drop a):Nat):Int),Zhu 0 0])) ⟨[.cells t [.d (.str s),.d (.int .i64 a)]],[],0⟩:=fun n g=>by
   have e1:WZ a (s.drop a)=.tok ⟨2,[],IntKind.i64.wrap n,a,a+Zy (s.drop a)⟩:=by rw [WZ,g]
   rw [e1] at h;exact h
  conv=>whnf
  refine ⟨oM,oM,wN ?_⟩;rw [Ue];refine ZDg (fun hx=>?_) (fun hx=>?_)
  ·have ge:Vh (s.drop a)=true:=hx;simp only [ge,if_true,Tp,if_false];have gx:Zf (s.drop a)=(s.drop (a+2)).takeWhile (X8 true):=by simp [Zf,ge,TF]
   have sb:Zy (s.drop a)=2+(Zf (s.drop a)).length:=by simp [Zy,ge]
   have gl:=(Yl hx).1;rw [TA] at gl;(conv=>whnf);refine Or.inl ⟨InR.i64 oM oM,wN ?_⟩;refine ⟨⟨rfl,(a+2),rfl,oM,oM,by rw [gx];simp⟩,?_⟩;intro vs σ1 hI
   obtain ⟨rfl,e,rfl,x7,t8,hn⟩:=hI;have fi:∀(g:((s.drop e).takeWhile (X8 true)).length=0),e=a+Zy (s.drop a)/\Zf (s.drop a)=cut s (a+2) e:=fun g=>by
    rw [g] at hn;refine ⟨oM,?_⟩;rw [Zf6,show e - (a+2)=(Zf (s.drop a)).length by omega,gx];exact W0 _ _
   have cd:(Zf (s.drop a)).all (X8 true)=true:=by rw [gx];exact VI _ _
   have wh:(Zf (s.drop a)).length<=s.length:=by
    rw [gx];have:=Uh (X8 true) (s.drop (a+2));rw [TA] at this;omega
   conv=>whnf
   refine ZDc (fun h2=>wN ?_) (fun h2=>wN ?_)
   ·have dh:e<s.length:=by omega
    have ju:=ZoX dh;have hb:=(s.getD e 0).toNat_lt;have bo:X8 true (s.getD e 0)=true->e+1 - (a+2)+((s.drop (e+1)).takeWhile (X8 true)).length=(Zf (s.drop a)).length:=fun g=>by
     rw [<- hn,ju,Sn,Tj g,Tc];omega
    have lj:X8 true (s.getD e 0)=false->((s.drop e).takeWhile (X8 true)).length=0:=fun g=>by
     rw [ju,Sn,Tg (by rw [g];simp)];rfl
    refine ⟨oM,oM,wN ?_⟩;refine Or.inl ⟨InR.i32 oM tN,wN ?_⟩;refine ZDg (fun h3=>wN ?_) (fun h3=>wN ?_)
    ·exact m72
    have ei:Zm ((s.getD e 0).toNat:Int)=false:=h3;have hoh:=Zyv (s.getD e 0);refine ZDc (fun h4=>wN ?_) (fun h4=>wN ?_)
    ·refine ZDc (fun h5=>wN ?_) (fun h5=>wN ?_)
     ·have hd:X8 true (s.getD e 0)=true:=by
       have:=hoh.1 ⟨h4,h5⟩;simp only [X8,ei,Bool.false_or,TP,TM];omega
      refine Or.inl ⟨InR.i64 oM oM,wN ?_⟩;refine ⟨⟨rfl,e+1,rfl,oM,oM,bo hd⟩,?_⟩;exact (show ((s.length:Int) - ((e:Int)+1)).toNat<((s.length:Int) - (e:Int)).toNat by omega)
     have hd:X8 true (s.getD e 0)=false:=by
      have:¬((97<=(s.getD e 0).toNat/\(s.getD e 0).toNat<=102)\/(65<=(s.getD e 0).toNat/\(s.getD e 0).toNat<=70)):=fun g=>h5 (hoh.2 g).2
      simp only [X8,ei,Bool.false_or,TP,decide_eq_false_iff_not];exact this
     have hst:=fi (lj hd);exact m2
    have hd:X8 true (s.getD e 0)=false:=by
     have:¬((97<=(s.getD e 0).toNat/\(s.getD e 0).toNat<=102)\/(65<=(s.getD e 0).toNat/\(s.getD e 0).toNat<=70)):=fun g=>h4 (hoh.2 g).1
     simp only [X8,ei,Bool.false_or,TP,decide_eq_false_iff_not];exact this
    have hst:=fi (lj hd);exact m2
   have jm:((s.drop e).takeWhile (X8 true)).length=0:=by rw [TJ oM];rfl
   have hst:=fi (jm);exact m2
  have ge:Vh (s.drop a)=false:=hx;simp only [ge,if_true,Tp,if_false];have gx:Zf (s.drop a)=(s.drop (a+0)).takeWhile (X8 false):=by simp [Zf,ge,TF]
  have sb:Zy (s.drop a)=0+(Zf (s.drop a)).length:=by simp [Zy,ge]
  conv=>whnf
  refine ⟨⟨rfl,a,rfl,oM,oM,by rw [gx];simp⟩,?_⟩;intro vs σ1 hI
  obtain ⟨rfl,e,rfl,x7,t8,hn⟩:=hI;have fi:∀(g:((s.drop e).takeWhile (X8 false)).length=0),e=a+Zy (s.drop a)/\Zf (s.drop a)=cut s (a+0) e:=fun g=>by
   rw [g] at hn;refine ⟨oM,?_⟩;rw [Zf6,show e - (a+0)=(Zf (s.drop a)).length by omega,gx];exact W0 _ _
  have cd:(Zf (s.drop a)).all (X8 false)=true:=by rw [gx];exact VI _ _
  have wh:(Zf (s.drop a)).length<=s.length:=by
   rw [gx];have:=Uh (X8 false) (s.drop (a+0));rw [TA] at this;omega
  conv=>whnf
  refine ZDc (fun h2=>wN ?_) (fun h2=>wN ?_)
  ·have dh:e<s.length:=by omega
   have ju:=ZoX dh;have hb:=(s.getD e 0).toNat_lt;have bo:X8 false (s.getD e 0)=true->e+1 - (a+0)+((s.drop (e+1)).takeWhile (X8 false)).length=(Zf (s.drop a)).length:=fun g=>by
    rw [<- hn,ju,Sn,Tj g,Tc];omega
   have lj:X8 false (s.getD e 0)=false->((s.drop e).takeWhile (X8 false)).length=0:=fun g=>by
    rw [ju,Sn,Tg (by rw [g];simp)];rfl
   refine ⟨oM,oM,wN ?_⟩;refine Or.inl ⟨InR.i32 oM tN,wN ?_⟩;refine ZDg (fun h3=>wN ?_) (fun h3=>wN ?_)
   ·exact m72
   have ei:Zm ((s.getD e 0).toNat:Int)=false:=h3;have hd:X8 false (s.getD e 0)=false:=by simp only [X8,ei,TT,Sr]
   have hst:=fi (lj hd);(conv=>whnf);exact m6
  have jm:((s.drop e).takeWhile (X8 false)).length=0:=by rw [TJ oM];rfl
  have hst:=fi (jm);exact m6
 exact h.elim
structure GlobOK (w0:World) (nG:Nat):Prop where
 big:7<nG
 maxLen:∃m,w0.cell? ⟨2,0,none⟩=some (.int .i64 m)
 errSyntax:∃ev,w0.cell? ⟨6,0,none⟩=some ev/\(ev=.nilIface\/∃te pe,ev=.iface te pe)
 errRange:∃ev,w0.cell? ⟨7,0,none⟩=some ev/\(ev=.nilIface\/∃te pe,ev=.iface te pe)
noncomputable def Zmh:Zo:=fun args σ K=>match args with
 | [.d (.str _),.d (.str s)]=>s.length<4294967281/\K (.ret .undef) σ
 | _=>False
theorem ZhC {e:Env} {σ:St} {w:World} {k:Nat} {u:Value} (hS:SRel (GG w0 nG) e σ w) (hk:k<nG) (h:w0.cell? ⟨k,0,none⟩=some u):w.cell? ⟨k,0,none⟩=some u:=by
 have:=hS.glob k hk;simpa [World.cell?,this] using h
theorem Zd6 (hg:GlobOK w0 nG):PC w0 nG 293 Zmh where
 enters:=Zk Tryz.func293 kR rfl
 calls:=fun args σ K hs n e w vs hS ha=>by
  unfold Zmh at hs
  split at hs
  ·rename_i fn s
   obtain ⟨hl,hK⟩:=hs;obtain ⟨u,v,rfl,hu,hv⟩:=Zhy ha
   cases hu.dstr;cases hv.dstr
   obtain ⟨ev,h1,h2⟩:=hg.errSyntax;refine CallsIn.mono (callsIn_wide.2 (Tryz.strconv_syntaxError _ _ ev w (show s.toArray.size<=_ by simp;omega) (ZhC hS (by have:=hg.big;omega) h1) h2)) fun en w' ⟨N,h3,_,_,h4⟩=>?_
   exact m121
  exact hs.elim
theorem Zf9 (hg:GlobOK w0 nG):PC w0 nG 294 Zmh where
 enters:=Zk Tryz.func294 kR rfl
 calls:=fun args σ K hs n e w vs hS ha=>by
  unfold Zmh at hs
  split at hs
  ·rename_i fn s
   obtain ⟨hl,hK⟩:=hs;obtain ⟨u,v,rfl,hu,hv⟩:=Zhy ha
   cases hu.dstr;cases hv.dstr
   obtain ⟨ev,h1,h2⟩:=hg.errRange;refine CallsIn.mono (callsIn_wide.2 (Tryz.strconv_rangeError _ _ ev w (show s.toArray.size<=_ by simp;omega) (ZhC hS (by have:=hg.big;omega) h1) h2)) fun en w' ⟨N,h3,_,_,h4⟩=>?_
   exact m121
  exact hs.elim
noncomputable def Zdd:Zo:=fun args σ K=>match args,σ with
 | [.d (.str _),.d (.str s),.d (.int .i64 _),.d (.int .i64 _),.iface 342 (.d (.int .i64 c))],⟨[],[],0⟩=>((c=1\/c=2)/\s.length<4294967281)/\K (.ret (.iface 344 .undef)) ⟨[],[],0⟩
 | _,_=>False
noncomputable def ZAS:Tbl:=[(293,Zmh),(294,Zmh)]
theorem Zmi (hg:GlobOK w0 nG):PC w0 nG 284 Zdd:=by
 refine Zd Zc mixed (tbl:=ZAS) ⟨Zd6 hg,Zf9 hg,trivial⟩ Tryz.func284 rfl kR kR ?_;intro args σ K h
 unfold Zdd at h
 split at h
 ·rename_i fn s b0 b1 c
  obtain ⟨⟨hc,hl⟩,h⟩:=h;refine ⟨Zb [],0,false,sM,Ta rfl,?_⟩;rcases hc with rfl | rfl
  ·conv=>whnf
   refine ⟨hl,wN ?_⟩;exact h
  conv=>whnf
  refine ⟨hl,wN ?_⟩;exact h
 exact h.elim
noncomputable def Zjg:Zo:=fun args σ K=>match args,σ with
 | [.d (.int .u8 c)],⟨[],[],0⟩=>K (.ret (.d (.int .u8 (Zi .or .u8 c 32)))) ⟨[],[],0⟩
 | _,_=>False
theorem Zsp:PC w0 nG 291 Zjg:=by
 refine Zd Zc mixed (tbl:=[]) trivial Tryz.func291 rfl kR kR ?_;intro args σ K h
 unfold Zjg at h
 split at h
 ·refine ⟨Zb [],0,false,sM,Ta rfl,wN ?_⟩;exact h
 exact h.elim
theorem ZCC:∀n:Fin 256,X8 true (UInt8.ofNat n.val)=true->¬(48<=n.val/\n.val<=57)->Zi .or .u8 (n.val:Int) 32=Zf3 (UInt8.ofNat n.val)+87/\10<=Zf3 (UInt8.ofNat n.val)/\Zf3 (UInt8.ofNat n.val)<=15:=by rw [Z2];decide +kernel
theorem ZhD {b:UInt8} (h:X8 true b=true) (hn:¬(48<=b.toNat/\b.toNat<=57)):Zi .or .u8 (b.toNat:Int) 32=Zf3 b+87/\10<=Zf3 b/\Zf3 b<=15:=by
 have:=ZCC ⟨b.toNat,b.toNat_lt⟩;simp only [UInt8.ofNat_toNat] at this;exact this h hn
theorem ZhE (B:Nat) (l:Bs) (b:UInt8):WD B (l++[b])=WD B l * B+Zf3 b:=by simp [WD,List.foldl_append]
theorem ZhF {l:Bs} {i:Nat} (h:i<l.length):l.take (i+1)=l.take i++[l.getD i 0]:=by
 rw [List.take_succ,Te h];simp [List.getD,h]
theorem ZkA (B:Nat) (hB:1<=B):∀(l:Bs) (n:Nat),n<=l.foldl (fun n b=>n * B+Zf3 b) n
 | [],n=>Tq _
 | b::l,n=>by
  have:=ZkA B hB l (n * B+Zf3 b);have h2:n<=n * B:=Nat.le_mul_of_pos_right n hB;simp only [List.foldl_cons];omega
theorem ZbC (B:Nat) (hB:1<=B) (l:Bs) (i:Nat):WD B (l.take i)<=WD B l:=by
 conv=>rhs;rw [<- List.take_append_drop i l]
 unfold WD
 rw [List.foldl_append];exact ZkA B hB _ _
noncomputable def ZAT:Zo:=fun args σ K=>match args,σ with
 | [.d (.str l),.d (.int .i64 base),.d (.int .i64 bits)],⟨[],[],0⟩=>∃fj:Bool,((l.all (X8 fj)=true/\l.length<4294967281)/\base=(if fj then 16 else 10)/\bits=(if fj then 64 else 63)) /\
   (l=[]->K (.ret (.tuple [.d (.int .u64 0),.iface 342 (.d (.int .i64 2))])) ⟨[],[],0⟩) /\
   (l≠[]->(if fj then 18446744073709551616 else 9223372036854775808)<=WD (if fj then 16 else 10) l->K (.ret (.tuple [.d (.int .u64 (if fj then 18446744073709551615 else 9223372036854775807)),.iface 342 (.d (.int .i64 1))])) ⟨[],[],0⟩) /\
   (l≠[]->¬(if fj then 18446744073709551616 else 9223372036854775808)<=WD (if fj then 16 else 10) l->K (.ret (.tuple [.d (.int .u64 (WD (if fj then 16 else 10) l)),.d .nili])) ⟨[],[],0⟩)
 | _,_=>False
noncomputable def ZAU:Tbl:=[(291,Zjg)]
theorem ZAV:PC w0 nG 283 ZAT:=by
 refine Zd Zc mixed (tbl:=ZAU) ⟨Zsp,trivial⟩ Tryz.func283 rfl kR kR ?_;intro args σ K h
 unfold ZAT at h
 split at h
 ·rename_i l base bits
  obtain ⟨fj,⟨⟨cd,hl⟩,rfl,rfl⟩,eu,lk,dx⟩:=h;have hml:((l.map fun b=>[D.int .u8 (b.toNat:Int)]:List (List D))).length=l.length:=sM
  cases fj with
  | true =>
   simp only [if_true,Tp,if_false] at lk dx |-;refine ⟨Zb [(36,⟨[101,13,12],[0,1,8,10,11,99,100],fun vs σ=>σ=⟨[],[],0⟩/\∃i:Nat,vs=[.d (.int .i64 i),.d (.int .u64 (WD 16 (l.take i))),.d (.bool false)]/\i<=l.length/\WD 16 (l.take i)<18446744073709551616,muI l.length⟩)],0,false,sM,Ta rfl,wN ?_⟩;refine ZDc (fun h0=>wN ?_) (fun h0=>wN ?_)
   ·exact eu h0
   have ao:l≠[]:=h0;have qm:=lk ao;have jk:=dx ao;refine Or.inl ⟨InR.u64 oM oM,wN ?_⟩;refine ⟨dM,Or.inr ?_⟩;rw [show IntKind.u64.wrap (1 * 2 ^ min (Int.toNat 64) IntKind.u64.bits)=0 from dM];(conv=>whnf);refine Or.inr ?_;rw [show IntKind.u64.wrap (0 - 1)=18446744073709551615 from dM];(conv=>whnf);refine ⟨⟨rfl,0,rfl,oM,by simp [WD]⟩,?_⟩;intro vs σ1 hI
   obtain ⟨rfl,i,rfl,hi,hN⟩:=hI;have aq:=ZbC 16 oM l;have bo:=fun h:i<l.length=>ZhE 16 (l.take i) (l.getD i 0)
   generalize hNN:WD 16 (l.take i)=N at hN bo |-;(conv=>whnf);refine ZDc (fun h2=>?_) (fun h2=>wN ?_)
   ·have dh:i<l.length:=by simpa using h2
    have gr:(l.map fun b=>[D.int .u8 (b.toNat:Int)])[((i:Int)).toNat]?=some [D.int .u8 ((l.getD i 0).toNat:Int)]:=by
     rw [Tw,To,Te dh];simp [List.getD,dh]
    have hd:X8 true (l.getD i 0)=true:=Tm.1 cd _ (by rw [T9,Te dh];exact TB dh);have hs:=bo dh;rw [<- ZhF dh] at hs;have cn:=aq (i+1);have hb:=(l.getD i 0).toNat_lt;generalize kh:l.getD i 0=b at gr hd hs hb;(conv=>whnf);refine ⟨_,oM,gr,wN ?_⟩;refine ZDc (fun h3=>?_) (fun h3=>wN ?_)
    ·have ei:b.toNat=95:=by omega
     simp [X8,Zm,ei] at hd
    refine ZDc (fun h4=>wN ?_) (fun h4=>?_)
    ·refine ZDc (fun h5=>wN ?_) (fun h5=>?_)
     ·refine Or.inl ⟨InR.u8 oM oM,wN ?_⟩;have hD:(Zf3 b:Int)=(b.toNat:Int) - 48:=by unfold Zf3;rw [Tj oM];omega
      refine Or.inl ⟨InR.u8 oM oM,wN ?_⟩;refine ZDc (fun h6=>?_) (fun h6=>wN ?_)
      ·omega
      refine ZDc (fun h7=>wN ?_) (fun h7=>wN ?_)
      ·exact qm oM
      refine Or.inl ⟨InR.u64 oM oM,wN ?_⟩;refine Or.inl ⟨InR.u64 oM oM,wN ?_⟩;refine Or.inl ⟨InR.u64 oM oM,wN ?_⟩
      by_cases dc:(N:Int) * 16+((b.toNat:Int) - 48)<=18446744073709551615
      ·refine Or.inl ⟨InR.u64 oM oM,wN ?_⟩;refine ZDc (fun h8=>?_) (fun h8=>wN ?_)
       ·omega
       refine ZDc (fun h9=>wN ?_) (fun h9=>wN ?_)
       ·exact qm oM
       refine Or.inl ⟨InR.i64 oM oM,wN ?_⟩;refine ⟨⟨rfl,i+1,?_,oM,oM⟩,?_⟩
       ·have e:((WD 16 (l.take (i+1)):Nat):Int)=(N:Int) * 16+((b.toNat:Int) - 48):=by omega
        rw [e];rfl
       exact m168
      have hw:IntKind.u64.wrap ((N:Int) * 16+((b.toNat:Int) - 48))=(N:Int) * 16+((b.toNat:Int) - 48) - 18446744073709551616:=by
       exact m60
      exact m54
     skip
     exact m11
    skip
    exact m11
   exact m122
  | false =>
  simp only [if_true,Tp,if_false] at lk dx |-;refine ⟨Zb [(36,⟨[101,13,12],[0,1,8,10,11,99,100],fun vs σ=>σ=⟨[],[],0⟩/\∃i:Nat,vs=[.d (.int .i64 i),.d (.int .u64 (WD 10 (l.take i))),.d (.bool false)]/\i<=l.length/\WD 10 (l.take i)<9223372036854775808,muI l.length⟩)],0,false,sM,Ta rfl,wN ?_⟩;refine ZDc (fun h0=>wN ?_) (fun h0=>wN ?_)
  ·exact eu h0
  have ao:l≠[]:=h0;have qm:=lk ao;have jk:=dx ao;refine Or.inl ⟨InR.u64 oM oM,wN ?_⟩;refine ⟨dM,Or.inr ?_⟩;rw [show IntKind.u64.wrap (1 * 2 ^ min (Int.toNat 63) IntKind.u64.bits)=9223372036854775808 from dM];(conv=>whnf);refine Or.inr ?_;rw [show IntKind.u64.wrap (9223372036854775808 - 1)=9223372036854775807 from dM];(conv=>whnf);refine ⟨⟨rfl,0,rfl,oM,by simp [WD]⟩,?_⟩;intro vs σ1 hI
  obtain ⟨rfl,i,rfl,hi,hN⟩:=hI;have aq:=ZbC 10 oM l;have bo:=fun h:i<l.length=>ZhE 10 (l.take i) (l.getD i 0)
  generalize hNN:WD 10 (l.take i)=N at hN bo |-;(conv=>whnf);refine ZDc (fun h2=>?_) (fun h2=>wN ?_)
  ·have dh:i<l.length:=by simpa using h2
   have gr:(l.map fun b=>[D.int .u8 (b.toNat:Int)])[((i:Int)).toNat]?=some [D.int .u8 ((l.getD i 0).toNat:Int)]:=by
    rw [Tw,To,Te dh];simp [List.getD,dh]
   have hd:X8 false (l.getD i 0)=true:=Tm.1 cd _ (by rw [T9,Te dh];exact TB dh);have hs:=bo dh;rw [<- ZhF dh] at hs;have cn:=aq (i+1);have hb:=(l.getD i 0).toNat_lt;generalize kh:l.getD i 0=b at gr hd hs hb;(conv=>whnf);refine ⟨_,oM,gr,wN ?_⟩;refine ZDc (fun h3=>?_) (fun h3=>wN ?_)
   ·have ei:b.toNat=95:=by omega
    simp [X8,Zm,ei] at hd
   have xw:48<=b.toNat/\b.toNat<=57:=by
    simp only [X8,TT,Sr,Zm,TM] at hd;omega
   refine ZDc (fun h4=>wN ?_) (fun h4=>?_)
   ·refine ZDc (fun h5=>wN ?_) (fun h5=>?_)
    ·refine Or.inl ⟨InR.u8 oM oM,wN ?_⟩;have hD:(Zf3 b:Int)=(b.toNat:Int) - 48:=by unfold Zf3;rw [Tj oM];omega
     refine Or.inl ⟨InR.u8 oM oM,wN ?_⟩;refine ZDc (fun h6=>?_) (fun h6=>wN ?_)
     ·omega
     refine ZDc (fun h7=>wN ?_) (fun h7=>wN ?_)
     ·exact qm oM
     refine Or.inl ⟨InR.u64 oM oM,wN ?_⟩;refine Or.inl ⟨InR.u64 oM oM,wN ?_⟩;refine Or.inl ⟨InR.u64 oM oM,wN ?_⟩
     by_cases dc:(N:Int) * 10+((b.toNat:Int) - 48)<=18446744073709551615
     ·refine Or.inl ⟨InR.u64 oM oM,wN ?_⟩;refine ZDc (fun h8=>?_) (fun h8=>wN ?_)
      ·omega
      refine ZDc (fun h9=>wN ?_) (fun h9=>wN ?_)
      ·exact qm oM
      refine Or.inl ⟨InR.i64 oM oM,wN ?_⟩;refine ⟨⟨rfl,i+1,?_,oM,oM⟩,?_⟩
      ·have e:((WD 10 (l.take (i+1)):Nat):Int)=(N:Int) * 10+((b.toNat:Int) - 48):=by omega
       rw [e];rfl
      exact m168
     have hw:IntKind.u64.wrap ((N:Int) * 10+((b.toNat:Int) - 48))=(N:Int) * 10+((b.toNat:Int) - 48) - 18446744073709551616:=by
      exact m60
     exact m54
    omega
   omega
  exact m122
 exact h.elim
theorem ZvC:∀n:Fin 64,Zi .or .u8 128 (n.val:Int)=128+n.val:=by rw [Z2];decide +kernel
theorem ZvD:∀n:Fin 32,Zi .or .u8 192 (n.val:Int)=192+n.val:=by rw [Z2];decide +kernel
theorem ZvE:∀n:Fin 16,Zi .or .u8 224 (n.val:Int)=224+n.val:=by rw [Z2];decide +kernel
theorem ZvF:∀n:Fin 8,Zi .or .u8 240 (n.val:Int)=240+n.val:=by rw [Z2];decide +kernel
theorem ZvG:∀n:Fin 256,Zi .and .u8 (n.val:Int) 63=n.val % 64:=by rw [Z2];decide +kernel
theorem ZtY {x:Int} (h0:0<=x) (h1:x<64):Zi .or .u8 128 x=128+x:=by obtain ⟨n,rfl⟩:∃n:Nat,x=n:=⟨x.toNat,oM⟩;exact ZvC ⟨n,oM⟩
theorem ZCD {x:Int} (h0:0<=x) (h1:x<32):Zi .or .u8 192 x=192+x:=by obtain ⟨n,rfl⟩:∃n:Nat,x=n:=⟨x.toNat,oM⟩;exact ZvD ⟨n,oM⟩
theorem ZB9 {x:Int} (h0:0<=x) (h1:x<16):Zi .or .u8 224 x=224+x:=by obtain ⟨n,rfl⟩:∃n:Nat,x=n:=⟨x.toNat,oM⟩;exact ZvE ⟨n,oM⟩
theorem ZCE {x:Int} (h0:0<=x) (h1:x<8):Zi .or .u8 240 x=240+x:=by obtain ⟨n,rfl⟩:∃n:Nat,x=n:=⟨x.toNat,oM⟩;exact ZvF ⟨n,oM⟩
theorem a63 {x:Int} (h0:0<=x) (h1:x<256):Zi .and .u8 x 63=x % 64:=by obtain ⟨n,rfl⟩:∃n:Nat,x=n:=⟨x.toNat,oM⟩;rw [ZvG ⟨n,oM⟩]
theorem wu8 (n:Int):IntKind.u8.wrap n=n % 256:=by simp [IntKind.wrap,IntKind.bits,IntKind.signed]
theorem Wd (c:Int):Zj (Lib.encodeRune c)=(Lib.encodeRuneZ c).map fun x=>[D.int .u8 x]:=by
 have h:=Lib.encodeRuneZ_byte c;unfold Lib.encodeRune Zj
 rw [List.map_map];refine Su fun x hx=>?_
 have:=h x hx;simp [UInt8.toNat_ofNat'];omega
noncomputable def Ui:Zo:=fun args σ K=>match args,σ with
 | [.sl 0 e rows,.d (.int .i32 c)],⟨[],[0],1⟩=>(e=5/\(∀r∈rows,r.length=1)/\rows.length<70368744177664/\0<=c/\c<=1114111)/\K (.ret (.sl 0 5 (rows++Zj (Lib.encodeRune c)))) ⟨[],[0],1⟩
 | _,_=>False
noncomputable def VJ:Zo:=fun args σ K=>match args,σ with
 | [.sl 0 e rows,.d (.int .i32 c)],⟨[],[0],1⟩=>(e=5/\(∀r∈rows,r.length=1)/\rows.length<70368744177664/\128<=c/\c<=1114111)/\K (.ret (.sl 0 5 (rows++Zj (Lib.encodeRune c)))) ⟨[],[0],1⟩
 | _,_=>False
theorem Zd7:PC w0 nG 259 VJ:=by
 refine Zd Zc mixed (tbl:=[]) trivial Tryz.func259 rfl kR kR ?_;intro args σ K h
 unfold VJ at h
 split at h
 ·rename_i e rows c
  obtain ⟨⟨rfl,bi,ss,ii,cy⟩,h⟩:=h;refine ⟨Zb [],0,true,sM,Ta rfl,wN ?_⟩;have e6:c.fdiv (2 ^ min (Int.toNat 6) IntKind.i32.bits)=c / 64:=by rw [show (2:Int) ^ min (Int.toNat 6) IntKind.i32.bits=64 by decide];exact Int.fdiv_eq_ediv_of_nonneg _ oM
  have e12:c.fdiv (2 ^ min (Int.toNat 12) IntKind.i32.bits)=c / 4096:=by rw [show (2:Int) ^ min (Int.toNat 12) IntKind.i32.bits=4096 by decide];exact Int.fdiv_eq_ediv_of_nonneg _ oM
  have e18:c.fdiv (2 ^ min (Int.toNat 18) IntKind.i32.bits)=c / 262144:=by rw [show (2:Int) ^ min (Int.toNat 18) IntKind.i32.bits=262144 by decide];exact Int.fdiv_eq_ediv_of_nonneg _ oM
  refine Or.inl ⟨InR.u32 oM oM,wN ?_⟩;refine ZDc (fun h1=>?_) (fun h1=>wN ?_)
  ·skip
   have g:K (.ret (.sl 0 5 (rows++[[D.int .u8 (Zi .or .u8 192 (IntKind.u8.wrap (c.fdiv (2 ^ min (Int.toNat 6) IntKind.i32.bits))))],[D.int .u8 (Zi .or .u8 128 (Zi .and .u8 (IntKind.u8.wrap (c)) 63))]]))) ⟨[],[0],1⟩:=by
    have e:Zj (Lib.encodeRune c)=[[D.int .u8 (Zi .or .u8 192 (IntKind.u8.wrap (c.fdiv (2 ^ min (Int.toNat 6) IntKind.i32.bits))))],[D.int .u8 (Zi .or .u8 128 (Zi .and .u8 (IntKind.u8.wrap (c)) 63))]]:=by
     rw [Wd,Lib.encodeRuneZ_two ii oM];simp only [e6,e12,e18,wu8,TC,TL];rw [ZCD oM oM,a63 oM oM,ZtY oM oM,show c / 64 % 256=c / 64 by omega,show c % 256 % 64=c % 64 by omega]
     all_goals (try omega)
     (try (congr 1 <;> omega))
    rw [e] at h;exact h
   conv=>whnf
   refine ⟨dM,wN ?_⟩;refine Or.inr (wN ?_);refine Or.inr (wN ?_);refine ⟨fun r hr=>by (simp at hr;rcases hr with rfl | rfl <;> rfl),(show (rows.length+2) * 1<=2 ^ 47 by omega),(show rows.length+2<=2 ^ 47 by omega),?_⟩;(conv=>whnf);exact g
  refine ZDc (fun h2=>wN ?_) (fun h2=>wN ?_)
  ·refine ZDc (fun dh=>wN ?_) (fun dh=>absurd h2 dh);have g:K (.ret (.sl 0 5 (rows++[[D.int .u8 (Zi .or .u8 224 (IntKind.u8.wrap (c.fdiv (2 ^ min (Int.toNat 12) IntKind.i32.bits))))],[D.int .u8 (Zi .or .u8 128 (Zi .and .u8 (IntKind.u8.wrap (c.fdiv (2 ^ min (Int.toNat 6) IntKind.i32.bits))) 63))],[D.int .u8 (Zi .or .u8 128 (Zi .and .u8 (IntKind.u8.wrap (c)) 63))]]))) ⟨[],[0],1⟩:=by
    exact m34
   exact m176
  refine ZDc (fun h3=>wN ?_) (fun h3=>wN ?_)
  ·refine ZDc (fun h4=>?_) (fun h4=>wN ?_)
   ·skip
    have g:K (.ret (.sl 0 5 (rows++[[D.int .u8 (Zi .or .u8 224 (IntKind.u8.wrap (c.fdiv (2 ^ min (Int.toNat 12) IntKind.i32.bits))))],[D.int .u8 (Zi .or .u8 128 (Zi .and .u8 (IntKind.u8.wrap (c.fdiv (2 ^ min (Int.toNat 6) IntKind.i32.bits))) 63))],[D.int .u8 (Zi .or .u8 128 (Zi .and .u8 (IntKind.u8.wrap (c)) 63))]]))) ⟨[],[0],1⟩:=by
     exact m34
    conv=>whnf
    exact m176
   refine ZDc (fun h5=>wN ?_) (fun h5=>?_)
   ·refine ZDc (fun h6=>?_) (fun h6=>?_)
    ·skip
     have g:K (.ret (.sl 0 5 (rows++[[D.int .u8 (Zi .or .u8 240 (IntKind.u8.wrap (c.fdiv (2 ^ min (Int.toNat 18) IntKind.i32.bits))))],[D.int .u8 (Zi .or .u8 128 (Zi .and .u8 (IntKind.u8.wrap (c.fdiv (2 ^ min (Int.toNat 12) IntKind.i32.bits))) 63))],[D.int .u8 (Zi .or .u8 128 (Zi .and .u8 (IntKind.u8.wrap (c.fdiv (2 ^ min (Int.toNat 6) IntKind.i32.bits))) 63))],[D.int .u8 (Zi .or .u8 128 (Zi .and .u8 (IntKind.u8.wrap (c)) 63))]]))) ⟨[],[0],1⟩:=by
      have e:Zj (Lib.encodeRune c)=[[D.int .u8 (Zi .or .u8 240 (IntKind.u8.wrap (c.fdiv (2 ^ min (Int.toNat 18) IntKind.i32.bits))))],[D.int .u8 (Zi .or .u8 128 (Zi .and .u8 (IntKind.u8.wrap (c.fdiv (2 ^ min (Int.toNat 12) IntKind.i32.bits))) 63))],[D.int .u8 (Zi .or .u8 128 (Zi .and .u8 (IntKind.u8.wrap (c.fdiv (2 ^ min (Int.toNat 6) IntKind.i32.bits))) 63))],[D.int .u8 (Zi .or .u8 128 (Zi .and .u8 (IntKind.u8.wrap (c)) 63))]]:=by
       rw [Wd,Lib.encodeRuneZ_four oM oM];simp only [e6,e12,e18,wu8,TC,TL];rw [ZCE oM oM,a63 oM oM,a63 oM oM,a63 oM oM,ZtY oM oM,ZtY oM oM,ZtY oM oM,show c / 262144 % 256=c / 262144 by omega,show c / 4096 % 256 % 64=c / 4096 % 64 by omega,show c / 64 % 256 % 64=c / 64 % 64 by omega,show c % 256 % 64=c % 64 by omega]
       all_goals (try omega)
       (try (congr 1 <;> omega))
      rw [e] at h;exact h
     conv=>whnf
     refine ⟨dM,wN ?_⟩;refine Or.inr (wN ?_);refine ⟨dM,wN ?_⟩;refine Or.inr (wN ?_);refine ⟨dM,wN ?_⟩;refine Or.inr (wN ?_);refine Or.inr (wN ?_);refine ⟨fun r hr=>by (simp at hr;rcases hr with rfl | rfl | rfl | rfl <;> rfl),(show (rows.length+4) * 1<=2 ^ 47 by omega),(show rows.length+4<=2 ^ 47 by omega),?_⟩;(conv=>whnf);exact g
    omega
   omega
  refine ZDc (fun h5=>?_) (fun h5=>?_)
  ·omega
  skip
  have g:K (.ret (.sl 0 5 (rows++[[D.int .u8 (239)],[D.int .u8 (191)],[D.int .u8 (189)]]))) ⟨[],[0],1⟩:=by
   have e:Zj (Lib.encodeRune c)=[[D.int .u8 (239)],[D.int .u8 (191)],[D.int .u8 (189)]]:=by
    rw [Wd,Lib.encodeRuneZ_bad oM];rfl
   rw [e] at h;exact h
  conv=>whnf
  exact m53
 exact h.elim
noncomputable def ZAW:Tbl:=[(259,VJ)]
theorem Zga:PC w0 nG 243 Ui:=by
 refine Zd Zc mixed (tbl:=ZAW) ⟨Zd7,trivial⟩ Tryz.func243 rfl kR kR ?_;intro args σ K h
 unfold Ui at h
 split at h
 ·rename_i e rows c
  obtain ⟨⟨rfl,bi,ss,ii,cy⟩,h⟩:=h;refine ⟨Zb [],0,true,sM,Ta rfl,wN ?_⟩;refine Or.inl ⟨InR.u32 oM oM,wN ?_⟩;refine ZDc (fun h1=>wN ?_) (fun h1=>wN ?_)
  ·have e:Zj (Lib.encodeRune c)=[[D.int .u8 c]]:=by rw [Wd,Lib.encodeRuneZ_one ii h1];rfl
   rw [e] at h;refine Or.inl ⟨InR.u8 oM oM,wN ?_⟩;exact m59
  refine ⟨⟨rfl,bi,oM,oM,oM⟩,wN ?_⟩;exact h
 exact h.elim
theorem Zsq:TO w0 nG [(177,VG)]:=⟨ZbA,trivial⟩
theorem ZbD:PC w0 nG 208 VD:=by
 refine Zd Zc mixed Zsq Tryz.func208 rfl kR kR ?_;intro args σ K h
 unfold VD at h
 split at h
 ·rename_i c t p e rows
  obtain ⟨⟨hp,rfl,rfl,bi,ss⟩,h⟩:=h;refine ⟨Zb [],1,true,sM,Ta rfl,?_⟩;rcases hp with rfl | rfl
  ·conv=>whnf
   refine ⟨⟨.inl rfl,rfl⟩,wN ?_⟩;exact m59
  conv=>whnf
  refine ⟨⟨.inr rfl,rfl⟩,wN ?_⟩;exact m59
 exact h.elim
theorem ZAY (c:Int):(Lib.encodeRune c).length<=4:=by unfold Lib.encodeRune;rw [Tf];exact (Lib.encodeRuneZ_length c).2
theorem Zsr:TO w0 nG [(177,VG),(243,Ui)]:=⟨ZbA,Zga,trivial⟩
theorem ZbE:PC w0 nG 210 VE:=by
 refine Zd Zc mixed Zsr Tryz.func210 rfl kR kR ?_;intro args σ K h
 unfold VE at h
 split at h
 ·rename_i c t p e rows
  obtain ⟨⟨hp,rfl,rfl,bi,ss,ii,cy⟩,h⟩:=h;refine ⟨Zb [],1,true,sM,Ta rfl,?_⟩;rcases hp with rfl | rfl
  ·conv=>whnf
   refine ⟨⟨.inl rfl,rfl⟩,wN ?_⟩;refine ⟨⟨rfl,bi,ss,ii,cy⟩,wN ?_⟩;refine Or.inl ⟨InR.i64 (by rw [Tb,Y9];have:=Lib.encodeRuneZ_length c;omega) (by rw [Tb,Y9];have:=ZAY c;omega),wN ?_⟩;exact h
  conv=>whnf
  refine ⟨⟨.inr rfl,rfl⟩,wN ?_⟩;refine ⟨⟨rfl,bi,ss,ii,cy⟩,wN ?_⟩;refine Or.inl ⟨InR.i64 (by rw [Tb,Y9];omega) (by rw [Tb,Y9];have:=ZAY c;omega),wN ?_⟩;exact h
 exact h.elim
noncomputable def Jv:Zo:=fun args σ K=>match args with
 | [.d (.int .i32 c)]=>K (.ret (.d (.bool (Lib.validRune c)))) σ
 | _=>False
theorem Zyw (c:Int) (h:128<=c) (h2:c<=1114111):2<=(Utf8.encode c).data.toList.length/\(Utf8.encode c).data.toList.length<=4/\∀b∈(Utf8.encode c).data.toList,128<=b.toNat:=by
 unfold Utf8.encode
 simp only;generalize hn:(if Utf8.valid c then c.toNat else Utf8.runeError)=n;have eo:128<=n/\n<=1114111:=by
  rw [<- hn];split
  ·omega
  simp [Utf8.runeError]
 rw [Tg oM];split
 ·simp [UInt8.toNat_ofNat'];omega
 split
 ·simp [UInt8.toNat_ofNat'];omega
 simp [UInt8.toNat_ofNat'];omega
theorem Zo0 {l:Bs} {c:UInt8} (h:∀b∈l,b.toNat<128) (hc:128<=c.toNat):Lib.indexByte l c=-1:=by
 induction l with
 | nil=>rfl
 | cons b l ih =>
 have h1:=ih (fun x hx=>h x (Tu _ hx));have h2:(b == c)=false:=by
  simp only [beq_eq_false_iff_ne];intro e;subst e;have:=h b sM;omega
 simp [Lib.indexByte,h1,h2]
theorem Zss {s:Bs} (h:∀b∈s,b.toNat<128) (i:Nat):(s.getD i 0).toNat<128:=by
 rw [T9]
 by_cases hi:i<s.length
 ·rw [Te hi];exact h _ (TB hi)
 rw [Sj oM];decide
theorem Zo1 {s:Bs} (h:∀b∈s,128<=b.toNat) {i:Nat} (hi:i<s.length):128<=(s.getD i 0).toNat:=by
 rw [T9,Te hi];exact h _ (TB hi)
theorem ZA0 {n:Int} {k:Nat} (h:n=k) (hk:k<256):(n.toNat.toUInt8).toNat=k:=by
 subst h;simp [UInt8.toNat_ofNat'];omega
theorem ZhG (ht:TO w0 nG [(239,Wq),(240,Jv)]):PC w0 nG 209 Ws:=by
 refine Zd Zc mixed ht Tryz.func209 rfl kR kR ?_;intro args σ K h
 unfold Ws at h
 split at h
 ·rename_i s c
  obtain ⟨⟨hs,ii,cy⟩,h⟩:=h;have lb:s.length=4:=by rcases hs with rfl | rfl <;> rfl
  have hsa:∀b∈s,b.toNat<128:=by rcases hs with rfl | rfl <;> decide
  have ui:∀p,p<4->(decodeL s p).1<128/\(decodeL s p).2=1:=by
   intro p hp
   rcases hs with rfl | rfl
   all_goals (match p,hp with | 0,_=>exact ⟨dM,dM⟩ | 1,_=>exact ⟨dM,dM⟩ | 2,_=>exact ⟨dM,dM⟩ | 3,_=>exact ⟨dM,dM⟩)
  refine ⟨Zb [(38,⟨[],[0,175],fun vs σ=>vs=[]/\∃p:Nat,p<=4/\σ=⟨[.iter s p],[],0⟩,fun _ σ=>match σ.bx with | [.iter _ p]=>4 - p | _=>0⟩),
    (5,⟨[9],[0,1,7,8],fun vs σ=>σ=⟨[],[],0⟩/\vs=[.d (.int .i64 (((Utf8.encode c).data.toList.length:Int) - 1))],fun _ _=>0⟩)],0,false,sM,Ta rfl,?_⟩
  have su:128<=c->K (.ret (.d (.int .i64 (-1)))) ⟨[],[],0⟩:=fun g=>by
   have:Zda s c=-1:=by unfold Zda;rw [Tg oM]
   rw [this] at h;exact h
  conv=>whnf
  refine ZDc (fun h1=>wN ?_) (fun h1=>?_)
  ·refine ZDc (fun h2=>wN ?_) (fun h2=>wN ?_)
   ·have e:Zda s c=Lib.indexByte s c.toNat.toUInt8:=by unfold Zda;rw [Tj h2]
    rw [e] at h;refine Or.inl ⟨InR.u8 oM oM,wN ?_⟩;exact h
   refine ZDc (fun h3=>wN ?_) (fun h3=>wN ?_)
   ·refine ⟨⟨rfl,0,oM,rfl⟩,?_⟩;intro vs σ1 hI
    obtain ⟨rfl,p,hp,rfl⟩:=hI;(conv=>whnf);refine ZDc (fun h4=>wN ?_) (fun h4=>wN ?_)
    ·have hd:=ui p oM;refine ZDc (fun h5=>?_) (fun h5=>wN ?_)
     ·omega
     refine ⟨⟨rfl,p+1,oM,by rw [hd.2];rfl⟩,?_⟩;exact (show 4 - (p+(decodeL s p).2)<4 - p by omega)
    exact su oM
   refine ZDg (fun h4=>wN ?_) (fun h4=>wN ?_)
   ·exact su oM
   obtain ⟨e1,e2,e3⟩:=Zyw c oM cy;have hl:=Zo1 e3 (i:=(Utf8.encode c).data.toList.length - 1) oM;refine Or.inl ⟨InR.i64 oM oM,wN ?_⟩;refine ⟨⟨rfl,rfl⟩,?_⟩;intro vs σ1 hI
   obtain ⟨rfl,rfl⟩:=hI;(conv=>whnf);refine ZDc (fun h5=>wN ?_) (fun h5=>?_)
   ·refine ⟨oM,oM,wN ?_⟩;refine ⟨oM,oM,wN ?_⟩;have po:=Zss hsa (((Utf8.encode c).data.toList.length:Int) - 1).toNat;have pp:128<=((Utf8.encode c).data.toList.getD (((Utf8.encode c).data.toList.length:Int) - 1).toNat 0).toNat:=Zo1 e3 oM;refine ZDe (fun h6=>wN ?_) (fun h6=>?_)
    ·refine Or.inl ⟨InR.i64 oM oM,wN ?_⟩;refine ⟨oM,oM,wN ?_⟩;refine ⟨oM,oM,wN ?_⟩;generalize hx:Lib.indexByte _ _=x;have:x=-1:=by
      rw [<- hx];refine Zo0 (fun b hb=>hsa b (List.mem_of_mem_take (List.mem_of_mem_drop hb))) ?_;rw [ZA0 rfl (UInt8.toNat_lt _)];exact pp
     subst this;(conv=>whnf);exact su oM
    omega
   omega
  omega
 exact h.elim
theorem Zgb (r:Bs):(Lib.decodeL r).1<=1114111/\1<=(Lib.decodeL r).2/\(Lib.decodeL r).2<=4:=by
 exact m65
theorem Zjh (c:Int):(Lib.encodeRune c).length<=4:=by
 unfold Lib.encodeRune Lib.encodeRuneZ
 rw [Tf]
 repeat' split
 all_goals simp
theorem Uj {n k:Nat} (h:n<128) (hk:k<128) (ao:n≠k):(n:Int).toNat.toUInt8≠UInt8.ofNat k:=by
 intro h1
 have h2:=congrArg UInt8.toNat h1;simp [UInt8.toNat_ofNat'] at h2;omega
theorem ZkB {n:Nat} (h:Zvu n=none):Zda [110,116,34,92] n=-1:=by
 unfold Zvu at h
 split at h;· cases h
 split at h;· cases h
 split at h;· cases h
 split at h;· cases h
 rename_i h1 h2 h3 h4
 unfold Zda
 split
 ·rename_i h5
  have hc:([110,116,34,92]:Bs).contains ((n:Int).toNat.toUInt8)=false:=by
   have b1:=Uj (n:=n) (k:=110) oM oM h1;have b2:=Uj (n:=n) (k:=116) oM oM h2;exact m100
  rw [Lib.contains_iff_indexByte,decide_eq_false_iff_not] at hc;have:=Lib.indexByte_ge [110,116,34,92] ((n:Int).toNat.toUInt8);omega
 rfl
theorem ZkC {n:Nat} {b:UInt8} (h:Zvu n=some b):(Zda [110,116,34,92] n=0/\b=10)\/(Zda [110,116,34,92] n=1/\b=9)\/(Zda [110,116,34,92] n=2/\b=34)\/(Zda [110,116,34,92] n=3/\b=92):=by
 unfold Zvu at h
 exact m61
theorem Jw (l:Bs) (b:UInt8):Zj (l++[b])=Zj l++[[.int .u8 b.toNat]]:=by simp [Zj]
theorem Vi (l m:Bs):Zj (l++m)=Zj l++Zj m:=by simp [Zj]
theorem ZeZ (l:Bs):∀r∈Zj l,r.length=1:=by
 intro r hr
 simp only [Zj,SB] at hr;obtain ⟨b,_,rfl⟩:=hr;rfl
theorem Ze0 (l:Bs):(Zj l).length=l.length:=by simp [Zj]
def ZCF (B:Nat):List PV->St->Nat:=fun _ σ=>match σ.bx with | [_,_,_,_,.iter _ p]=>B - p | _=>0
theorem ZvI (ht:TO w0 nG [(209,Ws),(208,VD),(163,Zbz),(210,VE),(40,Zcb)]):PC w0 nG 250 Zky:=by
 refine Zd Zc mixed ht Tryz.func250 rfl kR kR ?_;intro args σ K h
 unfold Zky at h
 split at h
 ·rename_i t s a
  obtain ⟨⟨h0,h1,hs⟩,h⟩:=h;obtain ⟨a,rfl⟩:∃n:Nat,a=n:=⟨a.toNat,oM⟩
  simp only [Tw] at h;obtain ⟨u,hu⟩:∃u,u=s.drop (a+1):=⟨_,rfl⟩
  have xj:u.length=s.length - (a+1):=by rw [hu,TA]
  refine ⟨Zb [(4,⟨[5],[0,2,3,4,22],fun vs σ=>∃(esc:Bool) (l:Bs) (i f:Nat) (p:PV),vs=[.d (.bool esc)] /\
   σ=⟨[.cells t [.d (.str s),.d (.int .i64 a)],.cells 180 [.d (.int .u8 0),.d (.str []),.d (.int .i64 0),.d (.int .i64 0),.d (.int .i64 0)],.cells 253 [.d (.int .i64 0),.d (.int .i64 0)],.cells 113 [p,.sl 0 5 (Zj l)],.iter u i],[0],1⟩ /\
   (p=.d .nilp\/p=.ptr 3 0)/\(i<=u.length/\u.length<i+f/\l.length<=4 * i)/\Z1 f (u.drop i) esc l (1+i)=WY (s.drop a),ZCF u.length⟩)],1,false,sM,Ta rfl,?_⟩
  have dv:∀n:Nat,WY (s.drop a)=.err n->K (.ret (.tuple [Zd5 0 [] 0 0 0,Zhu ((a+n:Nat):Int) 141])) ⟨[.cells t [.d (.str s),.d (.int .i64 a)]],[],0⟩:=fun n g=>by
   have e1:Zd3 a (s.drop a)=.bad (a+n) 141:=by rw [Zd3,g]
   rw [e1] at h;exact h
  have dx:∀(l:Bs) (n:Nat),WY (s.drop a)=.ok l n->K (.ret (.tuple [Zd5 3 l 0 a ((a+n:Nat):Int),Zhu 0 0])) ⟨[.cells t [.d (.str s),.d (.int .i64 a)]],[],0⟩:=fun l n g=>by
   have e1:Zd3 a (s.drop a)=.tok ⟨3,l,0,a,a+n⟩:=by rw [Zd3,g]
   rw [e1] at h;exact h
  have gi:((a:Int)+1).toNat=a+1:=oM;(conv=>whnf);refine Or.inl ⟨InR.i64 oM oM,wN ?_⟩;refine ⟨oM,oM,wN ?_⟩;rw [Ue,gi,<- hu];refine ⟨⟨false,[],0,(s.drop a).length+1,.d .nilp,rfl,rfl,.inl rfl,⟨oM,hD,sM⟩,?_⟩,?_⟩
  ·rw [WY,TF,<- hu];rfl
  intro vs σ1 hI
  obtain ⟨esc,l,i,f,p,rfl,rfl,hp,⟨xp,af,je⟩,f7⟩:=hI;obtain ⟨f,rfl⟩:∃g,f=g+1:=⟨f - 1,oM⟩
  have cj:=ZeZ l;have cq:=Ze0 l;have bp:=ZeX u i;have ju:=Zgb (u.drop i);have ja:=Lib.decodeL_le (u.drop i);rw [TA] at ja
  cases esc with
  | true =>
   rcases hp with rfl | rfl
   ·conv=>whnf
    refine ZDc (fun h2=>wN ?_) (fun h2=>wN ?_)
    ·have ao:u.drop i≠[]:=fun g=>by have:=congrArg List.length g;rw [TA] at this;simp at this;omega
     refine Or.inl ⟨InR.i64 oM oM,wN ?_⟩;refine Or.inl ⟨InR.i64 oM oM,wN ?_⟩;refine ⟨⟨.inl rfl,oM,by rw [bp];omega⟩,wN ?_⟩;generalize hk:Zda _ _=k;have lc:Zda [110,116,34,92] ((Lib.decodeL (u.drop i)).1:Int)=k:=by rw [<- bp];exact hk
     cases hE:Zvu (Lib.decodeL (u.drop i)).1 with
     | none =>
      exact m69
     | some b =>
     have g1:WY (s.drop a)=Z1 f (u.drop (i+(decodeL u i).2)) false (l++[b]) (1+(i+(decodeL u i).2)):=by rw [<- f7,bp];simp [Z1,ao,hE,TF,Sh]
     have g3:i+(decodeL u i).2<=u.length:=by rw [bp];have:=ja ao;omega
     have pb:1<=(decodeL u i).2:=by rw [bp];omega
     rcases ZkC hE with ⟨e1,rfl⟩ | ⟨e1,rfl⟩ | ⟨e1,rfl⟩ | ⟨e1,rfl⟩
     all_goals (rw [e1] at lc;subst lc)
     all_goals (conv=>whnf)
     all_goals (refine ⟨oM,by first | omega | (simp;done) | (simp;omega),?_⟩)
     all_goals (conv=>whnf)
     all_goals (refine ⟨⟨.inl rfl,rfl,rfl,cj,oM⟩,?_⟩)
     all_goals (conv=>whnf)
     all_goals (refine ⟨⟨false,_,_,f,_,rfl,?_,.inr rfl,⟨g3,oM,?_⟩,g1.symm⟩,?_⟩)
     all_goals (first | (rw [Jw];rfl) | (rw [Tb];simp;omega) | exact (show u.length - (i+(decodeL u i).2)<u.length - i by omega))
    exact m41
   conv=>whnf
   refine ZDc (fun h2=>wN ?_) (fun h2=>wN ?_)
   ·have ao:u.drop i≠[]:=fun g=>by have:=congrArg List.length g;rw [TA] at this;simp at this;omega
    refine Or.inl ⟨InR.i64 oM oM,wN ?_⟩;refine Or.inl ⟨InR.i64 oM oM,wN ?_⟩;refine ⟨⟨.inl rfl,oM,by rw [bp];omega⟩,wN ?_⟩;generalize hk:Zda _ _=k;have lc:Zda [110,116,34,92] ((Lib.decodeL (u.drop i)).1:Int)=k:=by rw [<- bp];exact hk
    cases hE:Zvu (Lib.decodeL (u.drop i)).1 with
    | none =>
     exact m69
    | some b =>
    have g1:WY (s.drop a)=Z1 f (u.drop (i+(decodeL u i).2)) false (l++[b]) (1+(i+(decodeL u i).2)):=by rw [<- f7,bp];simp [Z1,ao,hE,TF,Sh]
    have g3:i+(decodeL u i).2<=u.length:=by rw [bp];have:=ja ao;omega
    have pb:1<=(decodeL u i).2:=by rw [bp];omega
    rcases ZkC hE with ⟨e1,rfl⟩ | ⟨e1,rfl⟩ | ⟨e1,rfl⟩ | ⟨e1,rfl⟩
    all_goals (rw [e1] at lc;subst lc)
    all_goals (conv=>whnf)
    all_goals (refine ⟨oM,by first | omega | (simp;done) | (simp;omega),?_⟩)
    all_goals (conv=>whnf)
    all_goals (refine ⟨⟨.inr rfl,rfl,rfl,cj,oM⟩,?_⟩)
    all_goals (conv=>whnf)
    all_goals (refine ⟨⟨false,_,_,f,_,rfl,?_,.inr rfl,⟨g3,oM,?_⟩,g1.symm⟩,?_⟩)
    all_goals (first | (rw [Jw];rfl) | (rw [Tb];simp;omega) | exact (show u.length - (i+(decodeL u i).2)<u.length - i by omega))
   exact m41
  | false =>
  rcases hp with rfl | rfl
  ·conv=>whnf
   refine ZDc (fun h2=>wN ?_) (fun h2=>wN ?_)
   ·have ao:u.drop i≠[]:=fun g=>by have:=congrArg List.length g;rw [TA] at this;simp at this;omega
    have g3:i+(decodeL u i).2<=u.length:=by rw [bp];have:=ja ao;omega
    have pb:1<=(decodeL u i).2:=by rw [bp];omega
    have ow:((a:Int)+1+(i:Int)).toNat=a+1+i:=oM;have ui:s.drop (a+1+i)=u.drop i:=by rw [hu,TF]
    refine Or.inl ⟨InR.i64 oM oM,wN ?_⟩;refine Or.inl ⟨InR.i64 oM oM,wN ?_⟩;refine ⟨⟨oM,oM⟩,wN ?_⟩;refine ZDc (fun h3=>wN ?_) (fun h3=>wN ?_)
    ·have ei:(Lib.decodeL (u.drop i)).1=34:=by rw [bp] at h3;omega
     have g1:WY (s.drop a)=.ok l (1+i+1):=by rw [<- f7];simp [Z1,ao,ei]
     refine Or.inl ⟨InR.i64 oM oM,wN ?_⟩;refine ⟨l,⟨rfl,rfl,rfl,.inl rfl,oM⟩,wN ?_⟩;exact m101
    have ei:¬(Lib.decodeL (u.drop i)).1=34:=by rw [bp] at h3;omega
    refine ZDc (fun h4=>wN ?_) (fun h4=>wN ?_)
    ·have jd:(Lib.decodeL (u.drop i)).1=92:=by rw [bp] at h4;omega
     have g1:WY (s.drop a)=Z1 f (u.drop (i+(decodeL u i).2)) true l (1+(i+(decodeL u i).2)):=by rw [<- f7,bp];simp [Z1,ao,ei,jd,TF,Sh]
     refine ⟨⟨true,_,_,f,_,rfl,rfl,.inl rfl,⟨g3,oM,oM⟩,g1.symm⟩,?_⟩;exact m182
    have jd:¬(Lib.decodeL (u.drop i)).1=92:=by rw [bp] at h4;omega
    refine ZDc (fun h5=>wN ?_) (fun h5=>wN ?_)
    ·exact m77
    have fp:¬(pk (u.drop i)).1<32:=by rw [ow,ui] at h5;exact h5
    have g1:WY (s.drop a)=Z1 f (u.drop (i+(decodeL u i).2)) false (l++Lib.encodeRune ((decodeL u i).1:Int)) (1+(i+(decodeL u i).2)):=by rw [<- f7,bp];simp [Z1,ao,ei,jd,fp,TF,Sh]
    have hen:=Zjh ((decodeL u i).1:Int);refine ⟨⟨.inl rfl,rfl,rfl,cj,oM,oM,by rw [bp];omega⟩,wN ?_⟩;exact m99
   exact m41
  conv=>whnf
  refine ZDc (fun h2=>wN ?_) (fun h2=>wN ?_)
  ·have ao:u.drop i≠[]:=fun g=>by have:=congrArg List.length g;rw [TA] at this;simp at this;omega
   have g3:i+(decodeL u i).2<=u.length:=by rw [bp];have:=ja ao;omega
   have pb:1<=(decodeL u i).2:=by rw [bp];omega
   have ow:((a:Int)+1+(i:Int)).toNat=a+1+i:=oM;have ui:s.drop (a+1+i)=u.drop i:=by rw [hu,TF]
   refine Or.inl ⟨InR.i64 oM oM,wN ?_⟩;refine Or.inl ⟨InR.i64 oM oM,wN ?_⟩;refine ⟨⟨oM,oM⟩,wN ?_⟩;refine ZDc (fun h3=>wN ?_) (fun h3=>wN ?_)
   ·have ei:(Lib.decodeL (u.drop i)).1=34:=by rw [bp] at h3;omega
    have g1:WY (s.drop a)=.ok l (1+i+1):=by rw [<- f7];simp [Z1,ao,ei]
    refine Or.inl ⟨InR.i64 oM oM,wN ?_⟩;refine ⟨l,⟨rfl,rfl,rfl,.inr rfl,oM⟩,wN ?_⟩;exact m101
   have ei:¬(Lib.decodeL (u.drop i)).1=34:=by rw [bp] at h3;omega
   refine ZDc (fun h4=>wN ?_) (fun h4=>wN ?_)
   ·have jd:(Lib.decodeL (u.drop i)).1=92:=by rw [bp] at h4;omega
    have g1:WY (s.drop a)=Z1 f (u.drop (i+(decodeL u i).2)) true l (1+(i+(decodeL u i).2)):=by rw [<- f7,bp];simp [Z1,ao,ei,jd,TF,Sh]
    refine ⟨⟨true,_,_,f,_,rfl,rfl,.inr rfl,⟨g3,oM,oM⟩,g1.symm⟩,?_⟩;exact m182
   have jd:¬(Lib.decodeL (u.drop i)).1=92:=by rw [bp] at h4;omega
   refine ZDc (fun h5=>wN ?_) (fun h5=>wN ?_)
   ·exact m77
   have fp:¬(pk (u.drop i)).1<32:=by rw [ow,ui] at h5;exact h5
   have g1:WY (s.drop a)=Z1 f (u.drop (i+(decodeL u i).2)) false (l++Lib.encodeRune ((decodeL u i).1:Int)) (1+(i+(decodeL u i).2)):=by rw [<- f7,bp];simp [Z1,ao,ei,jd,fp,TF,Sh]
   have hen:=Zjh ((decodeL u i).1:Int);refine ⟨⟨.inr rfl,rfl,rfl,cj,oM,oM,by rw [bp];omega⟩,wN ?_⟩;exact m99
  exact m41
 exact h.elim
theorem Zo2 (r:Bs) (h:0<r.length):XO r<=r.length/\XO r<=2:=by
 unfold XO
 split
 ·rename_i h1
  simp only [twos,List.any_cons,List.any_nil,Sr,So] at h1;rcases h1 with h1 | h1 | h1 | h1 | h1
  all_goals (have:=(Yl h1).1;omega)
 split <;> omega
theorem Xl (a:Nat) (r:Bs) (room:Bool):Jt a r room=if XO r=0/\(pk r).1≠34/\Zl (pk r).1=false/\Zm (pk r).1=false then .bad a 140
 else if room=false then .bad a 3
 else if 0<XO r then .tok ⟨4,r.take (XO r),0,a,a+XO r⟩
 else if (pk r).1=34 then Zd3 a r
 else if Zm (pk r).1=true then WZ a r
 else .tok ⟨1,r.take (VC r),0,a,a+VC r⟩:=rfl
theorem ZvK (ht:TO w0 nG [(163,Zbz),(249,Zkx),(164,UK),(205,Zc9),(250,Zky),(251,Zcc),(165,Zhv)]):PC w0 nG 218 ZeY:=by
 refine Zd Zc mixed ht Tryz.func218 rfl kR kR ?_;intro args σ K h
 unfold ZeY at h
 split at h
 ·rename_i room t s a
  obtain ⟨⟨h0,h1,hs⟩,h⟩:=h;obtain ⟨a,rfl⟩:∃n:Nat,a=n:=⟨a.toNat,oM⟩
  simp only [Tw] at h;have sq:-1<=(pk (s.drop ((a:Int)).toNat)).1/\(pk (s.drop ((a:Int)).toNat)).1<=1114111:=WP (s.drop a);have lb:=Zo2 (s.drop a) hD;rw [TA] at lb;have dv:∀e:Nat,Jt a (s.drop a) room=.bad a e->K (.ret (.tuple [Zd5 0 [] 0 0 0,Zhu a e])) ⟨[.cells t [.d (.str s),.d (.int .i64 a)]],[],0⟩:=fun e g=>by
   rw [g] at h;exact h
  have wi:∀n:Nat,XO (s.drop a)=n->Jt a (s.drop a) room=.tok ⟨4,(s.drop a).take n,0,a,a+n⟩->K (.ret (.tuple [Zd5 4 (cut s ((a:Int)).toNat ((a:Int)+(n:Int)).toNat) 0 a ((a:Int)+(n:Int)),Zhu 0 0])) ⟨[.cells t [.d (.str s),.d (.int .i64 a)]],[],0⟩:=fun n g1 g2=>by
   rw [g2] at h;rw [Zf6,show ((a:Int)+(n:Int)).toNat - ((a:Int)).toNat=n by omega];exact h
  have gy:Jt a (s.drop a) room=.tok ⟨1,(s.drop a).take (VC (s.drop a)),0,a,a+VC (s.drop a)⟩->K (.ret (.tuple [Zd5 1 ((s.drop a).take (VC (s.drop a))) 0 a ((a:Int)+(VC (s.drop a):Int)),Zhu 0 0])) ⟨[.cells t [.d (.str s),.d (.int .i64 a)]],[],0⟩:=fun g=>by
   rw [g] at h;exact h
  refine ⟨Zb [],1,false,sM,Ta rfl,wN ?_⟩;refine ⟨⟨oM,oM⟩,wN ?_⟩;refine ⟨⟨oM,oM,oM⟩,wN ?_⟩;generalize ii:(pk (s.drop ((a:Int)).toNat)).1=c at sq |-;have hc:(pk (s.drop a)).1=c:=ii;generalize du:XO (s.drop ((a:Int)).toNat)=n;have hn:XO (s.drop a)=n:=du;rw [hn] at lb;refine ZDc (fun h2=>?_) (fun h2=>?_)
  ·obtain rfl:n=0:=by omega
   conv=>whnf
   refine ZDe (fun h3=>wN ?_) (fun h3=>?_)
   ·refine ⟨⟨oM,oM⟩,wN ?_⟩;refine ZDg (fun h4=>wN ?_) (fun h4=>?_)
    ·have jd:Zl c=false:=by simpa using h4
     refine ZDg (fun h5=>wN ?_) (fun h5=>?_)
     ·have fp:Zm c=false:=by simpa using h5
      (try (refine ⟨rfl,?_⟩;conv=>whnf))
      (try (refine ⟨rfl,?_⟩;conv=>whnf))
      exact dv 140 (by rw [Xl,hn,hc,Tj ⟨rfl,h3,jd,fp⟩])
     have fp:Zm c=true:=by simpa using h5
     have i7:¬(0=0/\c≠34/\Zl c=false/\Zm c=false):=fun g=>by rw [fp] at g;simp at g
     cases room with
     | false =>
      exact m48
     | true =>
     conv=>whnf
     refine ZDc (fun h6=>?_) (fun h6=>wN ?_)
     ·exact absurd h6 (by simpa using h3)
     refine ZDg (fun h7=>wN ?_) (fun h7=>?_)
     ·refine ⟨⟨oM,oM,oM⟩,wN ?_⟩;have g:Jt a (s.drop a) true=WZ a (s.drop a):=by
       rw [Xl,hn,hc,Tg i7,Tg sM,Tg oM,Tg h3,Tj fp]
      rw [g] at h;exact h
     rw [fp] at h7;cases h7
    have jd:Zl c=true:=by simpa using h4
    have fp:Zm c=false:=by
     have aea:(c=95\/128<=c\/(97<=c/\c<=122)\/(65<=c/\c<=90)):=by simpa [Zl] using jd
     simp only [Zm,decide_eq_false_iff_not];omega
    have i7:¬(0=0/\c≠34/\Zl c=false/\Zm c=false):=fun g=>by rw [jd] at g;simp at g
    cases room with
    | false =>
     exact m48
    | true =>
    conv=>whnf
    refine ZDc (fun h6=>?_) (fun h6=>wN ?_)
    ·exact absurd h6 (by simpa using h3)
    refine ZDg (fun h7=>?_) (fun h7=>wN ?_)
    ·rw [fp] at h7;cases h7
    refine ⟨⟨oM,oM,oM⟩,wN ?_⟩;exact gy (by rw [Xl,hn,hc,Tg i7,Tg sM,Tg oM,Tg h3,Tg (by rw [fp];simp)])
   obtain rfl:c=34:=h3;have i7:¬(0=0/\(34:Int)≠34/\Zl 34=false/\Zm 34=false):=fun g=>g.2.1 rfl
   cases room with
   | false =>
    exact m48
   | true =>
   conv=>whnf
   refine ⟨⟨oM,oM,oM⟩,wN ?_⟩;have g:Jt a (s.drop a) true=Zd3 a (s.drop a):=by
    rw [Xl,hn,hc,Tg i7,Tg sM,Tg oM,Tj rfl]
   rw [g] at h;exact h
  have i7:¬(n=0/\c≠34/\Zl c=false/\Zm c=false):=fun g=>by omega
  cases room with
  | false =>
   exact m48
  | true =>
  conv=>whnf
  refine ZDc (fun h6=>wN ?_) (fun h6=>?_)
  ·refine Or.inl ⟨InR.i64 oM oM,wN ?_⟩;refine ⟨oM,oM,oM,wN ?_⟩;refine Or.inl ⟨InR.i64 oM oM,wN ?_⟩
   (try (refine ⟨rfl,?_⟩;conv=>whnf))
   (try (refine ⟨rfl,?_⟩;conv=>whnf))
   exact wi n hn (by rw [Xl,hn,hc,Tg i7,Tg sM,Tj oM])
  omega
 exact h.elim
theorem ZhH:∀(f:Nat) (r:Bs),Y4 f r<=r.length
 | 0,r=>T6 _
 | f+1,r=>by
  have ih:=ZhH f (r.drop (pk r).2);rw [TA] at ih;have hl:(pk r).1≠-1->(pk r).2<=r.length:=fun h=>(Zyt r h).2.1
  unfold Y4
  split
  ·rename_i h;have:=hl oM;split <;> omega
  split
  ·rename_i h
   have:=hl (fun h1=>by rw [h1,ZbB,Zdc] at h;simp at h);omega
  omega
theorem Zo3 (r:Bs) (h:Zl (pk r).1=true):1<=VC r/\VC r<=r.length:=by
 refine ⟨?_,ZhH _ _⟩;have:=ZoW r;have h46:¬(pk r).1=46:=fun g=>by rw [g] at h;revert h;decide
 rw [VC,ZhB h46 (.inl h)];omega
theorem UL:∀(f:Nat) (r:Bs) (esc:Bool) (acc:Bs) (p:Nat) (t:Bs) (l:Nat),Z1 f r esc acc p=.ok t l->p<l/\l<=p+r.length
 | 0,r,esc,acc,p,t,l,h=>by simp [Z1] at h
 | f+1,r,esc,acc,p,t,l,h=>by
  unfold Z1 at h
  split at h
  ·cases h
  rename_i ao
  have hd:=Lib.decodeL_le r ao;have hr:=Zgb r;split at h
  ·split at h
   ·cases h
   have:=UL f _ _ _ _ _ _ h;rw [TA] at this;omega
  split at h
  ·cases h;have:=List.length_pos_iff.2 ao;omega
  split at h
  ·have:=UL f _ _ _ _ _ _ h;rw [TA] at this;omega
  split at h
  ·cases h
  have:=UL f _ _ _ _ _ _ h;rw [TA] at this;omega
theorem Zo4 (r:Bs):Zy r<=r.length:=by
 unfold Zy Zf
 have:=Uh (X8 (Vh r)) (r.drop (if Vh r then 2 else 0));rw [TA] at this
 by_cases h:Vh r=true
 ·have:=(Yl h).1;simp only [h,if_true] at *;omega
 simp only [h,Tp,if_false] at *;omega
theorem Zo5 {a:Nat} {r:Bs} {room:Bool} {t:Tok} (h0:0<r.length) (h:Jt a r room=.tok t):t.at'=a/\a<t.fin/\t.fin<=a+r.length:=by
 rw [Xl] at h;split at h
 ·cases h
 rename_i g0
 split at h
 ·cases h
 split at h
 ·cases h;rename_i g1;have:=Zo2 r h0;exact ⟨rfl,by simp only;omega,by simp only;omega⟩
 rename_i g1
 split at h
 ·unfold Zd3 at h
  split at h
  ·cases h
  rename_i t' l hx
  cases h
  have:=UL _ _ _ _ _ _ _ hx;rw [TA] at this;exact ⟨rfl,by simp only;omega,by simp only;omega⟩
 rename_i g2
 split at h
 ·rename_i g3
  unfold WZ at h
  split at h
  ·cases h
  rename_i n hx
  cases h
  have aq:=Zo4 r;refine ⟨rfl,?_,by simp only;omega⟩;simp only;have ao:Zf r≠[]:=fun g=>by rw [ZU,Tj g] at hx;cases hx
  have:=List.length_pos_iff.2 ao;unfold Zy;omega
 rename_i g3
 cases h
 have h4:Zl (pk r).1=true:=by
  cases hb:Zl (pk r).1 with
  | true=>rfl
  | false=>exact absurd ⟨oM,g2,hb,by simpa using g3⟩ g0
 have:=Zo3 r h4;exact ⟨rfl,by simp only;omega,by simp only;omega⟩
theorem Zo6 {a:Nat} {r:Bs} {room:Bool} {p e:Nat} (h:Jt a r room=.bad p e):e≠0/\e<=142:=by
 rw [Xl] at h
 repeat' split at h
 all_goals first | (cases h;done) | (cases h;omega) | (cases h;decide) | skip
 ·unfold Zd3 at h;split at h <;> cases h;decide
 unfold WZ at h;split at h <;> cases h;decide
theorem Zde:∀(f:Nat) (r:Bs),(ZP f r).2<=r.length
 | 0,r=>T6 _
 | f+1,r=>by
  have x8:=Uf (([32,9,13,10]:Bs).contains ·) r
  obtain ⟨rest,an⟩:∃x,x=Lib.trimLeftS r [32,9,13,10]:=⟨_,rfl⟩
  have f5:rest.length<=r.length:=by rw [an];exact x8.2
  simp only [ZP,<- an];split
  ·rename_i h1
   have ih:=fun n=>Zde f (rest.drop n)
   have ai:=Ug 10 rest;have kg:=Lib.indexByte_ge rest 10;have ih2:=ih (if Lib.indexByte rest 10<0 then rest.length else (Lib.indexByte rest 10).toNat);rw [TA] at ih2;simp only;have:(if Lib.indexByte rest 10<0 then rest.length else (Lib.indexByte rest 10).toNat)<=rest.length:=by split <;> omega
   omega
  split
  ·rename_i h1 h2
   have hl:=(Yl h2).1;split
   ·simp only;omega
   rename_i h3
   have aq:=Zf7 [42,47] (rest.drop 2) oM;simp only [TA,Tc,Td] at aq;have ih2:=Zde f (rest.drop ((Lib.index (rest.drop 2) [42,47]).toNat+4));rw [TA] at ih2;simp only;omega
  simp only;omega
end Go.PM.Lex
end

section
namespace Go.PM
def Zo7 (T:Tab) (tbl:Tbl) (it:Zru) (gid:FuncId) (fn:Func):Zru:=fun g args raw σ K=>∃loops,ZnX T tbl it gid fn loops g args raw σ K
theorem Zji {G : GE} {T : Tab} {tbl : Tbl} (hT : TabOK T G.P) (ax : G.P.follows .mixedOrders = true) (ht : TblOK G tbl) (hm : TblM tbl) {it : Zru} (lq : V6 G it) {gid : FuncId} {fn : Func} {c : Code} (hf : G.P.funcs[gid]? = some fn) (hb : fn.body = some c) (ak : (fn.name == "runtime.NumGoroutine") = false)
  (az:Zz fn.ntmps c=true):V6 G (Zo7 T tbl it gid fn):=fun g args raw σ K h=>by
 obtain ⟨loops,h⟩:=h;exact Zl2 hT ax ht hm lq hf hb ak az loops g args raw σ K h
end Go.PM
namespace Go.PM.Lex
open Go.Proofs
variable {w0:World} {nG:Nat}
noncomputable def Zo8:Zo:=fun args σ K=>match args,σ with
 | [.d (.str s),.d (.int .i64 m)],⟨[],[],0⟩=>K (.ret (.func 216 [] [.ptr 0 0,.ptr 1 0])) ⟨[.cells 9 [.d (.str s)],.cells 3 [.d (.int .i64 m)]],[],0⟩
 | _,_=>False
theorem Zmj:ZK Zo8:=fun args σ K K' hK h=>by
 unfold Zo8 at h |-;split at h <;> first | exact hK _ _ h | exact h.elim
theorem Zyx:PC w0 nG 182 Zo8:=by
 refine Zd Zc mixed (tbl:=[]) trivial Tryz.func182 rfl kR kR ?_;intro args σ K h
 unfold Zo8 at h
 split at h
 ·rename_i s m
  refine ⟨Zb [],2,false,sM,Ta rfl,wN ?_⟩;exact h
 exact h.elim
def Zyy (t:Tok):List D:=[.int .u8 t.kind,.str t.text,.int .i64 t.n,.int .i64 t.at',.int .i64 t.fin]
def ZM (l:List Tok):List (List D):=l.map Zyy
theorem XP (l:List Tok):(ZM l).length=l.length:=by simp [ZM]
theorem Zmk (l:List Tok) (t:Tok):ZM (l++[t])=ZM l++[Zyy t]:=by simp [ZM]
noncomputable def J9:Zo:=fun args σ K=>match args,σ with
 | [.d (.str s),.d (.int .i64 m)],⟨[],[],0⟩=>s.length<4294967281 /\
   K (.ret (.tuple [.d (.sl (if (Zd4 s m).2.2=0 then ZM (Zd4 s m).1 else [])),.d (.int .i64 (Zd4 s m).2.1),.d (.int .i64 (Zd4 s m).2.2)])) ⟨[],[],0⟩
 | _,_=>False
noncomputable def Zgc:Tbl:=[(217,ZaT),(218,ZeY)]
noncomputable def ZA2:Zru:=Zo7 Zbv Zgc ZeM 216 Tryz.f216
theorem Zpa (ht:TO w0 nG Zgc):V6 (GG w0 nG) ZA2:=Zji Zc mixed ht ⟨Zhw,Zje,trivial⟩ ZaJ Tryz.func216 rfl kR kR
def muX (B:Int) (k:Nat):List PV->St->Nat:=fun _ σ=>match σ.bx[k]? with | some (.cells _ (_::.d (.int _ n)::_))=>(B - n).toNat | _=>0
theorem Zpb (f3:TO w0 nG Zgc) (ht:TO w0 nG [(182,Zo8)]):PC w0 nG 131 J9:=by
 refine ZuM Zc mixed ht ⟨Zmj,trivial⟩ (Zpa f3) Tryz.func131 rfl kR kR ?_;intro args σ K h
 unfold J9 at h
 split at h
 ·rename_i s m
  obtain ⟨hs,h⟩:=h;refine ⟨Zb [],0,false,sM,Ta rfl,wN ?_⟩;intro y r
  refine ⟨Zb [(3,⟨[5],[0,1,2,4],fun vs σ=>∃(l:List Tok) (e f:Nat),vs=[.d (.int .i64 (l.length:Int))] /\
   σ=⟨[.cells 130 [.sl 0 180 []],.cells 3 [.d (.int .i64 0)],.cells 30 [.d (.int .i64 0)],.cells 130 [.sl 1 180 (ZM l)],.cells 9 [.d (.str s)],.cells 3 [.d (.int .i64 m)],.loop .ready none r,.cells 231 [.d (.str s),.d (.int .i64 e)]],[1,0],2⟩ /\
   (e<=s.length/\s.length<e+f/\l.length<=e)/\Zd4 s m=(l++(Uc f (m - l.length) e (s.drop e)).1,(Uc f (m - l.length) e (s.drop e)).2),muX s.length 7⟩)],rfl,?_⟩
  conv=>whnf
  refine ⟨⟨[],0,s.length+1,rfl,rfl,⟨oM,oM,sM⟩,by simp [Zd4]⟩,?_⟩;intro vs σ1 hI
  obtain ⟨l,e,f,rfl,rfl,⟨x7,t8,aq⟩,cd⟩:=hI;obtain ⟨f,rfl⟩:∃g,f=g+1:=⟨f - 1,oM⟩
  have cq:(YT (s.drop e)).2<=s.length - e:=by have:(YT (s.drop e)).2<=(s.drop e).length:=Zde _ _;rw [TA] at this;exact this
  have dv:∀p c:Nat,(Uc (f+1) (m - l.length) e (s.drop e)).2=(p,c)->c≠0->K (.ret (.tuple [.d (.sl []),.d (.int .i64 p),.d (.int .i64 c)])) ⟨[],[],0⟩:=fun p c g1 g2=>by
   have e1:(Zd4 s m).2=(p,c):=by rw [cd];exact g1
   rw [e1] at h;simp only at h;rw [Tg g2] at h;exact h
  have eb:Uc (f+1) (m - l.length) e (s.drop e)=([],(0,0))->K (.ret (.tuple [.d (.sl (ZM l)),.d (.int .i64 0),.d (.int .i64 0)])) ⟨[],[],0⟩:=fun g=>by
   rw [cd,g] at h;simp only [TU,if_true] at h;exact h
  conv=>whnf
  refine ⟨⟨oM,oM,oM⟩,wN ?_⟩;generalize hk0:(YT (s.drop ((e:Int)).toNat)).2=k;have hk:(YT (s.drop e)).2=k:=hk0;rw [hk] at cq;refine ZDg (fun h2=>wN ?_) (fun h2=>wN ?_)
  ·have dh:(YT (s.drop e)).1=false:=by simpa using h2
   have g1:Uc (f+1) (m - l.length) e (s.drop e)=([],(e+k,140)):=by rw [Uc,Tj dh,hk]
   have g2:=dv _ _ (by rw [g1]) dM;rw [show ((e+k:Nat):Int)=(e:Int)+(k:Int) by omega] at g2;refine ⟨rfl,rfl,rfl,wN ?_⟩;refine ⟨rfl,wN ?_⟩
   iterate 6 (try (refine ⟨rfl,?_⟩;conv=>whnf))
   exact g2
  have dh:(YT (s.drop e)).1=true:=by simpa using h2
  have cj:¬(YT (s.drop e)).1=false:=by rw [dh];simp
  refine ZDc (fun h3=>wN ?_) (fun h3=>wN ?_)
  ·have eu:(s.drop e).drop k=[]:=by rw [TF];exact TJ oM
   have g1:Uc (f+1) (m - l.length) e (s.drop e)=([],(0,0)):=by rw [Uc,Tg cj,hk,Tj eu]
   exact eb g1
  have ai:e+k<s.length:=by omega
  have ao:¬(s.drop e).drop k=[]:=fun g=>by have:=congrArg List.length g;rw [TF,TA] at this;simp at this;omega
  have g1:Uc (f+1) (m - l.length) e (s.drop e)=(match Jt (e+k) (s.drop (e+k)) (decide ((l.length:Int)<m)) with
    | .bad p e=>([],(p,e))
    | .tok t=>(t::(Uc f (m - l.length - 1) t.fin ((s.drop (e+k)).drop (t.fin - (e+k)))).1,(Uc f (m - l.length - 1) t.fin ((s.drop (e+k)).drop (t.fin - (e+k)))).2)):=by
   rw [Uc,Tg cj,hk,Tg ao,TF,show (decide (0<m - (l.length:Int)))=decide ((l.length:Int)<m) from by rw [decide_eq_decide];omega] <;> rfl
  refine ⟨⟨oM,oM,oM⟩,wN ?_⟩;generalize il:Jt ((e:Int)+(k:Int)).toNat (s.drop ((e:Int)+(k:Int)).toNat) _=x;have hx:Jt (e+k) (s.drop (e+k)) (decide ((l.length:Int)<m))=x:=by
   rw [show ((e:Int)+(k:Int)).toNat=e+k by omega] at il;exact il
  rw [hx] at g1
  cases x with
  | bad p c =>
   have hc:=Zo6 hx;have g2:=dv p c (by rw [g1]) hc.1;(conv=>whnf);refine ⟨rfl,rfl,rfl,wN ?_⟩;refine ⟨rfl,wN ?_⟩;refine ZDe (fun h4=>wN ?_) (fun h4=>?_)
   ·iterate 6 (try (refine ⟨rfl,?_⟩;conv=>whnf))
    exact g2
   exact absurd h4 (by have:((c:Nat):Int)≠0:=oM;exact this)
  | tok t =>
  obtain ⟨f3,l9,ht3⟩:=Zo5 hD hx;rw [TA] at ht3;(conv=>whnf);refine ⟨rfl,rfl,rfl,wN ?_⟩;refine ⟨rfl,wN ?_⟩;refine ⟨fun r hr=>by (simp at hr;subst hr;rfl),(show ((ZM l).length+1) * 48<=2 ^ 47 by rw [XP];omega),(show (ZM l).length+1<=2 ^ 47 by rw [XP];omega),wN ?_⟩
  iterate 3 (try (refine ⟨rfl,?_⟩;conv=>whnf))
  refine Or.inl ⟨InR.i64 oM oM,wN ?_⟩;refine ⟨⟨l++[t],t.fin,f,?_,?_,⟨oM,oM,by rw [Tb];simp;omega⟩,?_⟩,?_⟩
  ·rw [Tb];rfl
  ·rw [Zmk];rfl
  ·have hd:(s.drop (e+k)).drop (t.fin - (e+k))=s.drop t.fin:=by rw [TF,show e+k+(t.fin - (e+k))=t.fin by omega]
   rw [cd,g1,Tb];simp only [hd,Tc,Td,Int.natCast_add,Int.sub_sub,Tk,Sl,Sg];rfl
  exact (show ((s.length:Int) - (t.fin:Int)).toNat<((s.length:Int) - (e:Int)).toNat by omega)
 exact h.elim
end Go.PM.Lex
end

section
namespace Go.PM.Lex
open Go.Proofs
variable {w0:World} {nG:Nat}
noncomputable def Zyz:Tbl:=[(283,ZAT),(284,Zdd)]
theorem ZhI (hg:GlobOK w0 nG):PC w0 nG 269 Ju:=by
 refine Zd Zc mixed (tbl:=Zyz) ⟨ZAV,Zmi hg,trivial⟩ Tryz.func269 rfl kR kR ?_;intro args σ K h
 unfold Ju at h
 split at h
 ·rename_i l base bits
  obtain ⟨fj,⟨hl,rfl,rfl⟩,dv,dx⟩:=h;refine ⟨Zb [],0,false,sM,Ta rfl,wN ?_⟩;refine ⟨fj,⟨hl,rfl,rfl⟩,fun h0=>?_,fun h0 h1=>?_,fun h0 h1=>?_⟩
  ·conv=>whnf
   refine ⟨⟨.inr rfl,hl.2⟩,wN ?_⟩;exact dv (.inl h0) _
  ·conv=>whnf
   refine ⟨⟨.inl rfl,hl.2⟩,wN ?_⟩;exact dv (.inr h1) _
  conv=>whnf
  exact dx (by simp only [not_or];exact ⟨h0,h1⟩)
 exact h.elim
theorem Zpc:PC w0 nG 163 Zbz:=Zvx ⟨Zmd,WO,trivial⟩
theorem ZA3:PC w0 nG 249 Zkx:=Zvz ⟨WO,Ud,trivial⟩
theorem ZyA:PC w0 nG 165 Zhv:=ZvB ⟨Zpc,J8,Zf4,trivial⟩
theorem ZyB (hg:GlobOK w0 nG):PC w0 nG 217 ZaT:=Zso ⟨Zjd,WO,Ud,Zsl (by have:=hg.big;omega) hg.maxLen,trivial⟩
theorem ZvL (hg:GlobOK w0 nG):PC w0 nG 251 Zcc:=ZoZ ⟨WO,Zf4,ZhI hg,Zpc,J8,trivial⟩
theorem ZhJ:PC w0 nG 240 Jv:=Yw (Zk Tryz.func240 kR rfl) fun args σ K h e w vs hS ha=>by
 unfold Jv at h
 split at h
 ·obtain ⟨u,rfl,hu⟩:=Zhx ha
  cases hu.dint
  exact ⟨_,h,_,fun _ _=>.mkbool,(Tryz.utf8_ValidRune _ w).mono fun en w' ⟨h1,h2⟩=>⟨h1,by rw [h2];exact Grows.refl _⟩⟩
 exact h.elim
theorem Ze1:PC w0 nG 209 Ws:=ZhG ⟨Ud,ZhJ,trivial⟩
theorem ZA4:PC w0 nG 250 Zky:=ZvI ⟨Ze1,ZbD,Zpc,ZbE,ZhA,trivial⟩
theorem ZA5 (hg:GlobOK w0 nG):PC w0 nG 218 ZeY:=ZvK ⟨Zpc,ZA3,J8,Zf4,ZA4,ZvL hg,ZyA,trivial⟩
theorem ZA6 (hg:GlobOK w0 nG):TO w0 nG Zgc:=⟨ZyB hg,ZA5 hg,trivial⟩
theorem ZvM (hg:GlobOK w0 nG):PC w0 nG 131 J9:=Zpb (ZA6 hg) ⟨Zyx,trivial⟩
end Go.PM.Lex
end
