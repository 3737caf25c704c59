/- A part of the proof: plain logic, contracts and laws over the given program. -/
import Derived.Test.YtljpldmdmdhdaaaGreatDoorProg
import Derived.Lib.MapLaws
import Derived.Lib.Strings
import Derived.Lib.Bytealg
import Derived.Lib.Index
import Derived.Lib.SlTrimSet
import Derived.Lib.Small
import Derived.Test.YtljpldmdmdhdaaaGreatDoorShelf
import Derived.Shelf.Strings.SlTrimAscii
import Derived.Shelf.Strings.Builder1
import Derived.Shelf.RegionOpenPlain
import Derived.Lib.Walk
import Derived.Lib.UnsafeStr
import Derived.Lib.Builder
import Derived.WalkKit
import Derived.Laws.Externs
import Derived.Lib.IndexAny
import Derived.KernelRfl
import Derived.Test.YtljpldmdmdhdaaaGreatDoorB04
set_option linter.unusedVariables false
set_option linter.unusedSimpArgs false
set_option linter.all false
set_option maxRecDepth 100000
set_option maxHeartbeats 16000000
noncomputable section
section
namespace Go.PM.Lex
open Go.Proofs
abbrev yi:PV:=.d (.int .i64 0)
abbrev yb:PV:=.d (.int .u8 0)
abbrev ys:PV:=.d (.str [])
abbrev yf:PV:=.d (.bool false)
abbrev yp:PV:=.d .nilp
abbrev ya (a b:Nat) (k:TK) (z:D):TI:=⟨a,b,k,[.d z],false⟩
abbrev yr (n:Nat):TI:=⟨1,8,.ptr n,[yp],false⟩
abbrev yl (n:Nat):TI:=⟨1,24,.slice n,[.nils n],false⟩
abbrev yn (n:Nat) (t:TI):Tab:=.node .leaf n t .leaf
def VE:Tab:=(.node (.node (.node (.node (.node (.node (.node (yn 2 ⟨1,8,.int .i64,[yi],true⟩) 3 ⟨1,8,.int .i64,[yi],true⟩ .leaf) 4 ⟨1,1,.bool,[yf],false⟩ (yn 5 ⟨1,1,.int .u8,[yb],true⟩)) 6 ⟨1,1,.int .u8,[yb],true⟩ (.node (.node (yn 7 ⟨4,24,.struct [(0,2),(1,3),(2,4),(3,6)],[yi,yi,yf,yb],false⟩) 8 ⟨4,24,.struct [(0,2),(1,3),(2,4),(3,6)],[yi,yi,yf,yb],false⟩ .leaf) 9 ⟨1,16,.string,[ys],false⟩ (yn 10 ⟨1,16,.string,[ys],false⟩))) 11 ⟨1,16,.string,[ys],false⟩ (.node (.node (.node (yn 12 ⟨1,8,.int .u64,[.d (.int .u64 (0))],true⟩) 13 ⟨2,24,.struct [(0,9),(1,12)],[ys,.d (.int .u64 (0))],false⟩ .leaf) 14 ⟨2,24,.struct [(0,9),(1,12)],[ys,.d (.int .u64 (0))],false⟩ (yn 15 (yr 374))) 16 (yr 377) (.node (yn 17 (yr 384)) 18 ⟨1,8,.struct [(0,17)],[yp],false⟩ (yn 19 ⟨1,8,.struct [(0,17)],[yp],false⟩)))) 20 ⟨1,16,.iface,[.d .nili],false⟩ (.node (.node (.node (.node (yn 21 ⟨1,4,.int .i32,[.d (.int .i32 (0))],true⟩) 24 (yl 37) .leaf) 25 ⟨1,8,.int .i64,[yi],true⟩ (yn 28 (yl 122))) 29 (yl 53) (.node (yn 30 (yl 46)) 31 ⟨3,72,.struct [(0,28),(1,29),(2,30)],[.nils 122,.nils 53,.nils 46],false⟩ (yn 32 ⟨3,72,.struct [(0,28),(1,29),(2,30)],[.nils 122,.nils 53,.nils 46],false⟩))) 37 (yl 9) (.node (.node (.node (yn 40 ⟨1,8,.map 9 50,[.nilm],false⟩) 41 ⟨1,8,.map 9 50,[.nilm],false⟩ .leaf) 43 (yl 67) (yn 44 (yl 65))) 45 ⟨4,72,.struct [(0,9),(1,43),(2,44),(3,3)],[ys,.nils 67,.nils 65,yi],false⟩ (.node (yn 46 ⟨4,72,.struct [(0,9),(1,43),(2,44),(3,3)],[ys,.nils 67,.nils 65,yi],false⟩) 50 ⟨1,8,.map 9 4,[.nilm],false⟩ (yn 51 (yl 188)))))) 52 ⟨6,56,.struct [(0,9),(1,51),(2,4),(3,4),(4,4),(5,3)],[ys,.nils 188,yf,yf,yf,yi],false⟩ (.node (.node (.node (.node (.node (yn 53 ⟨6,56,.struct [(0,9),(1,51),(2,4),(3,4),(4,4),(5,3)],[ys,.nils 188,yf,yf,yf,yi],false⟩) 54 (ya 1 8 .func .nilf) .leaf) 56 (yl 126) (yn 57 (yl 129))) 58 (yl 133) (.node (.node (yn 59 ⟨6,144,.struct [(0,28),(1,29),(2,30),(3,56),(4,57),(5,58)],[.nils 122,.nils 53,.nils 46,.nils 126,.nils 129,.nils 133],false⟩) 60 ⟨6,144,.struct [(0,28),(1,29),(2,30),(3,56),(4,57),(5,58)],[.nils 122,.nils 53,.nils 46,.nils 126,.nils 129,.nils 133],false⟩ .leaf) 64 ⟨5,80,.struct [(0,5),(1,9),(2,43),(3,44),(4,3)],[yb,ys,.nils 67,.nils 65,yi],false⟩ (yn 65 ⟨5,80,.struct [(0,5),(1,9),(2,43),(3,44),(4,3)],[yb,ys,.nils 67,.nils 65,yi],false⟩))) 66 ⟨5,64,.struct [(0,5),(1,9),(2,2),(3,43),(4,3)],[yb,ys,yi,.nils 67,yi],false⟩ (.node (.node (.node (yn 67 ⟨5,64,.struct [(0,5),(1,9),(2,2),(3,43),(4,3)],[yb,ys,yi,.nils 67,yi],false⟩) 69 (ya 1 8 .func .nilf) .leaf) 72 (ya 1 8 .func .nilf) (yn 73 (yr 96))) 79 (yr 149) (.node (yn 80 ⟨2,16,.struct [(0,3),(1,25)],[yi,yi],false⟩) 81 ⟨2,16,.struct [(0,3),(1,25)],[yi,yi],true⟩ (yn 84 ⟨1,8,.struct [(0,3)],[yi],false⟩)))) 85 ⟨1,8,.struct [(0,3)],[yi],true⟩ (.node (.node (.node (.node (yn 87 ⟨1,8,.map 9 4,[.nilm],false⟩) 92 (yl 117) .leaf) 95 ⟨6,64,.struct [(0,92),(1,3),(2,3),(3,3),(4,25),(5,3)],[.nils 117,yi,yi,yi,yi,yi],false⟩ (yn 96 ⟨6,64,.struct [(0,92),(1,3),(2,3),(3,3),(4,25),(5,3)],[.nils 117,yi,yi,yi,yi,yi],false⟩)) 104 (yr 165) (.node (yn 116 ⟨5,48,.struct [(0,5),(1,9),(2,2),(3,3),(4,3)],[yb,ys,yi,yi,yi],false⟩) 117 ⟨5,48,.struct [(0,5),(1,9),(2,2),(3,3),(4,3)],[yb,ys,yi,yi,yi],true⟩ (yn 120 (yl 155)))) 121 ⟨6,96,.struct [(0,5),(1,9),(2,9),(3,51),(4,120),(5,3)],[yb,ys,ys,.nils 188,.nils 155,yi],false⟩ (.node (.node (.node (yn 122 ⟨6,96,.struct [(0,5),(1,9),(2,9),(3,51),(4,120),(5,3)],[yb,ys,ys,.nils 188,.nils 155,yi],false⟩) 125 ⟨11,232,.struct [(0,9),(1,37),(2,9),(3,37),(4,60),(10,3)],[ys,.nils 9,ys,.nils 9,.nils 122,.nils 53,.nils 46,.nils 126,.nils 129,.nils 133,yi],false⟩ .leaf) 126 ⟨11,232,.struct [(0,9),(1,37),(2,9),(3,37),(4,60),(10,3)],[ys,.nils 9,ys,.nils 9,.nils 122,.nils 53,.nils 46,.nils 126,.nils 129,.nils 133,yi],false⟩ (yn 128 ⟨4,64,.struct [(0,9),(1,9),(2,37),(3,3)],[ys,ys,.nils 9,yi],false⟩)) 129 ⟨4,64,.struct [(0,9),(1,9),(2,37),(3,3)],[ys,ys,.nils 9,yi],false⟩ (.node (yn 132 ⟨2,24,.struct [(0,9),(1,3)],[ys,yi],false⟩) 133 ⟨2,24,.struct [(0,9),(1,3)],[ys,yi],true⟩ (yn 137 (yr 143))))))) 138 (yr 141) (.node (.node (.node (.node (.node (.node (yn 139 (yl 5)) 140 ⟨2,32,.struct [(0,138),(1,139)],[yp,.nils 5],false⟩ .leaf) 141 ⟨2,32,.struct [(0,138),(1,139)],[yp,.nils 5],false⟩ (yn 142 ⟨2,32,.struct [(0,141)],[yp,.nils 5],false⟩)) 143 ⟨2,32,.struct [(0,141)],[yp,.nils 5],false⟩ (.node (.node (yn 146 ⟨1,8,.map 9 156,[.nilm],false⟩) 147 ⟨1,8,.map 9 3,[.nilm],false⟩ .leaf) 148 ⟨7,104,.struct [(0,147),(1,147),(2,147),(3,146),(4,32)],[.nilm,.nilm,.nilm,.nilm,.nils 122,.nils 53,.nils 46],false⟩ (yn 149 ⟨7,104,.struct [(0,147),(1,147),(2,147),(3,146),(4,32)],[.nilm,.nilm,.nilm,.nilm,.nils 122,.nils 53,.nils 46],false⟩))) 154 ⟨2,40,.struct [(0,9),(1,51)],[ys,.nils 188],false⟩ (.node (.node (.node (yn 155 ⟨2,40,.struct [(0,9),(1,51)],[ys,.nils 188],false⟩) 156 ⟨2,16,.array 2 3,[yi,yi],false⟩ .leaf) 160 (ya 1 8 .func .nilf) (yn 161 (ya 1 8 .func .nilf))) 164 ⟨7,96,.struct [(0,79),(1,46),(5,147),(6,4)],[yp,ys,.nils 67,.nils 65,yi,.nilm,yf],false⟩ (.node (yn 165 ⟨7,96,.struct [(0,79),(1,46),(5,147),(6,4)],[yp,ys,.nils 67,.nils 65,yi,.nilm,yf],false⟩) 184 (ya 1 8 .func .nilf) (yn 187 ⟨2,32,.struct [(0,9),(1,9)],[ys,ys],false⟩)))) 188 ⟨2,32,.struct [(0,9),(1,9)],[ys,ys],true⟩ (.node (.node (.node (.node (yn 189 (ya 1 8 .func .nilf)) 191 (ya 1 8 .func .nilf) .leaf) 194 (ya 1 8 .func .nilf) (yn 196 (ya 1 8 .func .nilf))) 198 (ya 1 8 .func .nilf) (.node (yn 203 ⟨3,3,.array 3 4,[yf,yf,yf],false⟩) 204 ⟨3,48,.array 3 9,[ys,ys,ys],false⟩ (yn 208 (yr 246)))) 210 (yr 5) (.node (.node (.node (yn 213 (yl 3)) 217 ⟨1,8,.map 9 37,[.nilm],false⟩ .leaf) 230 (ya 1 8 .func .nilf) (yn 231 ⟨1,16,.iface,[.d .nili],false⟩)) 232 ⟨1,16,.iface,[.d .nili],false⟩ (.node (yn 240 ⟨2,16,.struct [(0,3),(1,25)],[yi,yi],false⟩) 241 ⟨2,16,.struct [(0,3),(1,25)],[yi,yi],true⟩ (yn 243 ⟨3,40,.struct [(0,92),(1,3),(2,3)],[.nils 117,yi,yi],false⟩))))) 244 ⟨3,40,.struct [(0,92),(1,3),(2,3)],[.nils 117,yi,yi],false⟩ (.node (.node (.node (.node (.node (yn 245 ⟨4,48,.struct [(0,244),(3,3)],[.nils 117,yi,yi,yi],false⟩) 246 ⟨4,48,.struct [(0,244),(3,3)],[.nils 117,yi,yi,yi],false⟩ .leaf) 257 ⟨1,8,.int .u64,[.d (.int .u64 (0))],true⟩ (yn 259 ⟨1,8,.int .u64,[.d (.int .u64 (0))],true⟩)) 267 (yr 269) (.node (.node (yn 269 ⟨2,24,.struct [(0,9),(1,3)],[ys,yi],true⟩) 273 ⟨3,32,.struct [(0,3),(1,9),(2,3)],[yi,ys,yi],false⟩ .leaf) 274 ⟨3,32,.struct [(0,3),(1,9),(2,3)],[yi,ys,yi],true⟩ (yn 281 ⟨6,96,.array 6 9,[ys,ys,ys,ys,ys,ys],false⟩))) 282 ⟨4,64,.array 4 9,[ys,ys,ys,ys],false⟩ (.node (.node (.node (yn 287 ⟨2,16,.struct [(0,3),(1,25)],[yi,yi],true⟩) 288 (yr 244) .leaf) 317 ⟨2,2,.struct [(0,5),(1,5)],[yb,yb],false⟩ (yn 318 ⟨2,2,.struct [(0,5),(1,5)],[yb,yb],false⟩)) 319 ⟨32,32,.array 16 318,(.replicate 32 yb),false⟩ (.node (yn 327 ⟨1,4,.int .u32,[.d (.int .u32 (0))],true⟩) 329 ⟨24,24,.array 24 5,(.replicate 24 yb),false⟩ (yn 340 (yr 336))))) 341 ⟨5,80,.array 5 9,[ys,ys,ys,ys,ys],false⟩ (.node (.node (.node (.node (yn 347 ⟨20,160,.array 20 257,[.d (.int .u64 (0)),.d (.int .u64 (0)),.d (.int .u64 (0)),.d (.int .u64 (0)),.d (.int .u64 (0)),.d (.int .u64 (0)),.d (.int .u64 (0)),.d (.int .u64 (0)),.d (.int .u64 (0)),.d (.int .u64 (0)),.d (.int .u64 (0)),.d (.int .u64 (0)),.d (.int .u64 (0)),.d (.int .u64 (0)),.d (.int .u64 (0)),.d (.int .u64 (0)),.d (.int .u64 (0)),.d (.int .u64 (0)),.d (.int .u64 (0)),.d (.int .u64 (0))],false⟩) 354 ⟨2,24,.struct [(0,9),(1,5)],[ys,yb],false⟩ .leaf) 355 ⟨4,48,.array 2 354,[ys,yb,ys,yb],false⟩ (yn 359 ⟨1,8,.int .i64,[yi],true⟩)) 361 (yr 368) (.node (yn 364 ⟨32,32,.array 32 5,(.replicate 32 yb),false⟩) 365 ⟨64,64,.array 64 5,(.replicate 64 yb),false⟩ (yn 368 ⟨3,48,.struct [(0,9),(1,9),(2,232)],[ys,ys,.d .nili],false⟩))) 370 (yr 372) (.node (.node (.node (yn 372 ⟨1,16,.struct [(0,9)],[ys],false⟩) 374 ⟨4,40,.struct [(0,17),(1,17),(2,17),(3,9)],[yp,yp,yp,ys],false⟩ .leaf) 378 ⟨1,1,.int .u8,[yb],true⟩ (yn 379 ⟨1,1,.int .u8,[yb],true⟩)) 380 (ya 1 8 .func .nilf) (.node (yn 381 ⟨1,4,.int .i32,[.d (.int .i32 (0))],true⟩) 382 ⟨1,4,.int .i32,[.d (.int .i32 (0))],true⟩ (yn 384 ⟨11,48,.struct [(0,12),(1,12),(2,327),(3,378),(4,5),(5,5),(6,379),(7,380),(8,210),(9,381),(10,382)],[.d (.int .u64 (0)),.d (.int .u64 (0)),.d (.int .u32 (0)),yb,yb,yb,yb,.d .nilf,yp,.d (.int .i32 (0)),.d (.int .i32 (0))],false⟩)))))))
def Zr:TabOK VE Tryz.prog:=by unfold TabOK;kernel_rfl
def mixed:Tryz.prog.follows .mixedOrders=true:=by kernel_rfl
abbrev Bs:=List UInt8
def Zo (c:Int):Bool:=decide (48<=c/\c<=57)
def Zl (c:Int):Bool:=decide (c=95\/128<=c\/(97<=c/\c<=122)\/(65<=c/\c<=90))
def pk (r:Bs):Int×Nat:=if r=[]\/Lib.decodeL r=(65533,1) then (-1,1) else ((Lib.decodeL r).1,(Lib.decodeL r).2)
def YV:Nat->Bs->Nat
 | 0,_=>0
 | f+1,r=>if (pk r).1=46 then (if Zl (pk (r.drop 1)).1=true then (pk r).2+YV f (r.drop (pk r).2) else 0)
   else if Zl (pk r).1=true\/Zo (pk r).1=true then (pk r).2+YV f (r.drop (pk r).2) else 0
def Vk (r:Bs):Nat:=YV (r.length+1) r
def ZW:Nat->Bs->Bool×Nat
 | 0,_=>(false,0)
 | f+1,r =>
  let rest:=Lib.trimLeftS r [32,9,13,10]
  let k:=r.length - rest.length
  if Lib.hasPrefix rest [47,47]=true then
   let n:=if Lib.indexByte rest 10<0 then rest.length else (Lib.indexByte rest 10).toNat
   let t:=ZW f (rest.drop n)
   (t.1,k+n+t.2)
  else if Lib.hasPrefix rest [47,42]=true then
   if Lib.index (rest.drop 2) [42,47]<0 then (false,k) else
   let n:=(Lib.index (rest.drop 2) [42,47]).toNat+4
   let t:=ZW f (rest.drop n)
   (t.1,k+n+t.2)
  else (true,k)
def YP (r:Bs):Bool×Nat:=ZW (r.length+1) r
def XR (ge:Bool) (b:UInt8):Bool:=Zo b.toNat || (ge && decide ((97<=b.toNat/\b.toNat<=102)\/(65<=b.toNat/\b.toNat<=70)))
def ZgQ (b:UInt8):Nat:=if b.toNat<=57 then b.toNat - 48 else if b.toNat<=70 then b.toNat - 55 else b.toNat - 87
def Wf (base:Nat) (l:Bs):Nat:=l.foldl (fun n b=>n * base+ZgQ b) 0
def WV (r:Bs):Bool:=Lib.hasPrefix r [48,120]
def Zd (r:Bs):Bs:=(r.drop (if WV r then 2 else 0)).takeWhile (XR (WV r))
def ZH (r:Bs):Nat:=(if WV r then 2 else 0)+(Zd r).length
def Z0 (r:Bs):Option Nat :=
 if Zd r=[] then none
 else if (if WV r then 18446744073709551616 else 9223372036854775808)<=Wf (if WV r then 16 else 10) (Zd r) then none
 else if Zl (pk (r.drop (ZH r))).1=true\/Zo (pk (r.drop (ZH r))).1=true\/(WV r=true/\16<(Zd r).length) then none
 else some (Wf (if WV r then 16 else 10) (Zd r))
def ZwY (c:Nat):Option UInt8:=if c=110 then some 10 else if c=116 then some 9 else if c=34 then some 34 else if c=92 then some 92 else none
inductive TR where
 | err (at':Nat) | ok (txt:Bs) (len:Nat)
 deriving DecidableEq
def Z7:Nat->Bs->Bool->Bs->Nat->TR
 | 0,_,_,_,_=>.err 0
 | f+1,r,esc,acc,p =>
  if r=[] then .err 0
  else if esc=true then (match ZwY (Lib.decodeL r).1 with
   | none=>.err (p - 1)
   | some b=>Z7 f (r.drop (Lib.decodeL r).2) false (acc++[b]) (p+(Lib.decodeL r).2))
  else if (Lib.decodeL r).1=34 then .ok acc (p+1)
  else if (Lib.decodeL r).1=92 then Z7 f (r.drop (Lib.decodeL r).2) true acc (p+(Lib.decodeL r).2)
  else if (pk r).1<32 then .err p
  else Z7 f (r.drop (Lib.decodeL r).2) false (acc++Lib.encodeRune (Lib.decodeL r).1) (p+(Lib.decodeL r).2)
def Wx (r:Bs):TR:=Z7 (r.length+1) (r.drop 1) false [] 1
def twos:List Bs:=[[58,45],[33,61],[60,61],[62,61],[60,58]]
def ones:Bs:=[40,41,91,93,123,125,44,46,58,33,61,60,62,43,45,42,47,37,124,36,126]
def Yg (r:Bs):Nat:=if twos.any (Lib.hasPrefix r) then 2 else if ones.contains (r.getD 0 0) then 1 else 0
structure Tok where
 kind:Nat
 text:Bs
 n:Int
 at':Nat
 fin:Nat
 deriving DecidableEq
inductive NR where
 | bad (at':Nat) (e:Nat) | tok (t:Tok)
 deriving DecidableEq
def Wy (a:Nat) (r:Bs):NR:=match Z0 r with | none=>.bad a 142 | some n=>.tok ⟨2,[],IntKind.i64.wrap n,a,a+ZH r⟩
def ZeQ (a:Nat) (r:Bs):NR:=match Wx r with | .err p=>.bad (a+p) 141 | .ok t l=>.tok ⟨3,t,0,a,a+l⟩
def Jy (a:Nat) (r:Bs) (room:Bool):NR :=
 let c:=(pk r).1
 let n:=Yg r
 if n=0/\c≠34/\Zl c=false/\Zo c=false then .bad a 140
 else if room=false then .bad a 3
 else if 0<n then .tok ⟨4,r.take n,0,a,a+n⟩
 else if c=34 then ZeQ a r
 else if Zo c=true then Wy a r
 else .tok ⟨1,r.take (Vk r),0,a,a+Vk r⟩
def V5:Nat->Int->Nat->Bs->List Tok×(Nat×Nat)
 | 0,_,_,_=>([],(0,0))
 | f+1,ce,a,r =>
  if (YP r).1=false then ([],(a+(YP r).2,140))
  else
   let a:=a+(YP r).2
   let r:=r.drop (YP r).2
   if r=[] then ([],(0,0))
   else match Jy a r (decide (0<ce)) with
    | .bad p e=>([],(p,e))
    | .tok t=>let u:=V5 f (ce - 1) t.fin (r.drop (t.fin - a));(t::u.1,u.2)
def ZeR (s:Bs) (ce:Int):List Tok×(Nat×Nat):=V5 (s.length+1) ce 0 s
end Go.PM.Lex
end

section
noncomputable section
namespace Go.PM.Lex
open Go.Proofs
def kR {P:Prop} (h:P:=by kernel_rfl):P:=h
abbrev GG (w0:World) (nG:Nat):GE:=⟨Tryz.prog,w0,nG⟩
def pc {w0:World} {nG:Nat} {tbl:Tbl} {sp:Zh} {g:FuncId} {fn:Func} {c:Code} (ht:TblOK (GG w0 nG) tbl) (hf:Tryz.prog.funcs[g]?=some fn) (h:∀args σ K,sp args σ K->∃loops keep own,σ.bx.length<=keep/\args.length<=fn.ntmps/\WF (ctx VE tbl loops) fn keep own args σ K) (hb:fn.body=some c:=by rfl) (hn:(fn.name == "runtime.NumGoroutine") = false:=by kernel_rfl) (hk:ZG fn.ntmps c=true:=by kernel_rfl):PCalls (GG w0 nG) g sp:=Ziv Zr mixed ht hf hb hn hk h
abbrev PC (w0:World) (nG:Nat):=PCalls (GG w0 nG)
abbrev TO (w0:World) (nG:Nat):=TblOK (GG w0 nG)
abbrev OKw (w0:World) (nG:Nat) (T:Tbl) (g:FuncId) (sp:Zh):Prop:=TO w0 nG T->PC w0 nG g sp
def pwt {w0:World} {nG:Nat} {tbl:Tbl} (ht:TO w0 nG tbl) {g:FuncId} {fn:Func} {sp:Zh} (hf:Tryz.prog.funcs[g]?=some fn) (h:∀args σ K,sp args σ K->∃loops keep own,σ.bx.length<=keep/\args.length<=fn.ntmps/\WF (ctx VE tbl loops) fn keep own args σ K) (hb:fn.body=some (Y8 fn):=by rfl) (hn:(fn.name=="runtime.NumGoroutine")=false:=by kernel_rfl) (ho:ZG fn.ntmps (Y8 fn)=true:=by kernel_rfl):PC w0 nG g sp:=Ziv Zr mixed ht hf hb hn ho h
def pwo {w0:World} {nG:Nat} {tbl:Tbl} {g:FuncId} {fn:Func} {sp:Zh} (hf:Tryz.prog.funcs[g]?=some fn) (h:∀args σ K,sp args σ K->∃loops keep own,σ.bx.length<=keep/\args.length<=fn.ntmps/\WF (ctx VE tbl loops) fn keep own args σ K) (hb:fn.body=some (Y8 fn):=by rfl) (hn:(fn.name=="runtime.NumGoroutine")=false:=by kernel_rfl) (ho:ZG fn.ntmps (Y8 fn)=true:=by kernel_rfl):OKw w0 nG tbl g sp:=fun ht=>pwt ht hf h hb hn ho
def pwe {w0:World} {nG:Nat} {g:FuncId} {fn:Func} {sp:Zh} (hf:Tryz.prog.funcs[g]?=some fn) (h:∀args σ K,sp args σ K->∃loops keep own,σ.bx.length<=keep/\args.length<=fn.ntmps/\WF (ctx VE [] loops) fn keep own args σ K) (hb:fn.body=some (Y8 fn):=by rfl) (hn:(fn.name=="runtime.NumGoroutine")=false:=by kernel_rfl) (ho:ZG fn.ntmps (Y8 fn)=true:=by kernel_rfl):PC w0 nG g sp:=pwt (tbl:=[]) trivial hf h hb hn ho
def pwv {T:Tab} {tbl:Tbl} {fn:Func} {args:List PV} {σ:St} {K:PEnd->St->Prop} {Q:Prop} (l:List (Nat×LoopAnn)) (k:Nat) (b:Bool) (q:Q) (h:Q->WF (ctx T tbl (Zg l)) fn k b args σ K:=by intro k;(conv=>whnf);exact k) (h1:σ.bx.length<=k:=by simp) (h2:args.length<=fn.ntmps:=by exact Tb rfl):∃loops keep own,σ.bx.length<=keep/\args.length<=fn.ntmps/\WF (ctx T tbl loops) fn keep own args σ K:=⟨Zg l,k,b,h1,h2,h q⟩
def pwu {T:Tab} {tbl:Tbl} {fn:Func} {args:List PV} {σ:St} {K:PEnd->St->Prop} (l:List (Nat×LoopAnn)) (k:Nat) (b:Bool) (q:WF (ctx T tbl (Zg l)) fn k b args σ K) (h1:σ.bx.length<=k:=by simp) (h2:args.length<=fn.ntmps:=by exact Tb rfl):∃loops keep own,σ.bx.length<=keep/\args.length<=fn.ntmps/\WF (ctx T tbl loops) fn keep own args σ K:=⟨Zg l,k,b,h1,h2,q⟩
def lzI {i n m:Nat} (e:n=m) (h:(i:Int)<(n:Int)):i<m:=by omega
def lzE {i n m:Nat} (e:n=m) (hi:i<=m) (h:¬(i:Int)<(n:Int)):i=m:=by omega
def lzG {i n m:Nat} (e:n=m) (h:¬(i:Int)<(n:Int)):m<=i:=by omega
def lzM {i n:Nat} (h:i<n):((n:Int) - ((i:Int)+1)).toNat<((n:Int) - (i:Int)).toNat:=by omega
def mu1 (n:Nat):List PV->St->Nat:=fun vs _=>match vs with | [.d (.int _ i)]=>((n:Int) - i).toNat | _=>0
def mu2 (n:Nat):List PV->St->Nat:=fun vs _=>match vs with | [_,.d (.int _ i)]=>((n:Int) - i).toNat | _=>0
def Zdp (s:Bs) (pos:Nat):decodeL s pos=Lib.decodeL (s.drop pos):=by
 have:=Lib.decodeL_drop ⟨s.toArray⟩ pos;simpa [decodeL] using this.symm
def Xn:Zh:=fun args σ K=>match args with
 | [.d (.str s),.d (.str p)]=>K (.ret (.d (.bool (Lib.hasPrefix s p)))) σ
 | _=>False
def X6:Zh:=fun args σ K=>match args with
 | [.d (.str s),.d (.int .u8 c)]=>K (.ret (.d (.int .i64 (Lib.indexByte s c.toNat.toUInt8)))) σ
 | _=>False
def Zko:Zh:=fun args σ K=>match args with
 | [.d (.str s),.d (.str p)]=>s.length<4294967281/\K (.ret (.d (.int .i64 (Lib.index s p)))) σ
 | _=>False
def Zdq:Zh:=fun args σ K=>match args with
 | [.d (.int .i32 c)]=>K (.ret (.d (.int .i64 (Lib.runeLen c)))) σ
 | _=>False
def Za6:Zh:=fun args σ K=>match args with
 | [.d (.str s),.d (.str p)]=>(p.length<4294967281/\∀(j:Nat) b,p[j]?=some b->b.toNat<128)/\K (.ret (.d (.str (Lib.trimLeftS s p)))) σ
 | _=>False
abbrev Zae (k:Int) (x:Bs) (n a f:Int):PV:=.agg [.d (.int .u8 k),.d (.str x),.d (.int .i64 n),.d (.int .i64 a),.d (.int .i64 f)]
abbrev Ziw (a e:Int):PV:=.agg [.d (.int .i64 a),.d (.int .i64 e)]
def NR.t:NR->Tok | .bad _ _=>⟨0,[],0,0,0⟩ | .tok t=>t
def NR.p:NR->Nat | .bad p _=>p | .tok _=>0
def NR.e:NR->Nat | .bad _ e=>e | .tok _=>0
abbrev ZD1 (x:NR):PV:=.tuple [Zae x.t.kind x.t.text x.t.n x.t.at' x.t.fin,Ziw x.p x.e]
def UG:Zh:=fun args σ K=>match args,σ with
 | [.d (.int .i32 c)],⟨[],[],0⟩=>(-1<=c/\c<2147483648)/\K (.ret (.d (.bool (Zl c)))) ⟨[],[],0⟩
 | _,_=>False
def X7:Zh:=fun args σ K=>match args,σ with
 | [.d (.int .i32 c)],⟨[],[],0⟩=>K (.ret (.d (.bool (Zo c)))) ⟨[],[],0⟩
 | _,_=>False
def ZbL:Zh:=fun args σ K=>match args,σ with
 | [.ptr 0 0,.d (.int .i64 at')],⟨[.cells t [.d (.str s),.d (.int .i64 a)]],[],0⟩=>(0<=at'/\s.length<4611686018427387904) /\
   K (.ret (.tuple [.d (.int .i32 (pk (s.drop at'.toNat)).1),.d (.int .i64 (pk (s.drop at'.toNat)).2)])) ⟨[.cells t [.d (.str s),.d (.int .i64 a)]],[],0⟩
 | _,_=>False
def Zix:Zh:=fun args σ K=>match args,σ with
 | [.ptr 0 0],⟨[.cells t [.d (.str s),.d (.int .i64 a)]],[],0⟩=>(0<=a/\a<=s.length/\s.length<4294967281) /\
   K (.ret (Zae 1 ((s.drop a.toNat).take (Vk (s.drop a.toNat))) 0 a (a+Vk (s.drop a.toNat)))) ⟨[.cells t [.d (.str s),.d (.int .i64 a)]],[],0⟩
 | _,_=>False
def Za7:Zh:=fun args σ K=>match args,σ with
 | [.ptr 0 0],⟨[.cells t [.d (.str s),.d (.int .i64 a)]],[],0⟩=>(0<=a/\a<=s.length/\s.length<4294967281) /\
   K (.ret (.d (.bool (YP (s.drop a.toNat)).1))) ⟨[.cells t [.d (.str s),.d (.int .i64 (a+(YP (s.drop a.toNat)).2))]],[],0⟩
 | _,_=>False
def ZlR:Zh:=fun args σ K=>match args,σ with
 | [.ptr 0 0],⟨[.cells t [.d (.str s),.d (.int .i64 a)]],[],0⟩=>(0<=a/\a<s.length/\s.length<4294967281) /\
   K (.ret (.d (.int .i64 (Yg (s.drop a.toNat))))) ⟨[.cells t [.d (.str s),.d (.int .i64 a)]],[],0⟩
 | _,_=>False
def Ziy:Zy Za7:=fun args σ K K' hK h=>by
 unfold Za7 at h |-;split at h <;> first | exact ⟨h.1,hK _ _ h.2⟩ | exact h.elim
end Go.PM.Lex
end
end

section
noncomputable section
namespace Go.PM
def YL {G:GE} {g:FuncId} {sp:Zh} (ga:XK G.P g)
  (h:∀args σ K,sp args σ K->∀(e:Env) (w:World) (vs:Array Value),SRel G e σ w->ArgsRel G e σ w args vs->∃pv,K (.ret pv) σ/\∃v,(∀w',Grows w w'->VRel G e σ w' pv v)/\Calls G.P g vs w fun en w'=>en=.returned v/\Grows w w'):PCalls G g sp where
 enters:=ga
 calls:=fun args σ K hs n e w vs hS ha=>by
  obtain ⟨pv,hK,v,hv,hc⟩:=h args σ K hs e w vs hS ha;refine CallsIn.mono (callsIn_wide.2 hc) fun en w' ⟨he,hg⟩=>?_
  subst he;exact ⟨.ret pv,σ,e,hK,⟨v,rfl,hv w' hg⟩,hS.grow hg,(hg.stepped e σ).toLater⟩
def ZGx {w w':World} (h:RowKit.Below w.heap.size w w'):Grows w w':=⟨h.os,h.tape,h.output,h.size,h.block⟩
section
variable {G:GE} {e:Env} {σ:St} {w:World} {vs:Array Value}
def ZgR {x:PV} (h:ArgsRel G e σ w [x] vs):∃u,vs=#[u]/\VRel G e σ w x u:=by
 obtain ⟨hs,hr⟩:=h;obtain ⟨l⟩:=vs
 match l,hs with
 | [u],_=>exact ⟨u,rfl,hr 0 x u rfl rfl⟩
def ZgS {x y:PV} (h:ArgsRel G e σ w [x,y] vs):∃u v,vs=#[u,v]/\VRel G e σ w x u/\VRel G e σ w y v:=by
 obtain ⟨hs,hr⟩:=h;obtain ⟨l⟩:=vs
 match l,hs with
 | [u,v],_=>exact ⟨u,v,rfl,hr 0 x u rfl rfl,hr 1 y v rfl rfl⟩
def ZD2 {x y z:PV} (h:ArgsRel G e σ w [x,y,z] vs):∃u v t,vs=#[u,v,t]/\VRel G e σ w x u/\VRel G e σ w y v/\VRel G e σ w z t:=by
 obtain ⟨hs,hr⟩:=h;obtain ⟨l⟩:=vs
 match l,hs with
 | [u,v,t],_=>exact ⟨u,v,t,rfl,hr 0 x u rfl rfl,hr 1 y v rfl rfl,hr 2 z t rfl rfl⟩
end
end Go.PM
namespace Go.PM.Lex
open Go.Proofs
variable {w0:World} {nG:Nat}
def Wm:PC w0 nG 245 Xn:=YL (Zf Tryz.func245 kR rfl) fun args σ K h e w vs hS ha=>by
 unfold Xn at h
 split at h
 ·obtain ⟨u,v,rfl,hu,hv⟩:=ZgS ha
  cases hu.dstr;cases hv.dstr
  exact ⟨_,h,_,fun _ _=>.mkbool,(Tryz.strings_HasPrefix _ _ w).mono fun en w' ⟨h1,h2⟩=>⟨h1,by rw [h2];exact Grows.refl _⟩⟩
 exact h.elim
def V6:PC w0 nG 272 X6:=YL (Zf Tryz.func272 kR rfl) fun args σ K h e w vs hS ha=>by
 unfold X6 at h
 split at h
 ·obtain ⟨u,v,rfl,hu,hv⟩:=ZgS ha
  cases hu.dstr;cases hv.dint
  exact ⟨_,h,_,fun _ _=>.mkint,(Tryz.strings_IndexByte _ _ w).mono fun en w' ⟨h1,h2⟩=>⟨h1,by rw [h2];exact Grows.refl _⟩⟩
 exact h.elim
def ZnM:PC w0 nG 244 Zdq:=YL (Zf Tryz.func244 kR rfl) fun args σ K h e w vs hS ha=>by
 unfold Zdq at h
 split at h
 ·obtain ⟨u,rfl,hu⟩:=ZgR ha
  cases hu.dint
  exact ⟨_,h,_,fun _ _=>.mkint,(Tryz.utf8_RuneLen _ w).mono fun en w' ⟨h1,h2⟩=>⟨h1,by rw [h2];exact Grows.refl _⟩⟩
 exact h.elim
def Ztp (h2:2<nG) (hm:∃m,w0.cell? ⟨2,0,none⟩=some (.int .i64 m)):PC w0 nG 281 Zko:=YL (Zf Tryz.func281 kR rfl) fun args σ K h e w vs hS ha=>by
 unfold Zko at h
 split at h
 ·rename_i s p
  obtain ⟨u,v,rfl,hu,hv⟩:=ZgS ha
  cases hu.dstr;cases hv.dstr
  obtain ⟨m,hm⟩:=hm;have hm':w.cell? ⟨2,0,none⟩=some (.int .i64 m):=by
   have:=hS.glob 2 h2;simpa [World.cell?,this] using hm
  exact ⟨_,h.2,_,fun _ _=>.mkint,(Tryz.strings_Index ⟨s.toArray⟩ ⟨p.toArray⟩ m w (show s.toArray.size<_ by simpa using h.1) hm').mono fun en w' ⟨h1,h2⟩=>⟨h1,by rw [h2];exact Grows.refl _⟩⟩
 exact h.elim
def Zkp:PC w0 nG 280 Za6:=YL (Zf Tryz.func280 kR rfl) fun args σ K h e w vs hS ha=>by
 unfold Za6 at h
 split at h
 ·rename_i s p
  obtain ⟨u,v,rfl,hu,hv⟩:=ZgS ha
  cases hu.dstr;cases hv.dstr
  refine ⟨_,h.2,_,fun _ _=>.mkstr,(Any.strings_TrimLeft_laid Tryz.lays161 kR ⟨s.toArray⟩ ⟨p.toArray⟩ w (show p.toArray.size<_ by simpa using h.1.1) h.1.2).mono fun en w' ⟨h1,h2⟩=>⟨h1,ZGx h2⟩⟩
 exact h.elim
end Go.PM.Lex
end
end

section
noncomputable section
namespace Go.PM.Lex
open Go.Proofs
def Zm (l:Bs):List (List D):=l.map fun b=>[.int .u8 b.toNat]
def Jz:Zh:=fun args σ K=>match args,σ with
 | [.d (.str l),.d (.int .i64 base),.d (.int .i64 bits)],⟨[],[],0⟩=>∃ge:Bool,((l.all (XR ge)=true/\l.length<4294967281)/\base=(if ge then 16 else 10)/\bits=(if ge then 64 else 63)) /\
   ((l=[]\/(if ge then 18446744073709551616 else 9223372036854775808)<=Wf (if ge then 16 else 10) l)->∀n,K (.ret (.tuple [.d (.int .u64 n),.iface 361 .undef])) ⟨[],[],0⟩) /\
   (¬(l=[]\/(if ge then 18446744073709551616 else 9223372036854775808)<=Wf (if ge then 16 else 10) l)->K (.ret (.tuple [.d (.int .u64 (Wf (if ge then 16 else 10) l)),.d .nili])) ⟨[],[],0⟩)
 | _,_=>False
def Vl:Zh:=fun args σ K=>match args,σ with
 | [.ptr 0 0,.d (.int .u8 c)],⟨[.cells t [p,.sl 0 e rows]],[0],1⟩=>((p=.d .nilp\/p=.ptr 0 0)/\t=141/\e=5/\(∀r∈rows,r.length=1)/\rows.length<70368744177664) /\
   K (.ret (.d .nili)) ⟨[.cells t [.ptr 0 0,.sl 0 e (rows++[[.int .u8 c]])]],[0],1⟩
 | _,_=>False
def Vm:Zh:=fun args σ K=>match args,σ with
 | [.ptr 0 0,.d (.int .i32 c)],⟨[.cells t [p,.sl 0 e rows]],[0],1⟩=>((p=.d .nilp\/p=.ptr 0 0)/\t=141/\e=5/\(∀r∈rows,r.length=1)/\rows.length<70368744177664/\0<=c/\c<=1114111) /\
   K (.ret (.tuple [.d (.int .i64 (((rows++Zm (Lib.encodeRune c)).length:Int) - (rows.length:Int))),.d .nili])) ⟨[.cells t [.ptr 0 0,.sl 0 e (rows++Zm (Lib.encodeRune c))]],[0],1⟩
 | _,_=>False
def Zcs:Zh:=fun args σ K=>match args,σ with
 | [.ptr 0 0],⟨[.cells t [p,.sl 0 e rows]],[0],1⟩=>∃l:Bs,(rows=Zm l/\t=141/\e=5/\(p=.d .nilp\/p=.ptr 0 0)/\l.length<70368744177664)/\K (.ret (.d (.str l))) ⟨[.cells t [p,.d (.sl rows)]],[],0⟩
 | _,_=>False
def Zdr (s:Bs) (c:Int):Int:=if c<128 then Lib.indexByte s c.toNat.toUInt8 else -1
def X8:Zh:=fun args σ K=>match args,σ with
 | [.d (.str s),.d (.int .i32 c)],⟨[],[],0⟩=>((s=[110,116,34,92]\/s=[10,9,34,92])/\0<=c/\c<=1114111)/\K (.ret (.d (.int .i64 (Zdr s c)))) ⟨[],[],0⟩
 | _,_=>False
def Zct:Zh:=fun args σ K=>match args,σ with
 | [.ptr 0 0],⟨[.cells t [.d (.str s),.d (.int .i64 a)]],[],0⟩=>(0<=a/\a<s.length/\s.length<4294967281) /\
   K (.ret (ZD1 (Wy a.toNat (s.drop a.toNat)))) ⟨[.cells t [.d (.str s),.d (.int .i64 a)]],[],0⟩
 | _,_=>False
def ZlS:Zh:=fun args σ K=>match args,σ with
 | [.ptr 0 0],⟨[.cells t [.d (.str s),.d (.int .i64 a)]],[],0⟩=>(0<=a/\a<s.length/\s.length<4294967281) /\
   K (.ret (ZD1 (ZeQ a.toNat (s.drop a.toNat)))) ⟨[.cells t [.d (.str s),.d (.int .i64 a)]],[],0⟩
 | _,_=>False
def ZfD:Zh:=fun args σ K=>match args,σ with
 | [.ptr 0 0,.d (.bool room)],⟨[.cells t [.d (.str s),.d (.int .i64 a)]],[],0⟩=>(0<=a/\a<s.length/\s.length<4294967281) /\
   K (.ret (ZD1 (Jy a.toNat (s.drop a.toNat) room))) ⟨[.cells t [.d (.str s),.d (.int .i64 a)]],[],0⟩
 | _,_=>False
def Zkq:Zy ZfD:=fun args σ K K' hK h=>by
 unfold ZfD at h |-;split at h <;> first | exact ⟨h.1,hK _ _ h.2⟩ | exact h.elim
end Go.PM.Lex
end
end

section
namespace Go.PM
def Vn {G:GE} {g:FuncId} {sp:Zh} (ga:XK G.P g)
  (h:∀args σ K,sp args σ K->∀(e:Env) (w:World) (vs:Array Value),SRel G e σ w->ArgsRel G e σ w args vs->∃pv σ' v,K (.ret pv) σ'/\Calls G.P g vs w fun en w'=>en=.returned v/\VRel G e σ' w' pv v/\SRel G e σ' w'/\Later e σ w e σ' w'):PCalls G g sp where
 enters:=ga
 calls:=fun args σ K hs n e w vs hS ha=>by
  obtain ⟨pv,σ',v,hK,hc⟩:=h args σ K hs e w vs hS ha;refine CallsIn.mono (callsIn_wide.2 hc) fun en w' ⟨he,hv,hS',hL⟩=>?_
  subst he;exact ⟨.ret pv,σ',e,hK,⟨v,rfl,hv⟩,hS',hL⟩
section
variable {G:GE} {T:Tab} {e:Env} {σ:St} {w:World}
def Zds (hT:TabOK T G.P) (hS:SRel G e σ w) {t:TypeId} {b off:Nat} {x:PV} {v:Value} {l cs:List PV} {ty:TypeId} (hb:σ.bx[b]?=some (.cells ty cs)) (hx:VRel G e σ w x v) (hl:x.cells=some l)
  (hlen:l.length=(T.get t).size) (io:off+l.length<=cs.length) (hk:(T.get t).kind≠.other) :
  Stepped e σ w e (σ.set b (.cells ty (Yi cs off l))) (w.setCells (e.β b) off v.cells.toList)/\SRel G e (σ.set b (.cells ty (Yi cs off l))) (w.setCells (e.β b) off v.cells.toList):=by
 obtain ⟨w1,hr,h1,h2⟩:=Jq hT hS hb hx hl hlen io hk;obtain ⟨i,d,z,hi,hd,hs,ec,aq,hz,cx,_⟩:=(hT.get hk).ex;obtain ⟨vs,m9,ou,t8⟩:=hS.box b _ hb;obtain ⟨dv,bw⟩:=WK hx hl;have xc:v.cells.toList.length=l.length:=by simpa using dv
 have ko:∀u∈v.cells.toList,u.oneCell'=true:=fun u hu=>by
  obtain ⟨j,hj,rfl⟩:=T5 hu;have h1:j<l.length:=oM;exact (bw j l[j] _ (Ta h1) (by rw [<- TG,Ta hj])).2
 have aj:=run_storeCells_cells (P:=G.P) (e.β b) off v.cells.toList 0 w (fun j hj=>by
   have:off+j<vs.size:=oM;simp [World.cell?,m9,this]) (fun j hj=>by simp [World.frozen?,m9]) ko
 simp only [Nat.add_zero] at aj;have fd:(Instr.storeAt t (.pointer (some ⟨e.β b,off,none⟩)) v).run G.P w=.ok () (w.setCells (e.β b) off v.cells.toList):=by
  have oy:v.cells.size=i.size:=by rw [dv,hlen,hs]
  simp only [Instr.storeAt,Instr.sureAddr,storeVar,Sem.run_bind,Sem.run_pure,Result.andThen,Zt hi];rw [Te (by rw [oy];simp)];exact aj
 rw [fd] at hr
 cases hr
 exact ⟨h1,h2⟩
end
end Go.PM
namespace Go.PM.Lex
open Go.Proofs Go.Shelf
variable {w0:World} {nG:Nat}
def u50:Tryz.prog.underlying 138=some (.pointer 141):=kR
def u95:Tryz.prog.underlying 302=some .unsafePointer:=kR
def i53:∃j,Tryz.prog.info? 141=some j/\j.size=2:=by
 have h:(Tryz.prog.info? 141).map (·.size)=some 2:=kR
 obtain ⟨j,h1,h2⟩:=TD.1 h;exact ⟨j,h1,h2⟩
def ZA4:liesAt Tryz.prog Tryz.prog.depth 141 (2 / Tryz.prog.cellsOf 141) 0 141 1=true:=kR
def Ziz (b:Nat) (w:World) (h0:w.cell? ⟨b,0,none⟩=some (.pointer (some ⟨b,0,none⟩))) :
  Calls Tryz.prog 225 #[.pointer (some ⟨b,0,none⟩)] w fun e w'=>e=.returned (.tuple #[])/\w'=w:=by
 obtain ⟨j,hj,ub⟩:=i53
 go_enter Tryz.func225,Tryz.ntmps225
 go_wp2
 rw [Go.Lib.run_neq_ptr_same w _ u50 hj]
 go_wp2
 go_end0
 exact ⟨rfl,rfl⟩
def ZnN (b:Nat) (w:World) (h0:w.cell? ⟨b,0,none⟩=some (.pointer none)) (jm:w.shape? b=some (141,2)) (ll:w.frozen? ⟨b,0,none⟩=false) :
  Calls Tryz.prog 225 #[.pointer (some ⟨b,0,none⟩)] w fun e w'=>e=.returned (.tuple #[])/\w'=w.setCell ⟨b,0,none⟩ (.pointer (some ⟨b,0,none⟩)):=by
 obtain ⟨j,hj,ub⟩:=i53
 go_enter Tryz.func225,Tryz.ntmps225
 go_wp2
 rw [Go.Lib.run_to_unsafe w ⟨b,0,none⟩ u50 u95 hj (by rw [ub];decide) jm (Nat.zero_lt_succ 1)];simp only [Result.andThen];rw [Oper.upon_value]
 go_wp2
 rw [run_callFunc_extern Tryz.func252 kR kR kR (e:=Extern.AbiNoEscape.same) kR];rw [Go.Lib.run_noEscape];simp only [Result.andThen];rw [Oper.upon_value]
 go_wp2
 rw [Go.Lib.run_from_unsafe w ⟨b,0,none⟩ u95 u50 hj jm ZA4];simp only [Result.andThen];rw [Oper.upon_value]
 go_wp2
 go_end0
 exact ⟨rfl,rfl⟩
def Vo:Zh:=fun args σ K=>match args,σ with
 | [.ptr 0 0],⟨[.cells t [p,q]],tk,nx⟩=>((p=.d .nilp\/p=.ptr 0 0)/\t=141)/\K (.ret (.tuple [])) ⟨[.cells t [.ptr 0 0,q]],tk,nx⟩
 | _,_=>False
def ZbM:PC w0 nG 225 Vo:=Vn (Zf Tryz.func225 kR rfl) fun args σ K h e w vs hS ha=>by
 unfold Vo at h
 split at h
 ·rename_i t p q tk nx
  obtain ⟨⟨hp,rfl⟩,hK⟩:=h;obtain ⟨u,rfl,hu⟩:=ZgR ha;obtain ⟨cv,dv,bw,d0⟩:=hS.box 0 _ rfl;have et:cv.size=2:=bw;obtain ⟨x0,jd⟩:∃x,cv[0]?=some x:=⟨cv[0]'oM,by simp [et]⟩
  have xw:=(d0 0 p x0 rfl jd).1
  cases hu with
  | ptr b off hb =>
  refine ⟨_,_,.tuple #[],hK,?_⟩;rcases hp with rfl | rfl
  ·cases xw with
   | d _ _ hd =>
   cases hd
   refine Calls.mono (ZnN (e.β 0) w ?_ ?_ ?_) fun en w' ⟨h1,h2⟩=>?_
   ·simp [World.cell?,dv,jd]
   ·simp only [World.shape?,dv,et]
   ·simp [World.frozen?,dv]
   have hst:=Zds (G:=GG w0 nG) (T:=VE) Zr hS (t:=138) (b:=0) (off:=0) (x:=.ptr 0 0) (v:=.pointer (some ⟨e.β 0,0,none⟩)) (l:=[.ptr 0 0]) (cs:=[.d .nilp,q]) (ty:=141) rfl (.ptr 0 0 hb) rfl rfl sM (by intro h;cases h);rw [h2];exact ⟨h1,.tuple [] #[] rfl (fun i x u hx=>by simp at hx),hst.2,hst.1.toLater⟩
  exact mq85
 exact h.elim
def ZpR {P:Program} {ρ:Ren} (L:Lays.n169 P ρ) (X:Builder.Extra P ρ) (b g cap:Nat) (p:Value) (cur:Array Value) (fz:Nat×Nat) (l:Bs) (w:World) (h0:l≠[])
  (rl:w.heap[b]?=some (.cells #[p,.slice (some ⟨g,0,none⟩) l.length cap] (ρ.t 72) (0,0))) (hg:w.heap[g]?=some (.cells cur (ρ.t 5) fz)) (hn:l.length<=cur.size) (hcap:cap≠0) (dm:l.length<=9223372036854775807)
  (az:∀j x,l[j]?=some x->w.cell? ⟨g,j,none⟩=some (.int .u8 x.toNat)) :
  Calls P (ρ.f 169) #[.pointer (some ⟨b,0,none⟩)] w fun e w'=>e=.returned (.string ⟨l.toArray⟩)/\w'=w.drew.freeze ⟨g,0,none⟩ l.length:=by
 have c1:w.drew.cell? ⟨b,1,none⟩=some (.slice (some ⟨g,0,none⟩) l.length cap):=by
  have:w.drew.heap[b]?=some (.cells #[p,.slice (some ⟨g,0,none⟩) l.length cap] (ρ.t 72) (0,0)):=rl;rw [Go.Lib.cell_of_heap this];rfl
 have hSD:(Builtin.unsafeSliceData_ #[(ρ.t 37)] (ρ.t 127) #[.slice (some ⟨g,0,none⟩) l.length cap]).run P w.drew=.ok (.pointer (some ⟨g,0,none⟩)) w.drew :=
  Go.Lib.run_unsafeSliceData_row _ _ _ _ _ _ hcap
 have hUS:(Builtin.unsafeString_ #[(ρ.t 127),(ρ.t 3)] (ρ.t 9) #[.pointer (some ⟨g,0,none⟩),.int .i64 l.length]).run P w.drew=.ok (.string ⟨l.toArray⟩) (w.drew.freeze ⟨g,0,none⟩ l.length):=by
  exact mq69
 have mixed:=L.mixed;have t72:=L.t72;have a72:=L.a72;have z72:=L.z72;have v72:=L.v72;have u72:=run_underlying L.t72;have t70:=L.t70;have a70:=L.a70;have z70:=L.z70;have v70:=L.v70;have u70:=run_underlying L.t70;have t37:=L.t37;have a37:=L.a37;have z37:=L.z37;have v37:=L.v37;have u37:=run_underlying L.t37;have t127:=L.t127;have a127:=L.a127;have z127:=L.z127;have v127:=L.v127;have u127:=run_underlying L.t127;have t3:=L.t3;have a3:=L.a3;have z3:=L.z3;have v3:=L.v3;have u3:=run_underlying L.t3;have t9:=L.t9;have a9:=L.a9;have z9:=L.z9;have v9:=L.v9;have u9:=run_underlying L.t9;have t5:=X.t5;have a5:=X.a5;have z5:=X.z5;have v5:=X.v5;have u5:=run_underlying X.t5
 go_enter L.f169,Body.n169_ntmps ρ
 go_wp2
 go_region_o
 all_goals (go_wp2;go_ret;exact ⟨rfl,rfl⟩)
def Vp (w:World) (g n k:Nat) (hk:k≠g):(w.drew.freeze ⟨g,0,none⟩ n).heap[k]?=w.heap[k]?:=by
 unfold World.freeze
 split
 ·rfl
 simp only [Array.getElem?_modify];rw [Te (fun h=>hk h.symm)];rfl
def Zkr (w:World) (g n:Nat) {cs:Array Value} {ty:TypeId} {fz:Nat×Nat} (h:w.heap[g]?=some (.cells cs ty fz)):∃fz',(w.drew.freeze ⟨g,0,none⟩ n).heap[g]?=some (.cells cs ty fz'):=by
 have h':w.drew.heap[g]?=some (.cells cs ty fz):=h;unfold World.freeze
 split
 ·exact ⟨fz,h'⟩
 simp only [Array.getElem?_modify,if_true,h',TX];exact ⟨_,rfl⟩
def ZA5 {G:GE} {e:Env} {w w':World} {t:TypeId} {p:PV} {rows:List (List D)} (hp:p=.d .nilp\/p=.ptr 0 0) (hS:SRel G e ⟨[.cells t [p,.sl 0 5 rows]],[0],1⟩ w)
  (hsz:w.heap.size<=w'.heap.size) (o6:w'.os=w.os) (htp:w'.tape=w.tape) (jr:w'.output=w.output)
  (az:∀b off u,w.cell? ⟨b,off,none⟩=some u->w'.cell? ⟨b,off,none⟩=some u)
  (gl:∀b,b<w.heap.size->(∀q,e.M 0=some q->q.1≠b)->w'.heap[b]?=w.heap[b]?) :
  SRel G e ⟨[.cells t [p,.d (.sl rows)]],[],0⟩ w'/\Later e ⟨[.cells t [p,.sl 0 5 rows]],[0],1⟩ w e ⟨[.cells t [p,.d (.sl rows)]],[],0⟩ w':=by
 have hL:Later e ⟨[.cells t [p,.sl 0 5 rows]],[0],1⟩ w e ⟨[.cells t [p,.d (.sl rows)]],[],0⟩ w':={
  len:=Tt _
  beta:=fun _ _=>rfl
  X:=fun _ _ h=>h
  pres:=fun b off u hu ho=>⟨⟨ho.1,ho.2.1,(fun x hx=>by cases hx),ho.2.2.2⟩,az b off u hu⟩
  fhid:=fun b h=>.inr (.inr h)
  blocks:=fun b hb h1 h2 _=>gl b hb fun q hq=>h2 0 sM q hq
  size:=hsz
  os:=o6
  tape:=htp
  output:=jr
  fresh:=fun i h1 h2=>by simp at h1 h2;omega
  ftok:=fun x hx=>by cases hx }
 have aa:=hS.lt (i:=0) sM;have po:w'.heap[e.β 0]?=w.heap[e.β 0]?:=gl _ aa fun q hq=>fun h=>(hS.own 0 sM q hq).2.1 0 sM h.symm
 refine ⟨?_,hL⟩;exact {
  inj:=hS.inj
  box:=fun i x hx=>by
   match i,hx with
   | 0,hx =>
    cases hx
    obtain ⟨cv,h1,h2,h3⟩:=hS.box 0 _ rfl;refine ⟨cv,po.trans h1,h2,fun j y u hy hu=>?_⟩
    match j,hy with
    | 0,hy =>
     exact mq87
    | 1,hy =>
     cases hy
     obtain ⟨q1,q2⟩:=h3 1 (.sl 0 5 rows) u rfl hu;refine ⟨?_,q2⟩
     cases q1 with
     | sl _ _ _ _ hn hd ht=>exact .d _ _ (hd.later hL)
    | j+2,hy=>simp at hy
   | i+1,hx=>simp at hx
  low:=hS.low
  tkn:=fun x hx=>by cases hx
  own:=fun x hx=>by cases hx
  dis:=fun x y hx=>by cases hx
  xlt:=fun b off hx=>TC (hS.xlt b off hx) hsz
  xown:=fun x hx=>by cases hx
  hid:=fun b q hq=>let ⟨k1,k2,k3,k4,k5⟩:=hS.hid b q hq;⟨k1,TC k2 hsz,k3,(fun x hx=>by cases hx),k5⟩
  glob:=fun b hb=>by
   rw [gl b (TC hb hS.big) fun q hq=>fun h=>by have:=(hS.own 0 sM q hq).1;omega];exact hS.glob b hb
  big:=TP hS.big hsz }
def YZ (l:Bs):(Zm l).length=l.length:=by simp [Zm]
def ZA6:(Tryz.prog.info? 5).map (·.size)=some 1:=kR
def ZiA:PC w0 nG 70 Zcs:=Vn (Zf Tryz.func70 kR rfl) fun args σ K h e w vs hS ha=>by
 unfold Zcs at h
 split at h
 ·rename_i t p el rows
  obtain ⟨l,⟨rfl,rfl,rfl,hp,dm⟩,hK⟩:=h;obtain ⟨u,rfl,hu⟩:=ZgR ha;obtain ⟨cv,dv,bw,d0⟩:=hS.box 0 _ rfl;have et:cv.size=2:=bw;obtain ⟨v0,v1,rfl⟩:∃v0 v1,cv=#[v0,v1]:=by
   obtain ⟨lst⟩:=cv
   match lst,et with
   | [a,b],_=>exact ⟨a,b,rfl⟩
  have cq:=(d0 1 (.sl 0 5 (Zm l)) v1 rfl rfl).1
  cases hu with
  | ptr b off hb =>
  refine ⟨_,_,.string ⟨l.toArray⟩,hK,?_⟩;have fin:∀w',w.heap.size<=w'.heap.size->w'.os=w.os->w'.tape=w.tape->w'.output=w.output ->
    (∀b off u,w.cell? ⟨b,off,none⟩=some u->w'.cell? ⟨b,off,none⟩=some u) ->
    (∀b,b<w.heap.size->(∀q,e.M 0=some q->q.1≠b)->w'.heap[b]?=w.heap[b]?) ->
    VRel (GG w0 nG) e ⟨[.cells 141 [p,.d (.sl (Zm l))]],[],0⟩ w' (.d (.str l)) (.string ⟨l.toArray⟩)/\SRel (GG w0 nG) e ⟨[.cells 141 [p,.d (.sl (Zm l))]],[],0⟩ w'/\Later e ⟨[.cells 141 [p,.sl 0 5 (Zm l)]],[0],1⟩ w e ⟨[.cells 141 [p,.d (.sl (Zm l))]],[],0⟩ w':=fun w' h1 h2 h3 h4 h5 h6 =>
   ⟨.mkstr,ZA5 hp hS h1 h2 h3 h4 h5 h6⟩
  have grown:∀w',Grows w w'->_:=fun w' g=>fin w' g.size g.os g.tape g.output (fun b off u hu=>(g.cell (Vf hu)).trans hu) (fun b hb _=>g.old b hb)
  cases cq with
  | sl _ _ _ _ hn hd ht =>
  rcases ht sM with ⟨rfl,bu,hM⟩ | ⟨sz,g1,g2,g3,g,off,cap,cs,ty,fz,rfl,g4,g5,g6,⟨g7,rfl,rfl,g8⟩,g9,hM⟩
  ·have hl:l=[]:=by simpa [Zm] using bu
   subst hl;refine (Any.Builder_String_nil Tryz.lays169 Tryz.Builder_Extra_169 w.heap.size (e.β 0) v0 w dv).mono fun en w' ⟨h1,h2⟩=>?_
   exact ⟨h1,grown w' (ZGx h2)⟩
  have lx:sz=1:=by
   have:(Tryz.prog.info? 5).map (·.size)=some sz:=g1
   rw [ZA6] at this;cases this;rfl
  subst lx;rw [YZ] at g5 dv g9 hM hd
  by_cases hl:l=[]
  ·subst hl;refine (Any.Builder_String_room Tryz.lays169 Tryz.Builder_Extra_169 w.heap.size (e.β 0) g cap v0 w oM dv).mono fun en w' ⟨h1,h2⟩=>?_
   exact ⟨h1,grown w' (ZGx h2)⟩
  have az:∀j x,l[j]?=some x->w.cell? ⟨g,j,none⟩=some (.int .u8 x.toNat):=by
   exact mq26
  obtain ⟨fz',rn⟩:=Zkr w g l.length g6;refine (ZpR Tryz.lays169 Tryz.Builder_Extra_169 (e.β 0) g cap v0 cs fz l w hl dv g6 oM oM oM az).mono fun en w' ⟨h1,h2⟩=>?_
  rw [h2];refine ⟨h1,fin _ ?_ ?_ ?_ ?_ ?_ ?_⟩
  ·unfold World.freeze;split <;> first | exact Tt _ | (simp only [Array.size_modify];exact Tt _)
  ·exact mq144
  ·exact mq144
  ·exact mq144
  ·exact mq110
  intro b hb hq
  exact Vp w g l.length b fun h=>hq _ hM h.symm
 exact h.elim
end Go.PM.Lex
end

section
namespace Go.PM.Lex
open Go.Proofs
variable {w0:World} {nG:Nat}
def orB (n:Fin 128):Zi .or .i32 (n.val:Int) 32=((n.val ||| 32:Nat):Int):=by rw [Yu];revert n;decide +kernel
def orM:Zi .or .i32 (-1) 32=-1:=by rw [Yu];decide +kernel
def orL:∀n:Fin 128,(97<=(n.val ||| 32)/\(n.val ||| 32)<=122)↔((97<=n.val/\n.val<=122)\/(65<=n.val/\n.val<=90)):=by decide +kernel
def ZpS {c:Int} (h0:-1<=c) (h1:c<128):(97<=Zi .or .i32 c 32/\Zi .or .i32 c 32<=122)↔((97<=c/\c<=122)\/(65<=c/\c<=90)):=by
 by_cases hc:c=-1
 ·subst hc;rw [orM];omega
 obtain ⟨n,rfl⟩:∃n:Nat,c=n:=⟨c.toNat,oM⟩
 have hn:n<128:=oM;have h2:=orB ⟨n,hn⟩;have h3:=orL ⟨n,hn⟩;simp only at h2 h3;rw [h2];omega
def ZbN {K:PEnd->St->Prop} {b b':Bool} {σ:St} (h:K (.ret (.d (.bool b))) σ) (h1:b=b'):K (.ret (.d (.bool b'))) σ:=by subst h1;exact h
def ZgT:PC w0 nG 246 X7:=by
 refine Ziv Zr mixed (tbl:=[]) trivial Tryz.func246 rfl kR kR ?_;intro args σ K h
 unfold X7 at h
 split at h
 ·rename_i c
  refine ⟨Zg [],0,false,dM,Tb rfl,?_⟩;exact mq99
 exact h.elim
def Zaf:PC w0 nG 213 UG:=by
 refine Ziv Zr mixed (tbl:=[]) trivial Tryz.func213 rfl kR kR ?_;intro args σ K h
 unfold UG at h
 split at h
 ·rename_i c
  obtain ⟨⟨h0,_⟩,h⟩:=h;refine ⟨Zg [],0,false,dM,Tb rfl,?_⟩
  repeat' ((conv=>whnf);refine ZGr (fun h1=>?_) (fun h1=>?_))
  all_goals (conv=>whnf)
  all_goals (try (have hl:=ZpS (c:=c) h0 oM))
  all_goals (refine ZbN h ?_;simp only [Zl,TH,decide_eq_false_iff_not,decide_eq_decide];omega)
 exact h.elim
def ZFT (r:Bs):Lib.hasPrefix r [239,191,189]=true↔2<r.length/\(r.getD 0 0).toNat=239/\(r.getD 1 0).toNat=191/\(r.getD 2 0).toNat=189:=by
 unfold Lib.hasPrefix
 match r with
 | []=>simp
 | [a]=>simp [List.isPrefixOf]
 | [a,b]=>simp [List.isPrefixOf]
 | a::b::c::l =>
  have ha:=UInt8.toNat_inj (a:=239) (b:=a);have hb:=UInt8.toNat_inj (a:=191) (b:=b);have hc:=UInt8.toNat_inj (a:=189) (b:=c);simp only [List.isPrefixOf,Bool.and_true,Tl,beq_iff_eq,Tf,SA,SF];rw [<- ha,<- hb,<- hc];have e1:(239:UInt8).toNat=239:=rfl;have e2:(191:UInt8).toNat=191:=rfl;have e3:(189:UInt8).toNat=189:=rfl;rw [e1,e2,e3];omega
def ZFm (r:Bs) (hv:(Lib.decodeL r).1=65533):(Lib.hasPrefix r [239,191,189]=true/\(Lib.decodeL r).2=3)\/(¬Lib.hasPrefix r [239,191,189]=true/\(Lib.decodeL r).2=1):=by
 rw [ZFT];rw [Lib.decodeL_N] at hv |-;have k0:=(r.getD 0 0).toNat_lt;have k1:=(r.getD 1 0).toNat_lt;have k2:=(r.getD 2 0).toNat_lt;have k3:=(r.getD 3 0).toNat_lt
 by_cases hp:2<r.length/\(r.getD 0 0).toNat=239/\(r.getD 1 0).toNat=191/\(r.getD 2 0).toNat=189
 ·left
  refine ⟨hp,?_⟩;obtain ⟨p0,p1,p2,p3⟩:=hp;rw [p1,p2,p3];unfold Lib.decodeN
  have hl:1<r.length:=oM;simp [p0,hl]
 right
 refine ⟨hp,?_⟩;rcases Lib.decodeN_shape r.length (r.getD 0 0).toNat (r.getD 1 0).toNat (r.getD 2 0).toNat (r.getD 3 0).toNat with ⟨c,e⟩ | ⟨c1,c2,c3,cv,e⟩ | ⟨c1,c2,c3,c4,cv,cs,e⟩ | ⟨c1,c2,c3,c4,c5,cv,cw,e⟩ | e
 all_goals (rw [e] at hv)
 all_goals (dsimp only at hv)
 ·omega
 ·omega
 ·exact absurd ⟨c2,oM,oM,oM⟩ hp
 ·omega
 rw [e]
def ZA7:pk []=(-1,1):=by simp [pk]
def Ztq (r:Bs) (h0:0<r.length) (hv:¬(Lib.decodeL r).1=65533):pk r=(((Lib.decodeL r).1:Int),(Lib.decodeL r).2):=by
 have ai:r≠[]:=fun h=>by subst h;simp at h0
 have:Lib.decodeL r≠(65533,1):=fun h=>hv (by rw [h])
 simp [pk,ai,this]
def ZwZ (r:Bs) (h0:0<r.length) (hp:Lib.hasPrefix r [239,191,189]=true) (hv:(Lib.decodeL r).1=65533):pk r=(65533,3):=by
 have ai:r≠[]:=fun h=>by subst h;simp at h0
 rcases ZFm r hv with ⟨_,h2⟩ | ⟨h1,_⟩
 ·have:Lib.decodeL r≠(65533,1):=fun h=>by rw [h] at h2;simp at h2
  simp [pk,ai,this,hv,h2]
 exact absurd hp h1
def ZA8 (r:Bs) (hp:¬Lib.hasPrefix r [239,191,189]=true) (hv:(Lib.decodeL r).1=65533):pk r=(-1,1):=by
 rcases ZFm r hv with ⟨h1,h2⟩ | ⟨_,h2⟩
 ·exact absurd h1 hp
 have:Lib.decodeL r=(65533,1):=Prod.ext hv h2;simp [pk,this]
def ZpT (r:Bs):1<=(pk r).2/\(pk r).2<=4:=by
 unfold pk
 split
 ·simp
 rename_i h
 simp only [not_or] at h;simp only;rw [Lib.decodeL_N];rcases Lib.decodeN_shape r.length (r.getD 0 0).toNat (r.getD 1 0).toNat (r.getD 2 0).toNat (r.getD 3 0).toNat with ⟨c,e⟩ | ⟨c1,c2,c3,cv,e⟩ | ⟨c1,c2,c3,c4,cv,cs,e⟩ | ⟨c1,c2,c3,c4,c5,cv,cw,e⟩ | e
 all_goals (rw [e];simp)
def Wn (r:Bs):-1<=(pk r).1/\(pk r).1<=1114111:=by
 unfold pk
 split
 ·simp
 simp only;exact mq68
def ZA9 (r:Bs) (h:(pk r).1≠-1):1<=(pk r).2/\(pk r).2<=r.length/\r≠[]:=by
 have hl:=ZpT r;unfold pk at h hl |-
 split at h
 ·exact absurd rfl h
 rename_i h1
 simp only [not_or] at h1;rw [Te (by simp only [not_or];exact h1)] at hl |-;exact ⟨hl.1,Lib.decodeL_le r h1.1,h1.1⟩
def V7 {s:Bs} {n:Nat}:cut s n s.length=s.drop n:=by simp [cut]
def Zw1:OKw w0 nG [(244,Zdq),(245,Xn)] 212 ZbL:=by
 refine pwo Tryz.func212 fun args σ K h=>?_
 unfold ZbL at h
 split at h
 ·rename_i at' t s a
  obtain ⟨⟨h0,hs⟩,h⟩:=h;refine pwv [(2,⟨[],[0,1,21],fun vs σ=>vs=[]/\σ=⟨[.cells t [.d (.str s),.d (.int .i64 a)],.iter (s.drop at'.toNat) 0],[],0⟩,fun _ _=>0⟩)] 1 false ?_;have gg:cut s (min at' (s.length:Int)).toNat s.length=s.drop at'.toNat:=by
   rw [V7]
   by_cases hl:at'<=s.length
   ·rw [Int.min_eq_left hl]
   rw [Int.min_eq_right oM,Tm oM,Tm oM]
  refine ⟨oM,wN ?_⟩;refine ⟨oM,wN ?_⟩;refine ⟨⟨rfl,?_⟩,?_⟩
  ·rw [gg];rfl
  intro vs σ1 hI
  obtain ⟨rfl,rfl⟩:=hI;refine ZGr (fun h1=>wN ?_) (fun h1=>wN ?_)
  ·refine ZGu (fun h2=>wN ?_) (fun h2=>wN ?_)
   ·rw [Zdp] at h2;have hl:0<(s.drop at'.toNat).length:=by simpa using h1
    rw [Sq] at h2;have ai:¬(Lib.decodeL (s.drop at'.toNat)).1=65533:=oM;rw [Ztq _ hl ai] at h;rw [Zdp,Sq];have hr:=Lib.runeLen_decode _ ai;rw [hr];exact h
   rw [Zdp] at h2;have hl:0<(s.drop at'.toNat).length:=by simpa using h1
   have hd:(Lib.decodeL (s.drop at'.toNat)).1=65533:=by rw [Sq] at h2;omega
   refine ⟨h0,by simp at hl;omega,wN ?_⟩;refine ZGt (fun h3=>wN ?_) (fun h3=>wN ?_)
   ·rw [V7] at h3;rw [ZwZ _ hl h3 hd] at h;rw [Zdp,Sq,hd];exact h
   rw [V7] at h3;rw [ZA8 _ (by rw [h3];simp) hd] at h;exact h
  have:s.drop at'.toNat=[]:=by simp at h1;exact Tm oM
  rw [this,ZA7] at h;exact h
 exact h.elim
def muI (B:Int):List PV->St->Nat:=fun vs _=>match vs with | .d (.int _ n)::_=>(B - n).toNat | _=>0
def Zw3:OKw w0 nG [(245,Xn),(272,X6)] 282 ZlR:=by
 refine pwo Tryz.func282 fun args σ K h=>?_
 unfold ZlR at h
 split at h
 ·rename_i t s a
  obtain ⟨⟨h0,h1,hs⟩,h⟩:=h;refine pwv [(3,⟨[16],[0,3,15],fun vs σ=>σ=⟨[.cells t [.d (.str s),.d (.int .i64 a)]],[],0⟩/\∃i:Nat,i<=5/\vs=[.d (.int .i64 i)]/\(twos.take i).any (Lib.hasPrefix (s.drop a.toNat))=false,muI 5⟩)] 1 false ?_;refine ⟨h0,oM,wN ?_⟩;rw [V7];refine ⟨⟨rfl,0,oM,rfl,rfl⟩,?_⟩;intro vs σ1 hI
  obtain ⟨rfl,i,hi,rfl,hn⟩:=hI
  match i,hi,hn with
  | 0,hi,hn =>
   conv=>whnf
   refine ⟨oM,oM,wN ?_⟩;refine ZGt (fun h2=>wN ?_) (fun h2=>wN ?_)
   ·exact mq36
   refine Zk ?_;refine ⟨⟨rfl,1,oM,rfl,?_⟩,?_⟩
   ·have dw:Lib.hasPrefix (s.drop a.toNat) (twos.getD 0 [])=false:=h2;exact mq59
   exact (show (5 - (((0:Nat):Int)+1)).toNat<(5 - ((0:Nat):Int)).toNat by omega)
  | 1,hi,hn =>
   conv=>whnf
   refine ⟨oM,oM,wN ?_⟩;refine ZGt (fun h2=>wN ?_) (fun h2=>wN ?_)
   ·exact mq36
   refine Zk ?_;refine ⟨⟨rfl,2,oM,rfl,?_⟩,?_⟩
   ·have dw:Lib.hasPrefix (s.drop a.toNat) (twos.getD 1 [])=false:=h2;exact mq59
   exact (show (5 - (((1:Nat):Int)+1)).toNat<(5 - ((1:Nat):Int)).toNat by omega)
  | 2,hi,hn =>
   conv=>whnf
   refine ⟨oM,oM,wN ?_⟩;refine ZGt (fun h2=>wN ?_) (fun h2=>wN ?_)
   ·exact mq36
   refine Zk ?_;refine ⟨⟨rfl,3,oM,rfl,?_⟩,?_⟩
   ·have dw:Lib.hasPrefix (s.drop a.toNat) (twos.getD 2 [])=false:=h2;exact mq59
   exact (show (5 - (((2:Nat):Int)+1)).toNat<(5 - ((2:Nat):Int)).toNat by omega)
  | 3,hi,hn =>
   conv=>whnf
   refine ⟨oM,oM,wN ?_⟩;refine ZGt (fun h2=>wN ?_) (fun h2=>wN ?_)
   ·exact mq36
   refine Zk ?_;refine ⟨⟨rfl,4,oM,rfl,?_⟩,?_⟩
   ·have dw:Lib.hasPrefix (s.drop a.toNat) (twos.getD 3 [])=false:=h2;exact mq59
   exact (show (5 - (((3:Nat):Int)+1)).toNat<(5 - ((3:Nat):Int)).toNat by omega)
  | 4,hi,hn =>
   conv=>whnf
   refine ⟨oM,oM,wN ?_⟩;refine ZGt (fun h2=>wN ?_) (fun h2=>wN ?_)
   ·exact mq36
   refine Zk ?_;refine ⟨⟨rfl,5,oM,rfl,?_⟩,?_⟩
   ·have dw:Lib.hasPrefix (s.drop a.toNat) (twos.getD 4 [])=false:=h2;exact mq59
   exact (show (5 - (((4:Nat):Int)+1)).toNat<(5 - ((4:Nat):Int)).toNat by omega)
  | 5,hi,hn =>
   conv=>whnf
   refine ⟨oM,sO,wN ?_⟩;refine ZGr (fun h2=>wN ?_) (fun h2=>wN ?_)
   ·have e:Yg (s.drop a.toNat)=1:=by
     have hc:ones.contains ((s.drop a.toNat).getD 0 0)=true:=by
      rw [Lib.contains_iff_indexByte];simpa [ones] using h2
     rw [Yg,Te (by simpa [twos] using hn),Ti hc]
    rw [e] at h;exact h
   have e:Yg (s.drop a.toNat)=0:=by
    have hc:ones.contains ((s.drop a.toNat).getD 0 0)=false:=by
     rw [Lib.contains_iff_indexByte];simpa [ones] using h2
    rw [Yg,Te (by simpa [twos] using hn),Te (by rw [hc];simp)]
   rw [e] at h;exact h
 exact h.elim
def ZbO:Zl (-1)=false:=dM
def Zdt:Zo (-1)=false:=dM
def ZnO {f:Nat} {r:Bs} (h1:(pk r).1=46) (h2:Zl (pk (r.drop 1)).1=true):YV (f+1) r=(pk r).2+YV f (r.drop (pk r).2):=by rw [YV,Ti h1,Ti h2]
def ZgU {f:Nat} {r:Bs} (h1:(pk r).1=46) (h2:Zl (pk (r.drop 1)).1=false):YV (f+1) r=0:=by rw [YV,Ti h1,Te (by rw [h2];simp)]
def ZiB {f:Nat} {r:Bs} (h1:¬(pk r).1=46) (h2:Zl (pk r).1=true\/Zo (pk r).1=true):YV (f+1) r=(pk r).2+YV f (r.drop (pk r).2):=by rw [YV,Te h1,Ti h2]
def ZnP {f:Nat} {r:Bs} (h1:¬(pk r).1=46) (h2:Zl (pk r).1=false) (h3:Zo (pk r).1=false):YV (f+1) r=0:=by rw [YV,Te h1,Te (by simp [h2,h3])]
def V8 {s:Bs} {a b:Nat}:cut s a b=(s.drop a).take (b - a):=by simp [cut,List.drop_take]
def Zw5:OKw w0 nG [(212,ZbL),(213,UG),(246,X7)] 214 Zix:=by
 refine pwo Tryz.func214 fun args σ K h=>?_
 unfold Zix at h
 split at h
 ·rename_i t s a
  obtain ⟨⟨h0,h1,hs⟩,h⟩:=h;obtain ⟨a,rfl⟩:∃n:Nat,a=n:=⟨a.toNat,oM⟩
  simp only [Tg] at h;refine pwu [(2,⟨[3],[0,2],fun vs σ=>σ=⟨[.cells t [.d (.str s),.d (.int .i64 a)],.cells 117 [.d (.int .u8 0),.d (.str []),.d (.int .i64 0),.d (.int .i64 0),.d (.int .i64 0)]],[],0⟩ /\
   ∃e f:Nat,a<=e/\e<=s.length/\vs=[.d (.int .i64 e)]/\s.length<e+f/\e+YV f (s.drop e)=a+Vk (s.drop a),muI s.length⟩)] 1 false ?_
  conv=>whnf
  refine ⟨⟨rfl,a,s.length - a+1,oM,oM,rfl,oM,by simp [Vk]⟩,?_⟩;intro vs σ1 hI
  obtain ⟨rfl,e,f,he1,sk,rfl,hf,hn⟩:=hI;obtain ⟨f,rfl⟩:∃g,f=g+1:=⟨f - 1,oM⟩
  have vj:=Wn (s.drop e);have eg:=ZpT (s.drop e);have zq:=ZA9 (s.drop e);have mt:=Wn (s.drop ((e:Int)+1).toNat);have ek:YV (f+1) (s.drop e)=0->K (.ret (Zae 1 (cut s a e) 0 a e)) ⟨[.cells t [.d (.str s),.d (.int .i64 a)]],[],0⟩:=fun h3=>by
   have e2:Vk (s.drop a)=e - a:=by rw [h3] at hn;omega
   rw [e2,show (a:Int)+((e - a:Nat):Int)=(e:Int) by omega,<- V8] at h;exact h
  have fy:∀n:Nat,1<=n->e+n<=s.length->YV (f+1) (s.drop e)=n+YV f ((s.drop e).drop n)->a<=e+n/\e+n<=s.length/\s.length<(e+n)+f/\(e+n)+YV f (s.drop (e+n))=a+Vk (s.drop a):=fun n h1 h2 h3=>by
   rw [TJ] at h3;exact ⟨oM,h2,oM,by rw [<- hn,h3];omega⟩
  conv=>whnf
  refine ⟨⟨oM,oM⟩,wN ?_⟩;refine ZGr (fun h2=>wN ?_) (fun h2=>wN ?_)
  ·refine Zk ?_;refine ⟨⟨oM,oM⟩,wN ?_⟩;refine ⟨⟨oM,oM⟩,wN ?_⟩;have hw:((e:Int)+1).toNat=e+1:=oM;refine ZGt (fun h3=>wN ?_) (fun h3=>wN ?_)
   ·rw [hw] at h3;refine ⟨oM,oM,oM,wN ?_⟩;exact ek (ZgU h2 (by rw [TJ];simpa using h3))
   rw [hw] at h3;have ai:(pk (s.drop e)).1≠-1:=by have:(pk (s.drop e)).1=46:=h2;omega
   obtain ⟨g1,g2,g3⟩:=zq ai;have g2':e+(pk (s.drop e)).2<=s.length:=by rw [Tz] at g2;omega
   refine Or.inl ⟨InR.i64 tN tN,wN ?_⟩;obtain ⟨k1,k2,k3,k4⟩:=fy _ g1 g2' (ZnO h2 (by rw [TJ];simpa using h3));exact mq61
  have dw:¬(pk (s.drop e)).1=46:=h2;have fin:∀(h4:Zl (pk (s.drop e)).1=true\/Zo (pk (s.drop e)).1=true),a<=e+(pk (s.drop e)).2/\e+(pk (s.drop e)).2<=s.length/\s.length<(e+(pk (s.drop e)).2)+f/\(e+(pk (s.drop e)).2)+YV f (s.drop (e+(pk (s.drop e)).2))=a+Vk (s.drop a):=fun h4=>by
   have ai:(pk (s.drop e)).1≠-1:=fun h5=>by rw [h5,ZbO,Zdt] at h4;simp at h4
   obtain ⟨g1,g2,g3⟩:=zq ai;have g2':e+(pk (s.drop e)).2<=s.length:=by rw [Tz] at g2;omega
   exact fy _ g1 g2' (ZiB dw h4)
  refine ⟨⟨vj.1,tN⟩,wN ?_⟩;refine ZGt (fun h3=>wN ?_) (fun h3=>wN ?_)
  ·have ew:Zl (pk (s.drop e)).1=false:=by simpa using h3
   refine ZGt (fun h4=>wN ?_) (fun h4=>wN ?_)
   ·have jz:Zo (pk (s.drop e)).1=false:=by simpa using h4
    refine ⟨oM,oM,oM,wN ?_⟩;exact ek (ZnP dw ew jz)
   have jz:Zo (pk (s.drop e)).1=true:=by simpa using h4
   obtain ⟨k1,k2,k3,k4⟩:=fin (.inr jz);refine Or.inl ⟨InR.i64 tN tN,wN ?_⟩;exact mq61
  have ew:Zl (pk (s.drop e)).1=true:=by simpa using h3
  obtain ⟨k1,k2,k3,k4⟩:=fin (.inl ew);refine Or.inl ⟨InR.i64 tN tN,wN ?_⟩;exact mq61
 exact h.elim
def ZFU (B:Int):List PV->St->Nat:=fun _ σ=>match σ.bx with | .cells _ (_::.d (.int _ n)::_)::_=>(B - n).toNat | _=>0
def V9 (p:UInt8->Bool):∀r:Bs,r.dropWhile p=r.drop (r.length - (r.dropWhile p).length)/\(r.dropWhile p).length<=r.length
 | []=>sM
 | x::r=>by
  have ih:=V9 p r
  by_cases hx:p x=true
  ·simp only [List.dropWhile_cons,hx,if_true,Tf];refine ⟨?_,oM⟩;rw [show r.length+1 - (r.dropWhile p).length=(r.length - (r.dropWhile p).length)+1 by omega,List.drop_succ_cons];exact ih.1
  simp [List.dropWhile_cons,hx]
def Ua (c:UInt8):∀l:Bs,Lib.indexByte l c<l.length\/Lib.indexByte l c=-1
 | []=>.inr rfl
 | b::l=>by
  have ih:=Ua c l;unfold Lib.indexByte
  split
  ·left;simp
  split
  ·exact .inr rfl
  rename_i h1 h2
  rcases ih with h | h
  ·left;simp;omega
  rw [h] at h2;simp at h2
def ZgV (p:Bs):∀l:Bs,0<=Lib.index l p->Lib.index l p+p.length<=l.length
 | [],h=>by
  unfold Lib.index at h |-
  split at h
  ·rename_i hp
   simp at hp;subst hp;simp
  omega
 | b::l,h=>by
  have ih:=ZgV p l;unfold Lib.index at h |-
  split at h
  ·rename_i hp
   have:=List.IsPrefix.length_le (List.isPrefixOf_iff_prefix.1 hp);simp only [hp,if_true];simp only [Tf] at this |-;omega
  split at h
  ·omega
  rename_i h1 h2
  have:=Lib.index_ge l p;have h3:Lib.index l p≠-1:=by simpa using h2
  simp only [h1,h2,TB,if_false];have:=ih oM;simp only [Tf];omega
def Ys {r:Bs} {a b:UInt8} (h:Lib.hasPrefix r [a,b]=true):2<=r.length/\r=a::b::r.drop 2:=by
 obtain ⟨t,rfl⟩:=List.isPrefixOf_iff_prefix.1 h;simp
def ZgW {r:Bs} {a b c:UInt8} (h:Lib.hasPrefix r [a,b]=true) (ha:a≠c) (hb:b≠c) (h0:0<=Lib.indexByte r c):2<=Lib.indexByte r c:=by
 rw [(Ys h).2] at h0 |-;have h1:(a == c)=false:=by simpa using ha
 have h2:(b == c)=false:=by simpa using hb
 have hg:=Lib.indexByte_ge (r.drop 2) c;simp only [Lib.indexByte,h1,h2,TB,if_false] at h0 |-
 by_cases hm:Lib.indexByte (r.drop 2) c=-1
 ·rw [hm] at h0;simp at h0
 have hm':(Lib.indexByte (r.drop 2) c == -1)=false:=by simpa using hm
 simp only [hm',TB,if_false] at h0 |-;have:(Lib.indexByte (r.drop 2) c+1 == -1)=false:=sO;simp only [this,TB,if_false];omega
def ZBa:∀(j:Nat) (b:UInt8),([32,9,13,10]:Bs)[j]?=some b->b.toNat<128
 | 0,b,h=>by simp at h;subst h;decide
 | 1,b,h=>by simp at h;subst h;decide
 | 2,b,h=>by simp at h;subst h;decide
 | 3,b,h=>by simp at h;subst h;decide
 | j+4,b,h=>by simp at h
def Zts:OKw w0 nG [(280,Za6),(245,Xn),(272,X6),(281,Zko)] 257 Za7:=by
 refine pwo Tryz.func257 fun args σ K h=>?_
 unfold Za7 at h
 split at h
 ·rename_i t s a
  obtain ⟨⟨h0,h1,hs⟩,h⟩:=h;obtain ⟨a,rfl⟩:∃n:Nat,a=n:=⟨a.toNat,oM⟩
  simp only [Tg] at h;refine pwu [(1,⟨[],[0],fun vs σ=>vs=[] /\
   ∃e f:Nat,σ=⟨[.cells t [.d (.str s),.d (.int .i64 e)]],[],0⟩/\a<=e/\e<=s.length/\s.length<e+f/\(ZW f (s.drop e)).1=(YP (s.drop a)).1/\e+(ZW f (s.drop e)).2=a+(YP (s.drop a)).2,ZFU s.length⟩)] 1 false ?_
  conv=>whnf
  refine ⟨⟨rfl,a,s.length - a+1,rfl,oM,oM,oM,by simp [YP],by simp [YP]⟩,?_⟩;intro vs σ1 hI
  obtain ⟨rfl,e,f,rfl,he1,sk,hf,lb,kd⟩:=hI;obtain ⟨f,rfl⟩:∃g,f=g+1:=⟨f - 1,oM⟩
  conv=>whnf
  refine ⟨oM,oM,wN ?_⟩;refine ⟨⟨dM,ZBa⟩,wN ?_⟩;generalize pq:Lib.trimLeftS (cut s _ _) _=rest;have au:Lib.trimLeftS (s.drop e) [32,9,13,10]=rest:=by rw [V7] at pq;exact pq
  have hdw:=V9 (([32,9,13,10]:Bs).contains ·) (s.drop e)
  have cq:rest=(s.drop e).drop ((s.drop e).length - rest.length):=by rw [<- au];exact hdw.1
  have fd:rest.length<=(s.drop e).length:=by rw [<- au];exact hdw.2
  rw [Tz] at fd;have vq:rest=s.drop (s.length - rest.length):=by
   rw [TJ,Tz,show e+(s.length - e - rest.length)=s.length - rest.length by omega] at cq;exact cq
  have hk:(s.drop e).length - rest.length=s.length - rest.length - e:=hD;have fy:∀n:Nat,1<=n->n<=rest.length->ZW (f+1) (s.drop e)=((ZW f (rest.drop n)).1,(s.drop e).length - rest.length+n+(ZW f (rest.drop n)).2) ->
    a<=s.length - rest.length+n/\s.length - rest.length+n<=s.length/\s.length<(s.length - rest.length+n)+f/\(ZW f (s.drop (s.length - rest.length+n))).1=(YP (s.drop a)).1/\(s.length - rest.length+n)+(ZW f (s.drop (s.length - rest.length+n))).2=a+(YP (s.drop a)).2:=fun n g1 g2 g3=>by
   have g4:rest.drop n=s.drop (s.length - rest.length+n):=by rw [<- TJ,<- vq]
   rw [g3,g4] at lb kd;simp only at lb kd;exact ⟨oM,oM,oM,lb,oM⟩
  have ek:∀b:Bool,ZW (f+1) (s.drop e)=(b,(s.drop e).length - rest.length)->K (.ret (.d (.bool b))) ⟨[.cells t [.d (.str s),.d (.int .i64 ((s.length:Int) - rest.length))]],[],0⟩:=fun b g=>by
   rw [g] at lb kd;simp only at lb kd;rw [<- lb,show (a:Int)+((YP (s.drop a)).2:Int)=(s.length:Int) - rest.length by omega] at h;exact h
  have bg1:Lib.hasPrefix rest [47,47]=true->ZW (f+1) (s.drop e)=((ZW f (rest.drop (if Lib.indexByte rest 10<0 then rest.length else (Lib.indexByte rest 10).toNat))).1,(s.drop e).length - rest.length+(if Lib.indexByte rest 10<0 then rest.length else (Lib.indexByte rest 10).toNat)+(ZW f (rest.drop (if Lib.indexByte rest 10<0 then rest.length else (Lib.indexByte rest 10).toNat))).2):=fun g=>by
   simp only [ZW,au,g,if_true]
  have bg2:Lib.hasPrefix rest [47,47]=false->Lib.hasPrefix rest [47,42]=true->Lib.index (rest.drop 2) [42,47]<0->ZW (f+1) (s.drop e)=(false,(s.drop e).length - rest.length):=fun g1 g2 g3=>by
   simp only [ZW,au,g1,g2,g3,if_true,TB,if_false]
  have bg3:Lib.hasPrefix rest [47,47]=false->Lib.hasPrefix rest [47,42]=true->¬Lib.index (rest.drop 2) [42,47]<0->ZW (f+1) (s.drop e)=((ZW f (rest.drop ((Lib.index (rest.drop 2) [42,47]).toNat+4))).1,(s.drop e).length - rest.length+((Lib.index (rest.drop 2) [42,47]).toNat+4)+(ZW f (rest.drop ((Lib.index (rest.drop 2) [42,47]).toNat+4))).2):=fun g1 g2 g3=>by
   simp only [ZW,au,g1,g2,g3,if_true,TB,if_false]
  have bg4:Lib.hasPrefix rest [47,47]=false->Lib.hasPrefix rest [47,42]=false->ZW (f+1) (s.drop e)=(true,(s.drop e).length - rest.length):=fun g1 g2=>by
   simp only [ZW,au,g1,g2,TB,if_false]
  refine Zk ?_;refine ZGt (fun h2=>wN ?_) (fun h2=>wN ?_)
  ·have dw:Lib.hasPrefix rest [47,47]=true:=h2;have s4:=(Ys dw).1;have bg:=bg1 dw;have ey:=Lib.indexByte_ge rest 10;have aa:=Ua 10 rest;have h22:=ZgW (c:=10) dw dM dM;refine ZGr (fun h3=>wN ?_) (fun h3=>wN ?_)
   ·have ew:Lib.indexByte rest 10<0:=h3;simp only [ew,if_true] at bg;refine Zk ?_;obtain ⟨k1,k2,k3,k4,k5⟩:=fy _ oM oM bg;refine ⟨⟨rfl,_,f,?_,k1,k2,k3,k4,k5⟩,?_⟩
    ·rw [show (s.length:Int) - (rest.length:Int)+(rest.length:Int)=((s.length - rest.length+rest.length:Nat):Int) by omega];rfl
    exact (show ((s.length:Int) - ((s.length:Int) - (rest.length:Int)+(rest.length:Int))).toNat<((s.length:Int) - (e:Int)).toNat by omega)
   have ew:¬Lib.indexByte rest 10<0:=h3;simp only [ew,if_false] at bg;obtain ⟨n,hn⟩:∃n:Nat,Lib.indexByte rest 10=n:=⟨(Lib.indexByte rest 10).toNat,oM⟩
   have qi:Lib.indexByte rest ((10:Int).toNat.toUInt8)=n:=hn;rw [qi];rw [hn] at h22 aa;rw [hn,Tg] at bg;refine Zk ?_;obtain ⟨k1,k2,k3,k4,k5⟩:=fy _ oM oM bg;refine ⟨⟨rfl,_,f,?_,k1,k2,k3,k4,k5⟩,?_⟩
   ·rw [show (s.length:Int) - (rest.length:Int)+(n:Int)=((s.length - rest.length+n:Nat):Int) by omega];rfl
   exact (show ((s.length:Int) - ((s.length:Int) - (rest.length:Int)+(n:Int))).toNat<((s.length:Int) - (e:Int)).toNat by omega)
  have dw:Lib.hasPrefix rest [47,47]=false:=h2;refine ZGt (fun h3=>wN ?_) (fun h3=>wN ?_)
  ·have ew:Lib.hasPrefix rest [47,42]=true:=h3;have s4:=(Ys ew).1;refine ⟨oM,oM,wN ?_⟩;rw [V7];have jw:(rest.drop 2).length=rest.length - 2:=sM;refine ⟨by have:(rest.drop ((2:Int).toNat)).length=rest.length - 2:=jw;omega,wN ?_⟩;have ey:=Lib.index_ge (rest.drop 2) [42,47];have aw:=ZgV [42,47] (rest.drop 2);simp only [Tf,Tj,jw] at aw;refine ZGr (fun h4=>wN ?_) (fun h4=>wN ?_)
   ·exact ek _ (bg2 dw ew h4)
   have jz:¬Lib.index (rest.drop 2) [42,47]<0:=h4;have bg:=bg3 dw ew jz;obtain ⟨n,hn⟩:∃n:Nat,Lib.index (rest.drop 2) [42,47]=n:=⟨(Lib.index (rest.drop 2) [42,47]).toNat,oM⟩
   generalize hi:Lib.index _ _=i;have gu:i=n:=by rw [<- hi];exact hn
   subst gu;rw [hn] at aw;rw [hn,Tg] at bg;refine Zk ?_;refine Zk ?_;obtain ⟨k1,k2,k3,k4,k5⟩:=fy _ oM oM bg;refine ⟨⟨rfl,_,f,?_,k1,k2,k3,k4,k5⟩,?_⟩
   ·rw [show (s.length:Int) - (rest.length:Int)+((n:Int)+4)=((s.length - rest.length+(n+4):Nat):Int) by omega];rfl
   exact (show ((s.length:Int) - ((s.length:Int) - (rest.length:Int)+((n:Int)+4))).toNat<((s.length:Int) - (e:Int)).toNat by omega)
  exact ek _ (bg4 dw h3)
 exact h.elim
def orU (n:Fin 256):Zi .or .u8 (n.val:Int) 32=((n.val ||| 32:Nat):Int):=by rw [Yu];revert n;decide +kernel
def orH:∀n:Fin 256,(97<=(n.val ||| 32)/\(n.val ||| 32)<=102)↔((97<=n.val/\n.val<=102)\/(65<=n.val/\n.val<=70)):=by decide +kernel
def ZBb (b:UInt8):(97<=Zi .or .u8 (b.toNat:Int) 32/\Zi .or .u8 (b.toNat:Int) 32<=102)↔((97<=b.toNat/\b.toNat<=102)\/(65<=b.toNat/\b.toNat<=70)):=by
 have h2:=orU ⟨b.toNat,b.toNat_lt⟩;have h3:=orH ⟨b.toNat,b.toNat_lt⟩;simp only at h2 h3;rw [h2];omega
def Wz (p:UInt8->Bool):∀l:Bs,l.takeWhile p=l.take (l.takeWhile p).length
 | []=>rfl
 | x::l=>by
  by_cases h:p x=true
  ·simp only [T9,h,if_true,Tf,List.take_succ_cons];rw [<- Wz p l]
  simp [T9,h]
def Vq (p:UInt8->Bool):∀l:Bs,(l.takeWhile p).all p=true
 | []=>rfl
 | x::l=>by
  by_cases h:p x=true
  ·simp only [T9,h,if_true,List.all_cons,Vq p l,Bool.and_self]
  simp [T9,h]
def Ub (p:UInt8->Bool) (l:Bs):(l.takeWhile p).length<=l.length:=List.Sublist.length_le (List.takeWhile_sublist p)
def Uc {s:Bs} {e:Nat} (h:e<s.length):s.drop e=s.getD e 0::s.drop (e+1):=by
 rw [Tk h];simp [List.getD,h]
def ZpV:OKw w0 nG [(245,Xn),(246,X7),(300,Jz),(212,ZbL),(213,UG)] 284 Zct:=by
 refine pwo Tryz.func284 fun args σ K h=>?_
 unfold Zct at h
 split at h
 ·rename_i t s a
  obtain ⟨⟨h0,h1,hs⟩,h⟩:=h;obtain ⟨a,rfl⟩:∃n:Nat,a=n:=⟨a.toNat,oM⟩
  simp only [Tg] at h;refine pwu [(5,⟨[5],[0,2,3,4,6],fun vs σ=>σ=⟨[.cells t [.d (.str s),.d (.int .i64 a)],.cells 117 [.d (.int .u8 0),.d (.str []),.d (.int .i64 0),.d (.int .i64 0),.d (.int .i64 0)],.cells 287 [.d (.int .i64 0),.d (.int .i64 0)]],[],0⟩ /\
   ∃e:Nat,vs=[.d (.int .i64 e)]/\a+(if WV (s.drop a) then 2 else 0)<=e/\e<=s.length/\e - (a+(if WV (s.drop a) then 2 else 0))+((s.drop e).takeWhile (XR (WV (s.drop a)))).length=(Zd (s.drop a)).length,muI s.length⟩)] 1 false ?_
  have dq:Z0 (s.drop a)=none->K (.ret (.tuple [Zae 0 [] 0 0 0,Ziw a 142])) ⟨[.cells t [.d (.str s),.d (.int .i64 a)]],[],0⟩:=fun g=>by
   have e1:Wy a (s.drop a)=.bad a 142:=by rw [Wy,g]
   rw [e1] at h;exact h
  have d7:∀n:Nat,Z0 (s.drop a)=some n->K (.ret (.tuple [Zae 2 [] (IntKind.i64.wrap n) a ((a+ZH (s.drop a):Nat):Int),Ziw 0 0])) ⟨[.cells t [.d (.str s),.d (.int .i64 a)]],[],0⟩:=fun n g=>by
   have e1:Wy a (s.drop a)=.tok ⟨2,[],IntKind.i64.wrap n,a,a+ZH (s.drop a)⟩:=by rw [Wy,g]
   rw [e1] at h;exact h
  conv=>whnf
  refine ⟨oM,oM,wN ?_⟩;rw [V7];refine ZGt (fun hx=>?_) (fun hx=>?_)
  ·have ig:WV (s.drop a)=true:=hx;simp only [ig,if_true,TB,if_false];have i6:Zd (s.drop a)=(s.drop (a+2)).takeWhile (XR true):=by simp [Zd,ig,TJ]
   have zj:ZH (s.drop a)=2+(Zd (s.drop a)).length:=by simp [ZH,ig]
   have dg:=(Ys hx).1;rw [Tz] at dg;(conv=>whnf);refine Zk ?_;refine ⟨⟨rfl,(a+2),rfl,oM,oM,by rw [i6];simp⟩,?_⟩;intro vs σ1 hI
   obtain ⟨rfl,e,rfl,he1,sk,hn⟩:=hI;have gd:∀(g:((s.drop e).takeWhile (XR true)).length=0),e=a+ZH (s.drop a)/\Zd (s.drop a)=cut s (a+2) e:=fun g=>by
    rw [g] at hn;refine ⟨oM,?_⟩;rw [V8,show e - (a+2)=(Zd (s.drop a)).length by omega,i6];exact Wz _ _
   have co:(Zd (s.drop a)).all (XR true)=true:=by rw [i6];exact Vq _ _
   have zt:(Zd (s.drop a)).length<=s.length:=by
    rw [i6];have:=Ub (XR true) (s.drop (a+2));rw [Tz] at this;omega
   conv=>whnf
   refine ZGr (fun h2=>wN ?_) (fun h2=>wN ?_)
   ·have dw:e<s.length:=by omega
    have i7:=Uc dw;have hb:=(s.getD e 0).toNat_lt;have bc:XR true (s.getD e 0)=true->e+1 - (a+2)+((s.drop (e+1)).takeWhile (XR true)).length=(Zd (s.drop a)).length:=fun g=>by
     rw [<- hn,i7,T9,Ti g,Tf];omega
    have mw:XR true (s.getD e 0)=false->((s.drop e).takeWhile (XR true)).length=0:=fun g=>by
     rw [i7,T9,Te (by rw [g];simp)];rfl
    refine ⟨oM,oM,wN ?_⟩;refine Or.inl ⟨InR.i32 oM tN,wN ?_⟩;refine ZGt (fun h3=>wN ?_) (fun h3=>wN ?_)
    ·exact mq77
    have ew:Zo ((s.getD e 0).toNat:Int)=false:=h3;have hoh:=ZBb (s.getD e 0);refine ZGr (fun h4=>wN ?_) (fun h4=>wN ?_)
    ·refine ZGr (fun h5=>wN ?_) (fun h5=>wN ?_)
     ·have hd:XR true (s.getD e 0)=true:=by
       have:=hoh.1 ⟨h4,h5⟩;simp only [XR,ew,Bool.false_or,Sf,TH];omega
      refine Zk ?_;refine ⟨⟨rfl,e+1,rfl,oM,oM,bc hd⟩,?_⟩;exact (show ((s.length:Int) - ((e:Int)+1)).toNat<((s.length:Int) - (e:Int)).toNat by omega)
     have hd:XR true (s.getD e 0)=false:=by
      have:¬((97<=(s.getD e 0).toNat/\(s.getD e 0).toNat<=102)\/(65<=(s.getD e 0).toNat/\(s.getD e 0).toNat<=70)):=fun g=>h5 (hoh.2 g).2
      simp only [XR,ew,Bool.false_or,Sf,decide_eq_false_iff_not];exact this
     have hst:=gd (mw hd);exact mq2
    have hd:XR true (s.getD e 0)=false:=by
     have:¬((97<=(s.getD e 0).toNat/\(s.getD e 0).toNat<=102)\/(65<=(s.getD e 0).toNat/\(s.getD e 0).toNat<=70)):=fun g=>h4 (hoh.2 g).1
     simp only [XR,ew,Bool.false_or,Sf,decide_eq_false_iff_not];exact this
    have hst:=gd (mw hd);exact mq2
   have fe:((s.drop e).takeWhile (XR true)).length=0:=by rw [Tm oM];rfl
   have hst:=gd (fe);exact mq2
  have ig:WV (s.drop a)=false:=hx;simp only [ig,if_true,TB,if_false];have i6:Zd (s.drop a)=(s.drop (a+0)).takeWhile (XR false):=by simp [Zd,ig,TJ]
  have zj:ZH (s.drop a)=0+(Zd (s.drop a)).length:=by simp [ZH,ig]
  conv=>whnf
  refine ⟨⟨rfl,a,rfl,oM,oM,by rw [i6];simp⟩,?_⟩;intro vs σ1 hI
  obtain ⟨rfl,e,rfl,he1,sk,hn⟩:=hI;have gd:∀(g:((s.drop e).takeWhile (XR false)).length=0),e=a+ZH (s.drop a)/\Zd (s.drop a)=cut s (a+0) e:=fun g=>by
   rw [g] at hn;refine ⟨oM,?_⟩;rw [V8,show e - (a+0)=(Zd (s.drop a)).length by omega,i6];exact Wz _ _
  have co:(Zd (s.drop a)).all (XR false)=true:=by rw [i6];exact Vq _ _
  have zt:(Zd (s.drop a)).length<=s.length:=by
   rw [i6];have:=Ub (XR false) (s.drop (a+0));rw [Tz] at this;omega
  conv=>whnf
  refine ZGr (fun h2=>wN ?_) (fun h2=>wN ?_)
  ·have dw:e<s.length:=by omega
   have i7:=Uc dw;have hb:=(s.getD e 0).toNat_lt;have bc:XR false (s.getD e 0)=true->e+1 - (a+0)+((s.drop (e+1)).takeWhile (XR false)).length=(Zd (s.drop a)).length:=fun g=>by
    rw [<- hn,i7,T9,Ti g,Tf];omega
   have mw:XR false (s.getD e 0)=false->((s.drop e).takeWhile (XR false)).length=0:=fun g=>by
    rw [i7,T9,Te (by rw [g];simp)];rfl
   refine ⟨oM,oM,wN ?_⟩;refine Or.inl ⟨InR.i32 oM tN,wN ?_⟩;refine ZGt (fun h3=>wN ?_) (fun h3=>wN ?_)
   ·exact mq77
   have ew:Zo ((s.getD e 0).toNat:Int)=false:=h3;have hd:XR false (s.getD e 0)=false:=by simp only [XR,ew,Sa,Sm]
   have hst:=gd (mw hd);(conv=>whnf);exact mq5
  have fe:((s.drop e).takeWhile (XR false)).length=0:=by rw [Tm oM];rfl
  have hst:=gd (fe);exact mq5
 exact h.elim
structure GlobOK (w0:World) (nG:Nat):Prop where
 big:7<nG
 maxLen:∃m,w0.cell? ⟨2,0,none⟩=some (.int .i64 m)
 errSyntax:∃ev,w0.cell? ⟨6,0,none⟩=some ev/\(ev=.nilIface\/∃te pe,ev=.iface te pe)
 errRange:∃ev,w0.cell? ⟨7,0,none⟩=some ev/\(ev=.nilIface\/∃te pe,ev=.iface te pe)
def ZnQ:Zh:=fun args σ K=>match args with
 | [.d (.str _),.d (.str s)]=>s.length<4294967281/\K (.ret .undef) σ
 | _=>False
def ZiC {e:Env} {σ:St} {w:World} {k:Nat} {u:Value} (hS:SRel (GG w0 nG) e σ w) (hk:k<nG) (h:w0.cell? ⟨k,0,none⟩=some u):w.cell? ⟨k,0,none⟩=some u:=by
 have:=hS.glob k hk;simpa [World.cell?,this] using h
def ZeS (hg:GlobOK w0 nG):PC w0 nG 323 ZnQ where
 enters:=Zf Tryz.func323 kR rfl
 calls:=fun args σ K hs n e w vs hS ha=>by
  unfold ZnQ at hs
  split at hs
  ·rename_i fn s
   obtain ⟨hl,hK⟩:=hs;obtain ⟨u,v,rfl,hu,hv⟩:=ZgS ha
   cases hu.dstr;cases hv.dstr
   obtain ⟨ev,h1,h2⟩:=hg.errSyntax;refine CallsIn.mono (callsIn_wide.2 (Tryz.strconv_syntaxError _ _ ev w (show s.toArray.size<=_ by simp;omega) (ZiC hS (by have:=hg.big;omega) h1) h2)) fun en w' ⟨N,h3,_,_,h4⟩=>?_
   exact mq123
  exact hs.elim
def ZgX (hg:GlobOK w0 nG):PC w0 nG 324 ZnQ where
 enters:=Zf Tryz.func324 kR rfl
 calls:=fun args σ K hs n e w vs hS ha=>by
  unfold ZnQ at hs
  split at hs
  ·rename_i fn s
   obtain ⟨hl,hK⟩:=hs;obtain ⟨u,v,rfl,hu,hv⟩:=ZgS ha
   cases hu.dstr;cases hv.dstr
   obtain ⟨ev,h1,h2⟩:=hg.errRange;refine CallsIn.mono (callsIn_wide.2 (Tryz.strconv_rangeError _ _ ev w (show s.toArray.size<=_ by simp;omega) (ZiC hS (by have:=hg.big;omega) h1) h2)) fun en w' ⟨N,h3,_,_,h4⟩=>?_
   exact mq123
  exact hs.elim
def Zdu:Zh:=fun args σ K=>match args,σ with
 | [.d (.str _),.d (.str s),.d (.int .i64 _),.d (.int .i64 _),.iface 359 (.d (.int .i64 c))],⟨[],[],0⟩=>((c=1\/c=2)/\s.length<4294967281)/\K (.ret (.iface 361 .undef)) ⟨[],[],0⟩
 | _,_=>False
def ZD3:Tbl:=[(323,ZnQ),(324,ZnQ)]
def ZnR (hg:GlobOK w0 nG):PC w0 nG 314 Zdu:=by
 refine pwt (tbl:=ZD3) ⟨ZeS hg,ZgX hg,trivial⟩ Tryz.func314 fun args σ K h=>?_
 unfold Zdu at h
 split at h
 ·rename_i fn s b0 b1 c
  obtain ⟨⟨hc,hl⟩,h⟩:=h;refine pwu [] 0 false ?_;rcases hc with rfl | rfl
  ·conv=>whnf
   refine ⟨hl,wN ?_⟩;exact h
  conv=>whnf
  refine ⟨hl,wN ?_⟩;exact h
 exact h.elim
def Zks:Zh:=fun args σ K=>match args,σ with
 | [.d (.int .u8 c)],⟨[],[],0⟩=>K (.ret (.d (.int .u8 (Zi .or .u8 c 32)))) ⟨[],[],0⟩
 | _,_=>False
def Ztt:PC w0 nG 321 Zks:=by
 refine pwe Tryz.func321 fun args σ K h=>?_
 unfold Zks at h
 split at h
 ·refine pwv [] 0 false ?_;exact h
 exact h.elim
def lowV:∀n:Fin 256,XR true (UInt8.ofNat n.val)=true->¬(48<=n.val/\n.val<=57)->Zi .or .u8 (n.val:Int) 32=ZgQ (UInt8.ofNat n.val)+87/\10<=ZgQ (UInt8.ofNat n.val)/\ZgQ (UInt8.ofNat n.val)<=15:=by rw [Yu];decide +kernel
def ZiD {b:UInt8} (h:XR true b=true) (hn:¬(48<=b.toNat/\b.toNat<=57)):Zi .or .u8 (b.toNat:Int) 32=ZgQ b+87/\10<=ZgQ b/\ZgQ b<=15:=by
 have:=lowV ⟨b.toNat,b.toNat_lt⟩;simp only [UInt8.ofNat_toNat] at this;exact this h hn
def ZiE (B:Nat) (l:Bs) (b:UInt8):Wf B (l++[b])=Wf B l * B+ZgQ b:=by simp [Wf,T7]
def ZiF {l:Bs} {i:Nat} (h:i<l.length):l.take (i+1)=l.take i++[l.getD i 0]:=by
 rw [List.take_succ,Ta h];simp [List.getD,h]
def ZlT (B:Nat) (hB:1<=B):∀(l:Bs) (n:Nat),n<=l.foldl (fun n b=>n * B+ZgQ b) n
 | [],n=>Tt _
 | b::l,n=>by
  have:=ZlT B hB l (n * B+ZgQ b);have h2:n<=n * B:=Nat.le_mul_of_pos_right n hB;simp only [SI];omega
def ZbP (B:Nat) (hB:1<=B) (l:Bs) (i:Nat):Wf B (l.take i)<=Wf B l:=by
 conv=>rhs;rw [<- Sd i l]
 unfold Wf
 rw [T7];exact ZlT B hB _ _
def ZD4:Zh:=fun args σ K=>match args,σ with
 | [.d (.str l),.d (.int .i64 base),.d (.int .i64 bits)],⟨[],[],0⟩=>∃ge:Bool,((l.all (XR ge)=true/\l.length<4294967281)/\base=(if ge then 16 else 10)/\bits=(if ge then 64 else 63)) /\
   (l=[]->K (.ret (.tuple [.d (.int .u64 0),.iface 359 (.d (.int .i64 2))])) ⟨[],[],0⟩) /\
   (l≠[]->(if ge then 18446744073709551616 else 9223372036854775808)<=Wf (if ge then 16 else 10) l->K (.ret (.tuple [.d (.int .u64 (if ge then 18446744073709551615 else 9223372036854775807)),.iface 359 (.d (.int .i64 1))])) ⟨[],[],0⟩) /\
   (l≠[]->¬(if ge then 18446744073709551616 else 9223372036854775808)<=Wf (if ge then 16 else 10) l->K (.ret (.tuple [.d (.int .u64 (Wf (if ge then 16 else 10) l)),.d .nili])) ⟨[],[],0⟩)
 | _,_=>False
def ZD5:Tbl:=[(321,Zks)]
def ZD6:PC w0 nG 313 ZD4:=by
 refine pwt (tbl:=ZD5) ⟨Ztt,trivial⟩ Tryz.func313 fun args σ K h=>?_
 unfold ZD4 at h
 split at h
 ·rename_i l base bits
  obtain ⟨ge,⟨⟨co,hl⟩,rfl,rfl⟩,fh,my,d7⟩:=h;have hml:((l.map fun b=>[D.int .u8 (b.toNat:Int)]:List (List D))).length=l.length:=sM
  cases ge with
  | true =>
   simp only [if_true,TB,if_false] at my d7 |-;refine ⟨Zg [(36,⟨[101,13,12],[0,1,8,10,11,99,100],fun vs σ=>σ=⟨[],[],0⟩/\∃i:Nat,vs=[.d (.int .i64 i),.d (.int .u64 (Wf 16 (l.take i))),.d (.bool false)]/\i<=l.length/\Wf 16 (l.take i)<18446744073709551616,muI l.length⟩)],0,false,sM,Tb rfl,wN ?_⟩;refine ZGr (fun h0=>wN ?_) (fun h0=>wN ?_)
   ·exact fh h0
   have ai:l≠[]:=h0;have s5:=my ai;have ni:=d7 ai;refine ZaN ?_;refine ⟨dM,Or.inr ?_⟩;rw [show IntKind.u64.wrap (1 * 2 ^ min (Int.toNat 64) IntKind.u64.bits)=0 from dM];(conv=>whnf);refine Or.inr ?_;rw [show IntKind.u64.wrap (0 - 1)=18446744073709551615 from dM];(conv=>whnf);refine ⟨⟨rfl,0,rfl,oM,by simp [Wf]⟩,?_⟩;intro vs σ1 hI
   obtain ⟨rfl,i,rfl,hi,hN⟩:=hI;have aw:=ZbP 16 oM l;have bc:=fun h:i<l.length=>ZiE 16 (l.take i) (l.getD i 0)
   generalize hNN:Wf 16 (l.take i)=N at hN bc |-;(conv=>whnf);refine ZGr (fun h2=>?_) (fun h2=>wN ?_)
   ·have dw:i<l.length:=by simpa using h2
    have cj:(l.map fun b=>[D.int .u8 (b.toNat:Int)])[((i:Int)).toNat]?=some [D.int .u8 ((l.getD i 0).toNat:Int)]:=by
     rw [Tg,Th,Ta dw];simp [List.getD,dw]
    have hd:XR true (l.getD i 0)=true:=Tn.1 co _ (by rw [T8,Ta dw];exact TA dw);have hs:=bc dw;rw [<- ZiF dw] at hs;have cf:=aw (i+1);have hb:=(l.getD i 0).toNat_lt;generalize lu:l.getD i 0=b at cj hd hs hb;(conv=>whnf);refine ⟨_,oM,cj,wN ?_⟩;refine ZGr (fun h3=>?_) (fun h3=>wN ?_)
    ·have ew:b.toNat=95:=by omega
     simp [XR,Zo,ew] at hd
    refine ZGr (fun h4=>wN ?_) (fun h4=>?_)
    ·refine ZGr (fun h5=>wN ?_) (fun h5=>?_)
     ·refine WU ?_;have hD:(ZgQ b:Int)=(b.toNat:Int) - 48:=by unfold ZgQ;rw [Ti oM];omega
      refine WU ?_;refine ZGr (fun h6=>?_) (fun h6=>wN ?_)
      ·omega
      refine ZGr (fun h7=>wN ?_) (fun h7=>wN ?_)
      ·exact s5 oM
      refine ZaN ?_;refine ZaN ?_;refine ZaN ?_
      by_cases dm:(N:Int) * 16+((b.toNat:Int) - 48)<=18446744073709551615
      ·refine ZaN ?_;refine ZGr (fun h8=>?_) (fun h8=>wN ?_)
       ·omega
       refine ZGr (fun h9=>wN ?_) (fun h9=>wN ?_)
       ·exact s5 oM
       refine Zk ?_;refine ⟨⟨rfl,i+1,?_,oM,oM⟩,?_⟩
       ·have e:((Wf 16 (l.take (i+1)):Nat):Int)=(N:Int) * 16+((b.toNat:Int) - 48):=by omega
        rw [e];rfl
       exact mq172
      have hw:IntKind.u64.wrap ((N:Int) * 16+((b.toNat:Int) - 48))=(N:Int) * 16+((b.toNat:Int) - 48) - 18446744073709551616:=by
       exact mq63
      exact mq58
     skip
     exact mq10
    skip
    exact mq10
   exact mq124
  | false =>
  simp only [if_true,TB,if_false] at my d7 |-;refine ⟨Zg [(36,⟨[101,13,12],[0,1,8,10,11,99,100],fun vs σ=>σ=⟨[],[],0⟩/\∃i:Nat,vs=[.d (.int .i64 i),.d (.int .u64 (Wf 10 (l.take i))),.d (.bool false)]/\i<=l.length/\Wf 10 (l.take i)<9223372036854775808,muI l.length⟩)],0,false,sM,Tb rfl,wN ?_⟩;refine ZGr (fun h0=>wN ?_) (fun h0=>wN ?_)
  ·exact fh h0
  have ai:l≠[]:=h0;have s5:=my ai;have ni:=d7 ai;refine ZaN ?_;refine ⟨dM,Or.inr ?_⟩;rw [show IntKind.u64.wrap (1 * 2 ^ min (Int.toNat 63) IntKind.u64.bits)=9223372036854775808 from dM];(conv=>whnf);refine Or.inr ?_;rw [show IntKind.u64.wrap (9223372036854775808 - 1)=9223372036854775807 from dM];(conv=>whnf);refine ⟨⟨rfl,0,rfl,oM,by simp [Wf]⟩,?_⟩;intro vs σ1 hI
  obtain ⟨rfl,i,rfl,hi,hN⟩:=hI;have aw:=ZbP 10 oM l;have bc:=fun h:i<l.length=>ZiE 10 (l.take i) (l.getD i 0)
  generalize hNN:Wf 10 (l.take i)=N at hN bc |-;(conv=>whnf);refine ZGr (fun h2=>?_) (fun h2=>wN ?_)
  ·have dw:i<l.length:=by simpa using h2
   have cj:(l.map fun b=>[D.int .u8 (b.toNat:Int)])[((i:Int)).toNat]?=some [D.int .u8 ((l.getD i 0).toNat:Int)]:=by
    rw [Tg,Th,Ta dw];simp [List.getD,dw]
   have hd:XR false (l.getD i 0)=true:=Tn.1 co _ (by rw [T8,Ta dw];exact TA dw);have hs:=bc dw;rw [<- ZiF dw] at hs;have cf:=aw (i+1);have hb:=(l.getD i 0).toNat_lt;generalize lu:l.getD i 0=b at cj hd hs hb;(conv=>whnf);refine ⟨_,oM,cj,wN ?_⟩;refine ZGr (fun h3=>?_) (fun h3=>wN ?_)
   ·have ew:b.toNat=95:=by omega
    simp [XR,Zo,ew] at hd
   have hd':48<=b.toNat/\b.toNat<=57:=by
    simp only [XR,Sa,Sm,Zo,TH] at hd;omega
   refine ZGr (fun h4=>wN ?_) (fun h4=>?_)
   ·refine ZGr (fun h5=>wN ?_) (fun h5=>?_)
    ·refine WU ?_;have hD:(ZgQ b:Int)=(b.toNat:Int) - 48:=by unfold ZgQ;rw [Ti oM];omega
     refine WU ?_;refine ZGr (fun h6=>?_) (fun h6=>wN ?_)
     ·omega
     refine ZGr (fun h7=>wN ?_) (fun h7=>wN ?_)
     ·exact s5 oM
     refine ZaN ?_;refine ZaN ?_;refine ZaN ?_
     by_cases dm:(N:Int) * 10+((b.toNat:Int) - 48)<=18446744073709551615
     ·refine ZaN ?_;refine ZGr (fun h8=>?_) (fun h8=>wN ?_)
      ·omega
      refine ZGr (fun h9=>wN ?_) (fun h9=>wN ?_)
      ·exact s5 oM
      refine Zk ?_;refine ⟨⟨rfl,i+1,?_,oM,oM⟩,?_⟩
      ·have e:((Wf 10 (l.take (i+1)):Nat):Int)=(N:Int) * 10+((b.toNat:Int) - 48):=by omega
       rw [e];rfl
      exact mq172
     have hw:IntKind.u64.wrap ((N:Int) * 10+((b.toNat:Int) - 48))=(N:Int) * 10+((b.toNat:Int) - 48) - 18446744073709551616:=by
      exact mq63
     exact mq58
    omega
   omega
  exact mq124
 exact h.elim
def Zw6:∀n:Fin 64,Zi .or .u8 128 (n.val:Int)=128+n.val:=by rw [Yu];decide +kernel
def Zw7:∀n:Fin 32,Zi .or .u8 192 (n.val:Int)=192+n.val:=by rw [Yu];decide +kernel
def Zw8:∀n:Fin 16,Zi .or .u8 224 (n.val:Int)=224+n.val:=by rw [Yu];decide +kernel
def Zw9:∀n:Fin 8,Zi .or .u8 240 (n.val:Int)=240+n.val:=by rw [Yu];decide +kernel
def Zxa:∀n:Fin 256,Zi .and .u8 (n.val:Int) 63=n.val % 64:=by rw [Yu];decide +kernel
def ZvY {x:Int} (h0:0<=x) (h1:x<64):Zi .or .u8 128 x=128+x:=by obtain ⟨n,rfl⟩:∃n:Nat,x=n:=⟨x.toNat,oM⟩;exact Zw6 ⟨n,oM⟩
def ZFV {x:Int} (h0:0<=x) (h1:x<32):Zi .or .u8 192 x=192+x:=by obtain ⟨n,rfl⟩:∃n:Nat,x=n:=⟨x.toNat,oM⟩;exact Zw7 ⟨n,oM⟩
def ZFn {x:Int} (h0:0<=x) (h1:x<16):Zi .or .u8 224 x=224+x:=by obtain ⟨n,rfl⟩:∃n:Nat,x=n:=⟨x.toNat,oM⟩;exact Zw8 ⟨n,oM⟩
def ZFW {x:Int} (h0:0<=x) (h1:x<8):Zi .or .u8 240 x=240+x:=by obtain ⟨n,rfl⟩:∃n:Nat,x=n:=⟨x.toNat,oM⟩;exact Zw9 ⟨n,oM⟩
def a63 {x:Int} (h0:0<=x) (h1:x<256):Zi .and .u8 x 63=x % 64:=by obtain ⟨n,rfl⟩:∃n:Nat,x=n:=⟨x.toNat,oM⟩;rw [Zxa ⟨n,oM⟩]
def wu8 (n:Int):IntKind.u8.wrap n=n % 256:=by simp [IntKind.wrap,IntKind.bits,IntKind.signed]
def XV (c:Int):Zm (Lib.encodeRune c)=(Lib.encodeRuneZ c).map fun x=>[D.int .u8 x]:=by
 have h:=Lib.encodeRuneZ_byte c;unfold Lib.encodeRune Zm
 rw [Sj];refine Su fun x hx=>?_
 have:=h x hx;simp [UInt8.toNat_ofNat'];omega
def Ud:Zh:=fun args σ K=>match args,σ with
 | [.sl 0 e rows,.d (.int .i32 c)],⟨[],[0],1⟩=>(e=5/\(∀r∈rows,r.length=1)/\rows.length<70368744177664/\0<=c/\c<=1114111)/\K (.ret (.sl 0 5 (rows++Zm (Lib.encodeRune c)))) ⟨[],[0],1⟩
 | _,_=>False
def Vr:Zh:=fun args σ K=>match args,σ with
 | [.sl 0 e rows,.d (.int .i32 c)],⟨[],[0],1⟩=>(e=5/\(∀r∈rows,r.length=1)/\rows.length<70368744177664/\128<=c/\c<=1114111)/\K (.ret (.sl 0 5 (rows++Zm (Lib.encodeRune c)))) ⟨[],[0],1⟩
 | _,_=>False
def ZeT:PC w0 nG 290 Vr:=by
 refine pwe Tryz.func290 fun args σ K h=>?_
 unfold Vr at h
 split at h
 ·rename_i e rows c
  obtain ⟨⟨rfl,cq,s4,ik,dv⟩,h⟩:=h;refine pwv [] 0 true ?_;have e6:c.fdiv (2 ^ min (Int.toNat 6) IntKind.i32.bits)=c / 64:=by rw [show (2:Int) ^ min (Int.toNat 6) IntKind.i32.bits=64 by decide];exact Int.fdiv_eq_ediv_of_nonneg _ oM
  have e12:c.fdiv (2 ^ min (Int.toNat 12) IntKind.i32.bits)=c / 4096:=by rw [show (2:Int) ^ min (Int.toNat 12) IntKind.i32.bits=4096 by decide];exact Int.fdiv_eq_ediv_of_nonneg _ oM
  have e18:c.fdiv (2 ^ min (Int.toNat 18) IntKind.i32.bits)=c / 262144:=by rw [show (2:Int) ^ min (Int.toNat 18) IntKind.i32.bits=262144 by decide];exact Int.fdiv_eq_ediv_of_nonneg _ oM
  refine Or.inl ⟨InR.u32 oM oM,wN ?_⟩;refine ZGr (fun h1=>?_) (fun h1=>wN ?_)
  ·skip
   have g:K (.ret (.sl 0 5 (rows++[[D.int .u8 (Zi .or .u8 192 (IntKind.u8.wrap (c.fdiv (2 ^ min (Int.toNat 6) IntKind.i32.bits))))],[D.int .u8 (Zi .or .u8 128 (Zi .and .u8 (IntKind.u8.wrap (c)) 63))]]))) ⟨[],[0],1⟩:=by
    have e:Zm (Lib.encodeRune c)=[[D.int .u8 (Zi .or .u8 192 (IntKind.u8.wrap (c.fdiv (2 ^ min (Int.toNat 6) IntKind.i32.bits))))],[D.int .u8 (Zi .or .u8 128 (Zi .and .u8 (IntKind.u8.wrap (c)) 63))]]:=by
     rw [XV,Lib.encodeRuneZ_two ik oM];simp only [e6,e12,e18,wu8,Tx,TN];rw [ZFV oM oM,a63 oM oM,ZvY oM oM,show c / 64 % 256=c / 64 by omega,show c % 256 % 64=c % 64 by omega]
     all_goals (try omega)
     (try (congr 1 <;> omega))
    rw [e] at h;exact h
   conv=>whnf
   refine ⟨dM,wN ?_⟩;refine Or.inr (wN ?_);refine Or.inr (wN ?_);refine ⟨fun r hr=>by (simp at hr;rcases hr with rfl | rfl <;> rfl),(show (rows.length+2) * 1<=2 ^ 47 by omega),(show rows.length+2<=2 ^ 47 by omega),?_⟩;(conv=>whnf);exact g
  refine ZGr (fun h2=>wN ?_) (fun h2=>wN ?_)
  ·refine ZGr (fun dw=>wN ?_) (fun dw=>absurd h2 dw);have g:K (.ret (.sl 0 5 (rows++[[D.int .u8 (Zi .or .u8 224 (IntKind.u8.wrap (c.fdiv (2 ^ min (Int.toNat 12) IntKind.i32.bits))))],[D.int .u8 (Zi .or .u8 128 (Zi .and .u8 (IntKind.u8.wrap (c.fdiv (2 ^ min (Int.toNat 6) IntKind.i32.bits))) 63))],[D.int .u8 (Zi .or .u8 128 (Zi .and .u8 (IntKind.u8.wrap (c)) 63))]]))) ⟨[],[0],1⟩:=by
    exact mq32
   exact mq179
  refine ZGr (fun h3=>wN ?_) (fun h3=>wN ?_)
  ·refine ZGr (fun h4=>?_) (fun h4=>wN ?_)
   ·skip
    have g:K (.ret (.sl 0 5 (rows++[[D.int .u8 (Zi .or .u8 224 (IntKind.u8.wrap (c.fdiv (2 ^ min (Int.toNat 12) IntKind.i32.bits))))],[D.int .u8 (Zi .or .u8 128 (Zi .and .u8 (IntKind.u8.wrap (c.fdiv (2 ^ min (Int.toNat 6) IntKind.i32.bits))) 63))],[D.int .u8 (Zi .or .u8 128 (Zi .and .u8 (IntKind.u8.wrap (c)) 63))]]))) ⟨[],[0],1⟩:=by
     exact mq32
    conv=>whnf
    exact mq179
   refine ZGr (fun h5=>wN ?_) (fun h5=>?_)
   ·refine ZGr (fun h6=>?_) (fun h6=>?_)
    ·skip
     have g:K (.ret (.sl 0 5 (rows++[[D.int .u8 (Zi .or .u8 240 (IntKind.u8.wrap (c.fdiv (2 ^ min (Int.toNat 18) IntKind.i32.bits))))],[D.int .u8 (Zi .or .u8 128 (Zi .and .u8 (IntKind.u8.wrap (c.fdiv (2 ^ min (Int.toNat 12) IntKind.i32.bits))) 63))],[D.int .u8 (Zi .or .u8 128 (Zi .and .u8 (IntKind.u8.wrap (c.fdiv (2 ^ min (Int.toNat 6) IntKind.i32.bits))) 63))],[D.int .u8 (Zi .or .u8 128 (Zi .and .u8 (IntKind.u8.wrap (c)) 63))]]))) ⟨[],[0],1⟩:=by
      have e:Zm (Lib.encodeRune c)=[[D.int .u8 (Zi .or .u8 240 (IntKind.u8.wrap (c.fdiv (2 ^ min (Int.toNat 18) IntKind.i32.bits))))],[D.int .u8 (Zi .or .u8 128 (Zi .and .u8 (IntKind.u8.wrap (c.fdiv (2 ^ min (Int.toNat 12) IntKind.i32.bits))) 63))],[D.int .u8 (Zi .or .u8 128 (Zi .and .u8 (IntKind.u8.wrap (c.fdiv (2 ^ min (Int.toNat 6) IntKind.i32.bits))) 63))],[D.int .u8 (Zi .or .u8 128 (Zi .and .u8 (IntKind.u8.wrap (c)) 63))]]:=by
       rw [XV,Lib.encodeRuneZ_four oM oM];simp only [e6,e12,e18,wu8,Tx,TN];rw [ZFW oM oM,a63 oM oM,a63 oM oM,a63 oM oM,ZvY oM oM,ZvY oM oM,ZvY oM oM,show c / 262144 % 256=c / 262144 by omega,show c / 4096 % 256 % 64=c / 4096 % 64 by omega,show c / 64 % 256 % 64=c / 64 % 64 by omega,show c % 256 % 64=c % 64 by omega]
       all_goals (try omega)
       (try (congr 1 <;> omega))
      rw [e] at h;exact h
     conv=>whnf
     refine ⟨dM,wN ?_⟩;refine Or.inr (wN ?_);refine ⟨dM,wN ?_⟩;refine Or.inr (wN ?_);refine ⟨dM,wN ?_⟩;refine Or.inr (wN ?_);refine Or.inr (wN ?_);refine ⟨fun r hr=>by (simp at hr;rcases hr with rfl | rfl | rfl | rfl <;> rfl),(show (rows.length+4) * 1<=2 ^ 47 by omega),(show rows.length+4<=2 ^ 47 by omega),?_⟩;(conv=>whnf);exact g
    omega
   omega
  refine ZGr (fun h5=>?_) (fun h5=>?_)
  ·omega
  skip
  have g:K (.ret (.sl 0 5 (rows++[[D.int .u8 (239)],[D.int .u8 (191)],[D.int .u8 (189)]]))) ⟨[],[0],1⟩:=by
   have e:Zm (Lib.encodeRune c)=[[D.int .u8 (239)],[D.int .u8 (191)],[D.int .u8 (189)]]:=by
    rw [XV,Lib.encodeRuneZ_bad oM];rfl
   rw [e] at h;exact h
  conv=>whnf
  exact mq57
 exact h.elim
def ZD7:Tbl:=[(290,Vr)]
def ZgY:PC w0 nG 276 Ud:=by
 refine pwt (tbl:=ZD7) ⟨ZeT,trivial⟩ Tryz.func276 fun args σ K h=>?_
 unfold Ud at h
 split at h
 ·rename_i e rows c
  obtain ⟨⟨rfl,cq,s4,ik,dv⟩,h⟩:=h;refine pwv [] 0 true ?_;refine Or.inl ⟨InR.u32 oM oM,wN ?_⟩;refine ZGr (fun h1=>wN ?_) (fun h1=>wN ?_)
  ·have e:Zm (Lib.encodeRune c)=[[D.int .u8 c]]:=by rw [XV,Lib.encodeRuneZ_one ik h1];rfl
   rw [e] at h;refine WU ?_;exact mq152
  refine ⟨⟨rfl,cq,oM,oM,oM⟩,wN ?_⟩;exact h
 exact h.elim
def Ztu:TO w0 nG [(225,Vo)]:=⟨ZbM,trivial⟩
def ZbQ:PC w0 nG 248 Vl:=by
 refine pwt Ztu Tryz.func248 fun args σ K h=>?_
 unfold Vl at h
 split at h
 ·rename_i c t p e rows
  obtain ⟨⟨hp,rfl,rfl,cq,s4⟩,h⟩:=h;refine pwu [] 1 true ?_;rcases hp with rfl | rfl
  ·conv=>whnf
   refine ⟨⟨.inl rfl,rfl⟩,wN ?_⟩;exact mq152
  conv=>whnf
  refine ⟨⟨.inr rfl,rfl⟩,wN ?_⟩;exact mq152
 exact h.elim
def ZD9 (c:Int):(Lib.encodeRune c).length<=4:=by unfold Lib.encodeRune;rw [Td];exact (Lib.encodeRuneZ_length c).2
def Ztv:TO w0 nG [(225,Vo),(276,Ud)]:=⟨ZbM,ZgY,trivial⟩
def ZbR:PC w0 nG 250 Vm:=by
 refine pwt Ztv Tryz.func250 fun args σ K h=>?_
 unfold Vm at h
 split at h
 ·rename_i c t p e rows
  obtain ⟨⟨hp,rfl,rfl,cq,s4,ik,dv⟩,h⟩:=h;refine pwu [] 1 true ?_;rcases hp with rfl | rfl
  ·conv=>whnf
   refine ⟨⟨.inl rfl,rfl⟩,wN ?_⟩;refine ⟨⟨rfl,cq,s4,ik,dv⟩,wN ?_⟩;refine Or.inl ⟨InR.i64 (by rw [Tc,YZ];have:=Lib.encodeRuneZ_length c;omega) (by rw [Tc,YZ];have:=ZD9 c;omega),wN ?_⟩;exact h
  conv=>whnf
  refine ⟨⟨.inr rfl,rfl⟩,wN ?_⟩;refine ⟨⟨rfl,cq,s4,ik,dv⟩,wN ?_⟩;refine Or.inl ⟨InR.i64 (by rw [Tc,YZ];omega) (by rw [Tc,YZ];have:=ZD9 c;omega),wN ?_⟩;exact h
 exact h.elim
def JA:Zh:=fun args σ K=>match args with
 | [.d (.int .i32 c)]=>K (.ret (.d (.bool (Lib.validRune c)))) σ
 | _=>False
def ZBc (c:Int) (h:128<=c) (h2:c<=1114111):2<=(Utf8.encode c).data.toList.length/\(Utf8.encode c).data.toList.length<=4/\∀b∈(Utf8.encode c).data.toList,128<=b.toNat:=by
 unfold Utf8.encode
 simp only;generalize hn:(if Utf8.valid c then c.toNat else Utf8.runeError)=n;have lb:128<=n/\n<=1114111:=by
  rw [<- hn];split
  ·omega
  simp [Utf8.runeError]
 rw [Te oM];split
 ·simp [UInt8.toNat_ofNat'];omega
 split
 ·simp [UInt8.toNat_ofNat'];omega
 simp [UInt8.toNat_ofNat'];omega
def ZpW {l:Bs} {c:UInt8} (h:∀b∈l,b.toNat<128) (hc:128<=c.toNat):Lib.indexByte l c=-1:=by
 induction l with
 | nil=>rfl
 | cons b l ih =>
 have h1:=ih (fun x hx=>h x (TF _ hx));have h2:(b == c)=false:=by
  simp only [beq_eq_false_iff_ne];intro e;subst e;have:=h b sM;omega
 simp [Lib.indexByte,h1,h2]
def Ztw {s:Bs} (h:∀b∈s,b.toNat<128) (i:Nat):(s.getD i 0).toNat<128:=by
 rw [T8]
 by_cases hi:i<s.length
 ·rw [Ta hi];exact h _ (TA hi)
 rw [Sv oM];decide
def ZpX {s:Bs} (h:∀b∈s,128<=b.toNat) {i:Nat} (hi:i<s.length):128<=(s.getD i 0).toNat:=by
 rw [T8,Ta hi];exact h _ (TA hi)
def ZEb {n:Int} {k:Nat} (h:n=k) (hk:k<256):(n.toNat.toUInt8).toNat=k:=by
 subst h;simp [UInt8.toNat_ofNat'];omega
def ZiG:OKw w0 nG [(272,X6),(273,JA)] 249 X8:=by
 refine pwo Tryz.func249 fun args σ K h=>?_
 unfold X8 at h
 split at h
 ·rename_i s c
  obtain ⟨⟨hs,ik,dv⟩,h⟩:=h;have qj:s.length=4:=by rcases hs with rfl | rfl <;> rfl
  have xy:∀b∈s,b.toNat<128:=by rcases hs with rfl | rfl <;> decide
  have xz:∀p,p<4->(decodeL s p).1<128/\(decodeL s p).2=1:=by
   intro p hp
   rcases hs with rfl | rfl
   all_goals (match p,hp with | 0,_=>exact ⟨dM,dM⟩ | 1,_=>exact ⟨dM,dM⟩ | 2,_=>exact ⟨dM,dM⟩ | 3,_=>exact ⟨dM,dM⟩)
  refine pwu [(38,⟨[],[0,175],fun vs σ=>vs=[]/\∃p:Nat,p<=4/\σ=⟨[.iter s p],[],0⟩,fun _ σ=>match σ.bx with | [.iter _ p]=>4 - p | _=>0⟩),
    (5,⟨[9],[0,1,7,8],fun vs σ=>σ=⟨[],[],0⟩/\vs=[.d (.int .i64 (((Utf8.encode c).data.toList.length:Int) - 1))],fun _ _=>0⟩)] 0 false ?_
  have vr:128<=c->K (.ret (.d (.int .i64 (-1)))) ⟨[],[],0⟩:=fun g=>by
   have:Zdr s c=-1:=by unfold Zdr;rw [Te oM]
   rw [this] at h;exact h
  conv=>whnf
  refine ZGr (fun h1=>wN ?_) (fun h1=>?_)
  ·refine ZGr (fun h2=>wN ?_) (fun h2=>wN ?_)
   ·have e:Zdr s c=Lib.indexByte s c.toNat.toUInt8:=by unfold Zdr;rw [Ti h2]
    rw [e] at h;refine WU ?_;exact h
   refine ZGr (fun h3=>wN ?_) (fun h3=>wN ?_)
   ·refine ⟨⟨rfl,0,oM,rfl⟩,?_⟩;intro vs σ1 hI
    obtain ⟨rfl,p,hp,rfl⟩:=hI;(conv=>whnf);refine ZGr (fun h4=>wN ?_) (fun h4=>wN ?_)
    ·have hd:=xz p oM;refine ZGr (fun h5=>?_) (fun h5=>wN ?_)
     ·omega
     refine ⟨⟨rfl,p+1,oM,by rw [hd.2];rfl⟩,?_⟩;exact (show 4 - (p+(decodeL s p).2)<4 - p by omega)
    exact vr oM
   refine ZGt (fun h4=>wN ?_) (fun h4=>wN ?_)
   ·exact vr oM
   obtain ⟨e1,e2,e3⟩:=ZBc c oM dv;have hl:=ZpX e3 (i:=(Utf8.encode c).data.toList.length - 1) oM;refine Zk ?_;refine ⟨⟨rfl,rfl⟩,?_⟩;intro vs σ1 hI
   obtain ⟨rfl,rfl⟩:=hI;(conv=>whnf);refine ZGr (fun h5=>wN ?_) (fun h5=>?_)
   ·refine ⟨oM,oM,wN ?_⟩;refine ⟨oM,oM,wN ?_⟩;have kh:=Ztw xy (((Utf8.encode c).data.toList.length:Int) - 1).toNat;have sc:128<=((Utf8.encode c).data.toList.getD (((Utf8.encode c).data.toList.length:Int) - 1).toNat 0).toNat:=ZpX e3 oM;refine ZGu (fun h6=>wN ?_) (fun h6=>?_)
    ·refine Zk ?_;refine ⟨oM,oM,wN ?_⟩;refine ⟨oM,oM,wN ?_⟩;generalize hx:Lib.indexByte _ _=x;have:x=-1:=by
      rw [<- hx];refine ZpW (fun b hb=>xy b (List.mem_of_mem_take (List.mem_of_mem_drop hb))) ?_;rw [ZEb rfl (UInt8.toNat_lt _)];exact sc
     subst this;(conv=>whnf);exact vr oM
    omega
   omega
  omega
 exact h.elim
def ZgZ (r:Bs):(Lib.decodeL r).1<=1114111/\1<=(Lib.decodeL r).2/\(Lib.decodeL r).2<=4:=by
 exact mq68
def Zkt (c:Int):(Lib.encodeRune c).length<=4:=by
 unfold Lib.encodeRune Lib.encodeRuneZ
 rw [Td]
 repeat' split
 all_goals simp
def Ue {n k:Nat} (h:n<128) (hk:k<128) (ai:n≠k):(n:Int).toNat.toUInt8≠UInt8.ofNat k:=by
 intro h1
 have h2:=congrArg UInt8.toNat h1;simp [UInt8.toNat_ofNat'] at h2;omega
def ZlU {n:Nat} (h:ZwY n=none):Zdr [110,116,34,92] n=-1:=by
 unfold ZwY at h
 split at h;· cases h
 split at h;· cases h
 split at h;· cases h
 split at h;· cases h
 rename_i h1 h2 h3 h4
 unfold Zdr
 split
 ·rename_i h5
  have hc:([110,116,34,92]:Bs).contains ((n:Int).toNat.toUInt8)=false:=by
   have b1:=Ue (n:=n) (k:=110) oM oM h1;have b2:=Ue (n:=n) (k:=116) oM oM h2;exact mq112
  rw [Lib.contains_iff_indexByte,decide_eq_false_iff_not] at hc;have:=Lib.indexByte_ge [110,116,34,92] ((n:Int).toNat.toUInt8);omega
 rfl
def ZlV {n:Nat} {b:UInt8} (h:ZwY n=some b):(Zdr [110,116,34,92] n=0/\b=10)\/(Zdr [110,116,34,92] n=1/\b=9)\/(Zdr [110,116,34,92] n=2/\b=34)\/(Zdr [110,116,34,92] n=3/\b=92):=by
 unfold ZwY at h
 exact mq67
def JB (l:Bs) (b:UInt8):Zm (l++[b])=Zm l++[[.int .u8 b.toNat]]:=by simp [Zm]
def WX (l m:Bs):Zm (l++m)=Zm l++Zm m:=by simp [Zm]
def ZfE (l:Bs):∀r∈Zm l,r.length=1:=by
 intro r hr
 simp only [Zm,Sr] at hr;obtain ⟨b,_,rfl⟩:=hr;rfl
def ZfF (l:Bs):(Zm l).length=l.length:=by simp [Zm]
def ZFX (B:Nat):List PV->St->Nat:=fun _ σ=>match σ.bx with | [_,_,_,_,.iter _ p]=>B - p | _=>0
def Zxc:OKw w0 nG [(249,X8),(248,Vl),(212,ZbL),(250,Vm),(70,Zcs)] 283 ZlS:=by
 refine pwo Tryz.func283 fun args σ K h=>?_
 unfold ZlS at h
 split at h
 ·rename_i t s a
  obtain ⟨⟨h0,h1,hs⟩,h⟩:=h;obtain ⟨a,rfl⟩:∃n:Nat,a=n:=⟨a.toNat,oM⟩
  simp only [Tg] at h;obtain ⟨u,hu⟩:∃u,u=s.drop (a+1):=⟨_,rfl⟩
  have hul:u.length=s.length - (a+1):=by rw [hu,Tz]
  refine pwu [(4,⟨[5],[0,2,3,4,22],fun vs σ=>∃(esc:Bool) (l:Bs) (i f:Nat) (p:PV),vs=[.d (.bool esc)] /\
   σ=⟨[.cells t [.d (.str s),.d (.int .i64 a)],.cells 117 [.d (.int .u8 0),.d (.str []),.d (.int .i64 0),.d (.int .i64 0),.d (.int .i64 0)],.cells 287 [.d (.int .i64 0),.d (.int .i64 0)],.cells 141 [p,.sl 0 5 (Zm l)],.iter u i],[0],1⟩ /\
   (p=.d .nilp\/p=.ptr 3 0)/\(i<=u.length/\u.length<i+f/\l.length<=4 * i)/\Z7 f (u.drop i) esc l (1+i)=Wx (s.drop a),ZFX u.length⟩)] 1 false ?_
  have dq:∀n:Nat,Wx (s.drop a)=.err n->K (.ret (.tuple [Zae 0 [] 0 0 0,Ziw ((a+n:Nat):Int) 141])) ⟨[.cells t [.d (.str s),.d (.int .i64 a)]],[],0⟩:=fun n g=>by
   have e1:ZeQ a (s.drop a)=.bad (a+n) 141:=by rw [ZeQ,g]
   rw [e1] at h;exact h
  have d7:∀(l:Bs) (n:Nat),Wx (s.drop a)=.ok l n->K (.ret (.tuple [Zae 3 l 0 a ((a+n:Nat):Int),Ziw 0 0])) ⟨[.cells t [.d (.str s),.d (.int .i64 a)]],[],0⟩:=fun l n g=>by
   have e1:ZeQ a (s.drop a)=.tok ⟨3,l,0,a,a+n⟩:=by rw [ZeQ,g]
   rw [e1] at h;exact h
  have oi:((a:Int)+1).toNat=a+1:=oM;(conv=>whnf);refine Zk ?_;refine ⟨oM,oM,wN ?_⟩;rw [V7,oi,<- hu];refine ⟨⟨false,[],0,(s.drop a).length+1,.d .nilp,rfl,rfl,.inl rfl,⟨oM,hD,sM⟩,?_⟩,?_⟩
  ·rw [Wx,TJ,<- hu];rfl
  intro vs σ1 hI
  obtain ⟨esc,l,i,f,p,rfl,rfl,hp,⟨hi1,af,fc⟩,fy⟩:=hI;obtain ⟨f,rfl⟩:∃g,f=g+1:=⟨f - 1,oM⟩
  have bq:=ZfE l;have dc:=ZfF l;have bl:=Zdp u i;have i7:=ZgZ (u.drop i);have jw:=Lib.decodeL_le (u.drop i);rw [Tz] at jw
  cases esc with
  | true =>
   rcases hp with rfl | rfl
   ·conv=>whnf
    refine ZGr (fun h2=>wN ?_) (fun h2=>wN ?_)
    ·have ai:u.drop i≠[]:=fun g=>by have:=congrArg List.length g;rw [Tz] at this;simp at this;omega
     refine Zk ?_;refine Zk ?_;refine ⟨⟨.inl rfl,oM,by rw [bl];omega⟩,wN ?_⟩;generalize hk:Zdr _ _=k;have gw:Zdr [110,116,34,92] ((Lib.decodeL (u.drop i)).1:Int)=k:=by rw [<- bl];exact hk
     cases hE:ZwY (Lib.decodeL (u.drop i)).1 with
     | none =>
      exact mq76
     | some b =>
     have g1:Wx (s.drop a)=Z7 f (u.drop (i+(decodeL u i).2)) false (l++[b]) (1+(i+(decodeL u i).2)):=by rw [<- fy,bl];simp [Z7,ai,hE,TJ,Nat.add_assoc]
     have g3:i+(decodeL u i).2<=u.length:=by rw [bl];have:=jw ai;omega
     have rp:1<=(decodeL u i).2:=by rw [bl];omega
     rcases ZlV hE with ⟨e1,rfl⟩ | ⟨e1,rfl⟩ | ⟨e1,rfl⟩ | ⟨e1,rfl⟩
     all_goals (rw [e1] at gw;subst gw)
     all_goals (conv=>whnf)
     all_goals (refine ⟨oM,by first | omega | (simp;done) | (simp;omega),?_⟩)
     all_goals (conv=>whnf)
     all_goals (refine ⟨⟨.inl rfl,rfl,rfl,bq,oM⟩,?_⟩)
     all_goals (conv=>whnf)
     all_goals (refine ⟨⟨false,_,_,f,_,rfl,?_,.inr rfl,⟨g3,oM,?_⟩,g1.symm⟩,?_⟩)
     all_goals (first | (rw [JB];rfl) | (rw [Tc];simp;omega) | exact (show u.length - (i+(decodeL u i).2)<u.length - i by omega))
    exact mq40
   conv=>whnf
   refine ZGr (fun h2=>wN ?_) (fun h2=>wN ?_)
   ·have ai:u.drop i≠[]:=fun g=>by have:=congrArg List.length g;rw [Tz] at this;simp at this;omega
    refine Zk ?_;refine Zk ?_;refine ⟨⟨.inl rfl,oM,by rw [bl];omega⟩,wN ?_⟩;generalize hk:Zdr _ _=k;have gw:Zdr [110,116,34,92] ((Lib.decodeL (u.drop i)).1:Int)=k:=by rw [<- bl];exact hk
    cases hE:ZwY (Lib.decodeL (u.drop i)).1 with
    | none =>
     exact mq76
    | some b =>
    have g1:Wx (s.drop a)=Z7 f (u.drop (i+(decodeL u i).2)) false (l++[b]) (1+(i+(decodeL u i).2)):=by rw [<- fy,bl];simp [Z7,ai,hE,TJ,Nat.add_assoc]
    have g3:i+(decodeL u i).2<=u.length:=by rw [bl];have:=jw ai;omega
    have rp:1<=(decodeL u i).2:=by rw [bl];omega
    rcases ZlV hE with ⟨e1,rfl⟩ | ⟨e1,rfl⟩ | ⟨e1,rfl⟩ | ⟨e1,rfl⟩
    all_goals (rw [e1] at gw;subst gw)
    all_goals (conv=>whnf)
    all_goals (refine ⟨oM,by first | omega | (simp;done) | (simp;omega),?_⟩)
    all_goals (conv=>whnf)
    all_goals (refine ⟨⟨.inr rfl,rfl,rfl,bq,oM⟩,?_⟩)
    all_goals (conv=>whnf)
    all_goals (refine ⟨⟨false,_,_,f,_,rfl,?_,.inr rfl,⟨g3,oM,?_⟩,g1.symm⟩,?_⟩)
    all_goals (first | (rw [JB];rfl) | (rw [Tc];simp;omega) | exact (show u.length - (i+(decodeL u i).2)<u.length - i by omega))
   exact mq40
  | false =>
  rcases hp with rfl | rfl
  ·conv=>whnf
   refine ZGr (fun h2=>wN ?_) (fun h2=>wN ?_)
   ·have ai:u.drop i≠[]:=fun g=>by have:=congrArg List.length g;rw [Tz] at this;simp at this;omega
    have g3:i+(decodeL u i).2<=u.length:=by rw [bl];have:=jw ai;omega
    have rp:1<=(decodeL u i).2:=by rw [bl];omega
    have ly:((a:Int)+1+(i:Int)).toNat=a+1+i:=oM;have xz:s.drop (a+1+i)=u.drop i:=by rw [hu,TJ]
    refine Zk ?_;refine Zk ?_;refine ⟨⟨oM,oM⟩,wN ?_⟩;refine ZGr (fun h3=>wN ?_) (fun h3=>wN ?_)
    ·have ew:(Lib.decodeL (u.drop i)).1=34:=by rw [bl] at h3;omega
     have g1:Wx (s.drop a)=.ok l (1+i+1):=by rw [<- fy];simp [Z7,ai,ew]
     refine Zk ?_;refine ⟨l,⟨rfl,rfl,rfl,.inl rfl,oM⟩,wN ?_⟩;exact mq102
    have ew:¬(Lib.decodeL (u.drop i)).1=34:=by rw [bl] at h3;omega
    refine ZGr (fun h4=>wN ?_) (fun h4=>wN ?_)
    ·have jz:(Lib.decodeL (u.drop i)).1=92:=by rw [bl] at h4;omega
     have g1:Wx (s.drop a)=Z7 f (u.drop (i+(decodeL u i).2)) true l (1+(i+(decodeL u i).2)):=by rw [<- fy,bl];simp [Z7,ai,ew,jz,TJ,Nat.add_assoc]
     refine ⟨⟨true,_,_,f,_,rfl,rfl,.inl rfl,⟨g3,oM,oM⟩,g1.symm⟩,?_⟩;exact mq185
    have jz:¬(Lib.decodeL (u.drop i)).1=92:=by rw [bl] at h4;omega
    refine ZGr (fun h5=>wN ?_) (fun h5=>wN ?_)
    ·exact mq78
    have gh:¬(pk (u.drop i)).1<32:=by rw [ly,xz] at h5;exact h5
    have g1:Wx (s.drop a)=Z7 f (u.drop (i+(decodeL u i).2)) false (l++Lib.encodeRune ((decodeL u i).1:Int)) (1+(i+(decodeL u i).2)):=by rw [<- fy,bl];simp [Z7,ai,ew,jz,gh,TJ,Nat.add_assoc]
    have vt:=Zkt ((decodeL u i).1:Int);refine ⟨⟨.inl rfl,rfl,rfl,bq,oM,oM,by rw [bl];omega⟩,wN ?_⟩;exact mq101
   exact mq40
  conv=>whnf
  refine ZGr (fun h2=>wN ?_) (fun h2=>wN ?_)
  ·have ai:u.drop i≠[]:=fun g=>by have:=congrArg List.length g;rw [Tz] at this;simp at this;omega
   have g3:i+(decodeL u i).2<=u.length:=by rw [bl];have:=jw ai;omega
   have rp:1<=(decodeL u i).2:=by rw [bl];omega
   have ly:((a:Int)+1+(i:Int)).toNat=a+1+i:=oM;have xz:s.drop (a+1+i)=u.drop i:=by rw [hu,TJ]
   refine Zk ?_;refine Zk ?_;refine ⟨⟨oM,oM⟩,wN ?_⟩;refine ZGr (fun h3=>wN ?_) (fun h3=>wN ?_)
   ·have ew:(Lib.decodeL (u.drop i)).1=34:=by rw [bl] at h3;omega
    have g1:Wx (s.drop a)=.ok l (1+i+1):=by rw [<- fy];simp [Z7,ai,ew]
    refine Zk ?_;refine ⟨l,⟨rfl,rfl,rfl,.inr rfl,oM⟩,wN ?_⟩;exact mq102
   have ew:¬(Lib.decodeL (u.drop i)).1=34:=by rw [bl] at h3;omega
   refine ZGr (fun h4=>wN ?_) (fun h4=>wN ?_)
   ·have jz:(Lib.decodeL (u.drop i)).1=92:=by rw [bl] at h4;omega
    have g1:Wx (s.drop a)=Z7 f (u.drop (i+(decodeL u i).2)) true l (1+(i+(decodeL u i).2)):=by rw [<- fy,bl];simp [Z7,ai,ew,jz,TJ,Nat.add_assoc]
    refine ⟨⟨true,_,_,f,_,rfl,rfl,.inr rfl,⟨g3,oM,oM⟩,g1.symm⟩,?_⟩;exact mq185
   have jz:¬(Lib.decodeL (u.drop i)).1=92:=by rw [bl] at h4;omega
   refine ZGr (fun h5=>wN ?_) (fun h5=>wN ?_)
   ·exact mq78
   have gh:¬(pk (u.drop i)).1<32:=by rw [ly,xz] at h5;exact h5
   have g1:Wx (s.drop a)=Z7 f (u.drop (i+(decodeL u i).2)) false (l++Lib.encodeRune ((decodeL u i).1:Int)) (1+(i+(decodeL u i).2)):=by rw [<- fy,bl];simp [Z7,ai,ew,jz,gh,TJ,Nat.add_assoc]
   have vt:=Zkt ((decodeL u i).1:Int);refine ⟨⟨.inr rfl,rfl,rfl,bq,oM,oM,by rw [bl];omega⟩,wN ?_⟩;exact mq101
  exact mq40
 exact h.elim
def Zg0 (r:Bs) (h:0<r.length):Yg r<=r.length/\Yg r<=2:=by
 unfold Yg
 split
 ·rename_i h1
  simp only [twos,SJ,List.any_nil,Sm,Sk] at h1;rcases h1 with h1 | h1 | h1 | h1 | h1
  all_goals (have:=(Ys h1).1;omega)
 split <;> omega
def Xc (a:Nat) (r:Bs) (room:Bool):Jy a r room=if Yg r=0/\(pk r).1≠34/\Zl (pk r).1=false/\Zo (pk r).1=false then .bad a 140
 else if room=false then .bad a 3
 else if 0<Yg r then .tok ⟨4,r.take (Yg r),0,a,a+Yg r⟩
 else if (pk r).1=34 then ZeQ a r
 else if Zo (pk r).1=true then Wy a r
 else .tok ⟨1,r.take (Vk r),0,a,a+Vk r⟩:=rfl
def Zxe:OKw w0 nG [(212,ZbL),(282,ZlR),(213,UG),(246,X7),(283,ZlS),(284,Zct),(214,Zix)] 258 ZfD:=by
 refine pwo Tryz.func258 fun args σ K h=>?_
 unfold ZfD at h
 split at h
 ·rename_i room t s a
  obtain ⟨⟨h0,h1,hs⟩,h⟩:=h;obtain ⟨a,rfl⟩:∃n:Nat,a=n:=⟨a.toNat,oM⟩
  simp only [Tg] at h;have vj:-1<=(pk (s.drop ((a:Int)).toNat)).1/\(pk (s.drop ((a:Int)).toNat)).1<=1114111:=Wn (s.drop a);have qj:=Zg0 (s.drop a) hD;rw [Tz] at qj;have dq:∀e:Nat,Jy a (s.drop a) room=.bad a e->K (.ret (.tuple [Zae 0 [] 0 0 0,Ziw a e])) ⟨[.cells t [.d (.str s),.d (.int .i64 a)]],[],0⟩:=fun e g=>by
   rw [g] at h;exact h
  have zu:∀n:Nat,Yg (s.drop a)=n->Jy a (s.drop a) room=.tok ⟨4,(s.drop a).take n,0,a,a+n⟩->K (.ret (.tuple [Zae 4 (cut s ((a:Int)).toNat ((a:Int)+(n:Int)).toNat) 0 a ((a:Int)+(n:Int)),Ziw 0 0])) ⟨[.cells t [.d (.str s),.d (.int .i64 a)]],[],0⟩:=fun n g1 g2=>by
   rw [g2] at h;rw [V8,show ((a:Int)+(n:Int)).toNat - ((a:Int)).toNat=n by omega];exact h
  have kd:Jy a (s.drop a) room=.tok ⟨1,(s.drop a).take (Vk (s.drop a)),0,a,a+Vk (s.drop a)⟩->K (.ret (.tuple [Zae 1 ((s.drop a).take (Vk (s.drop a))) 0 a ((a:Int)+(Vk (s.drop a):Int)),Ziw 0 0])) ⟨[.cells t [.d (.str s),.d (.int .i64 a)]],[],0⟩:=fun g=>by
   rw [g] at h;exact h
  refine pwv [] 1 false ?_;refine ⟨⟨oM,oM⟩,wN ?_⟩;refine ⟨⟨oM,oM,oM⟩,wN ?_⟩;generalize ik:(pk (s.drop ((a:Int)).toNat)).1=c at vj |-;have hc:(pk (s.drop a)).1=c:=ik;generalize kr:Yg (s.drop ((a:Int)).toNat)=n;have hn:Yg (s.drop a)=n:=kr;rw [hn] at qj;refine ZGr (fun h2=>?_) (fun h2=>?_)
  ·obtain rfl:n=0:=by omega
   conv=>whnf
   refine ZGu (fun h3=>wN ?_) (fun h3=>?_)
   ·refine ⟨⟨oM,oM⟩,wN ?_⟩;refine ZGt (fun h4=>wN ?_) (fun h4=>?_)
    ·have jz:Zl c=false:=by simpa using h4
     refine ZGt (fun h5=>wN ?_) (fun h5=>?_)
     ·have gh:Zo c=false:=by simpa using h5
      (try (refine ⟨rfl,?_⟩;conv=>whnf))
      (try (refine ⟨rfl,?_⟩;conv=>whnf))
      exact dq 140 (by rw [Xc,hn,hc,Ti ⟨rfl,h3,jz,gh⟩])
     have gh:Zo c=true:=by simpa using h5
     have je:¬(0=0/\c≠34/\Zl c=false/\Zo c=false):=fun g=>by rw [gh] at g;simp at g
     cases room with
     | false =>
      exact mq47
     | true =>
     conv=>whnf
     refine ZGr (fun h6=>?_) (fun h6=>wN ?_)
     ·exact absurd h6 (by simpa using h3)
     refine ZGt (fun h7=>wN ?_) (fun h7=>?_)
     ·refine ⟨⟨oM,oM,oM⟩,wN ?_⟩;have g:Jy a (s.drop a) true=Wy a (s.drop a):=by
       rw [Xc,hn,hc,Te je,Te sM,Te oM,Te h3,Ti gh]
      rw [g] at h;exact h
     rw [gh] at h7;cases h7
    have jz:Zl c=true:=by simpa using h4
    have gh:Zo c=false:=by
     have ah3:(c=95\/128<=c\/(97<=c/\c<=122)\/(65<=c/\c<=90)):=by simpa [Zl] using jz
     simp only [Zo,decide_eq_false_iff_not];omega
    have je:¬(0=0/\c≠34/\Zl c=false/\Zo c=false):=fun g=>by rw [jz] at g;simp at g
    cases room with
    | false =>
     exact mq47
    | true =>
    conv=>whnf
    refine ZGr (fun h6=>?_) (fun h6=>wN ?_)
    ·exact absurd h6 (by simpa using h3)
    refine ZGt (fun h7=>?_) (fun h7=>wN ?_)
    ·rw [gh] at h7;cases h7
    refine ⟨⟨oM,oM,oM⟩,wN ?_⟩;exact kd (by rw [Xc,hn,hc,Te je,Te sM,Te oM,Te h3,Te (by rw [gh];simp)])
   obtain rfl:c=34:=h3;have je:¬(0=0/\(34:Int)≠34/\Zl 34=false/\Zo 34=false):=fun g=>g.2.1 rfl
   cases room with
   | false =>
    exact mq47
   | true =>
   conv=>whnf
   refine ⟨⟨oM,oM,oM⟩,wN ?_⟩;have g:Jy a (s.drop a) true=ZeQ a (s.drop a):=by
    rw [Xc,hn,hc,Te je,Te sM,Te oM,Ti rfl]
   rw [g] at h;exact h
  have je:¬(n=0/\c≠34/\Zl c=false/\Zo c=false):=fun g=>by omega
  cases room with
  | false =>
   exact mq47
  | true =>
  conv=>whnf
  refine ZGr (fun h6=>wN ?_) (fun h6=>?_)
  ·refine Zk ?_;refine ⟨oM,oM,oM,wN ?_⟩;refine Zk ?_
   (try (refine ⟨rfl,?_⟩;conv=>whnf))
   (try (refine ⟨rfl,?_⟩;conv=>whnf))
   exact zu n hn (by rw [Xc,hn,hc,Te je,Te sM,Ti oM])
  omega
 exact h.elim
def isDigit_iff {c:Int}:Zo c=true↔(48<=c/\c<=57):=by simp [Zo]
def ZiH:∀(f:Nat) (r:Bs),YV f r<=r.length
 | 0,r=>T6 _
 | f+1,r=>by
  have ih:=ZiH f (r.drop (pk r).2);rw [Tz] at ih;have hl:(pk r).1≠-1->(pk r).2<=r.length:=fun h=>(ZA9 r h).2.1
  unfold YV
  split
  ·rename_i h;have:=hl oM;split <;> omega
  split
  ·rename_i h
   have:=hl (fun h1=>by rw [h1,ZbO,Zdt] at h;simp at h);omega
  omega
def ZpY (r:Bs) (h:Zl (pk r).1=true):1<=Vk r/\Vk r<=r.length:=by
 refine ⟨?_,ZiH _ _⟩;have:=ZpT r;have h46:¬(pk r).1=46:=fun g=>by rw [g] at h;revert h;decide
 rw [Vk,ZiB h46 (.inl h)];omega
def UH:∀(f:Nat) (r:Bs) (esc:Bool) (acc:Bs) (p:Nat) (t:Bs) (l:Nat),Z7 f r esc acc p=.ok t l->p<l/\l<=p+r.length
 | 0,r,esc,acc,p,t,l,h=>by simp [Z7] at h
 | f+1,r,esc,acc,p,t,l,h=>by
  unfold Z7 at h
  split at h
  ·cases h
  rename_i ai
  have hd:=Lib.decodeL_le r ai;have hr:=ZgZ r;split at h
  ·split at h
   ·cases h
   have:=UH f _ _ _ _ _ _ h;rw [Tz] at this;omega
  split at h
  ·cases h;have:=List.length_pos_iff.2 ai;omega
  split at h
  ·have:=UH f _ _ _ _ _ _ h;rw [Tz] at this;omega
  split at h
  ·cases h
  have:=UH f _ _ _ _ _ _ h;rw [Tz] at this;omega
def ZpZ (r:Bs):ZH r<=r.length:=by
 unfold ZH Zd
 have:=Ub (XR (WV r)) (r.drop (if WV r then 2 else 0));rw [Tz] at this
 by_cases h:WV r=true
 ·have:=(Ys h).1;simp only [h,if_true] at *;omega
 simp only [h,TB,if_false] at *;omega
def Zp0 {a:Nat} {r:Bs} {room:Bool} {t:Tok} (h0:0<r.length) (h:Jy a r room=.tok t):t.at'=a/\a<t.fin/\t.fin<=a+r.length:=by
 rw [Xc] at h;split at h
 ·cases h
 rename_i g0
 split at h
 ·cases h
 split at h
 ·cases h;rename_i g1;have:=Zg0 r h0;exact ⟨rfl,by simp only;omega,by simp only;omega⟩
 rename_i g1
 split at h
 ·unfold ZeQ at h
  split at h
  ·cases h
  rename_i t' l hx
  cases h
  have:=UH _ _ _ _ _ _ _ hx;rw [Tz] at this;exact ⟨rfl,by simp only;omega,by simp only;omega⟩
 rename_i g2
 split at h
 ·rename_i g3
  unfold Wy at h
  split at h
  ·cases h
  rename_i n hx
  cases h
  have aw:=ZpZ r;refine ⟨rfl,?_,by simp only;omega⟩;simp only;have ai:Zd r≠[]:=fun g=>by rw [Z0,Ti g] at hx;cases hx
  have:=List.length_pos_iff.2 ai;unfold ZH;omega
 rename_i g3
 cases h
 have h4:Zl (pk r).1=true:=by
  cases hb:Zl (pk r).1 with
  | true=>rfl
  | false=>exact absurd ⟨oM,g2,hb,by simpa using g3⟩ g0
 have:=ZpY r h4;exact ⟨rfl,by simp only;omega,by simp only;omega⟩
def Zp1 {a:Nat} {r:Bs} {room:Bool} {p e:Nat} (h:Jy a r room=.bad p e):e≠0/\e<=142:=by
 rw [Xc] at h
 repeat' split at h
 all_goals first | (cases h;done) | (cases h;omega) | (cases h;decide) | skip
 ·unfold ZeQ at h;split at h <;> cases h;decide
 unfold Wy at h;split at h <;> cases h;decide
def Zdv:∀(f:Nat) (r:Bs),(ZW f r).2<=r.length
 | 0,r=>T6 _
 | f+1,r=>by
  have hdw:=V9 (([32,9,13,10]:Bs).contains ·) r
  obtain ⟨rest,au⟩:∃x,x=Lib.trimLeftS r [32,9,13,10]:=⟨_,rfl⟩
  have fd:rest.length<=r.length:=by rw [au];exact hdw.2
  simp only [ZW,<- au];split
  ·rename_i h1
   have ih:=fun n=>Zdv f (rest.drop n)
   have aa:=Ua 10 rest;have ey:=Lib.indexByte_ge rest 10;have ih2:=ih (if Lib.indexByte rest 10<0 then rest.length else (Lib.indexByte rest 10).toNat);rw [Tz] at ih2;simp only;have:(if Lib.indexByte rest 10<0 then rest.length else (Lib.indexByte rest 10).toNat)<=rest.length:=by split <;> omega
   omega
  split
  ·rename_i h1 h2
   have hl:=(Ys h2).1;split
   ·simp only;omega
   rename_i h3
   have aw:=ZgV [42,47] (rest.drop 2) oM;simp only [Tz,Tf,Tj] at aw;have ih2:=Zdv f (rest.drop ((Lib.index (rest.drop 2) [42,47]).toNat+4));rw [Tz] at ih2;simp only;omega
  simp only;omega
end Go.PM.Lex
end

section
namespace Go.PM
def Zg1 (T:Tab) (tbl:Tbl) (it:ZfB) (gid:FuncId) (fn:Func):ZfB:=fun g args raw σ K=>∃loops,ZpO T tbl it gid fn loops g args raw σ K
def JC {G : GE} {T : Tab} {tbl : Tbl} (hT : TabOK T G.P) (ay : G.P.follows .mixedOrders = true) (ht : TblOK G tbl) (hm : TblM tbl) {it : ZfB} (kp : IterSem G it) {gid : FuncId} {fn : Func} {c : Code} (hf : G.P.funcs[gid]? = some fn) (hb : fn.body = some c) (ao : (fn.name == "runtime.NumGoroutine") = false)
  (ak:ZG fn.ntmps c=true):IterSem G (Zg1 T tbl it gid fn):=fun g args raw σ K h=>by
 obtain ⟨loops,h⟩:=h;exact ZnL hT ay ht hm kp hf hb ao ak loops g args raw σ K h
end Go.PM
namespace Go.PM.Lex
open Go.Proofs
variable {w0:World} {nG:Nat}
def Zp2:Zh:=fun args σ K=>match args,σ with
 | [.d (.str s),.d (.int .i64 m)],⟨[],[],0⟩=>K (.ret (.func 256 [] [.ptr 0 0,.ptr 1 0])) ⟨[.cells 9 [.d (.str s)],.cells 3 [.d (.int .i64 m)]],[],0⟩
 | _,_=>False
def ZnS:Zy Zp2:=fun args σ K K' hK h=>by
 unfold Zp2 at h |-;split at h <;> first | exact hK _ _ h | exact h.elim
def ZBd:PC w0 nG 230 Zp2:=by
 refine pwe Tryz.func230 fun args σ K h=>?_
 unfold Zp2 at h
 split at h
 ·rename_i s m
  refine pwv [] 2 false ?_;exact h
 exact h.elim
def Zxf (t:Tok):List D:=[.int .u8 t.kind,.str t.text,.int .i64 t.n,.int .i64 t.at',.int .i64 t.fin]
def ZB (l:List Tok):List (List D):=l.map Zxf
def ZS (l:List Tok):(ZB l).length=l.length:=by simp [ZB]
def ZfG (l:List Tok) (t:Tok):ZB (l++[t])=ZB l++[Zxf t]:=by simp [ZB]
def Zag:Zh:=fun args σ K=>match args,σ with
 | [.d (.str s),.d (.int .i64 m)],⟨[],[],0⟩=>s.length<4294967281 /\
   K (.ret (.tuple [.d (.sl (if (ZeR s m).2.2=0 then ZB (ZeR s m).1 else [])),.d (.int .i64 (ZeR s m).2.1),.d (.int .i64 (ZeR s m).2.2)])) ⟨[],[],0⟩
 | _,_=>False
def Zg2:Tbl:=[(257,Za7),(258,ZfD)]
def ZEd:ZfB:=Zg1 VE Zg2 ZfC 256 Tryz.f256
def Zp4 (ht:TO w0 nG Zg2):IterSem (GG w0 nG) ZEd:=JC Zr mixed ht ⟨Ziy,Zkq,trivial⟩ noIter_sem Tryz.func256 rfl kR kR
def muX (B:Int) (k:Nat):List PV->St->Nat:=fun _ σ=>match σ.bx[k]? with | some (.cells _ (_::.d (.int _ n)::_))=>(B - n).toNat | _=>0
def Zp5 (ic:TO w0 nG Zg2) (ht:TO w0 nG [(230,Zp2)]):PC w0 nG 183 Zag:=by
 refine Zkm Zr mixed ht ⟨ZnS,trivial⟩ (Zp4 ic) Tryz.func183 rfl kR kR ?_;intro args σ K h
 unfold Zag at h
 split at h
 ·rename_i s m
  obtain ⟨hs,h⟩:=h;refine ⟨Zg [],0,false,sM,Tb rfl,wN ?_⟩;intro y r
  refine ⟨Zg [(3,⟨[5],[0,1,2,4],fun vs σ=>∃(l:List Tok) (e f:Nat),vs=[.d (.int .i64 (l.length:Int))] /\
   σ=⟨[.cells 92 [.sl 0 117 []],.cells 3 [.d (.int .i64 0)],.cells 25 [.d (.int .i64 0)],.cells 92 [.sl 1 117 (ZB l)],.cells 9 [.d (.str s)],.cells 3 [.d (.int .i64 m)],.loop .ready none r,.cells 269 [.d (.str s),.d (.int .i64 e)]],[1,0],2⟩ /\
   (e<=s.length/\s.length<e+f/\l.length<=e)/\ZeR s m=(l++(V5 f (m - l.length) e (s.drop e)).1,(V5 f (m - l.length) e (s.drop e)).2),muX s.length 7⟩)],rfl,?_⟩
  conv=>whnf
  refine ⟨⟨[],0,s.length+1,rfl,rfl,⟨oM,oM,sM⟩,by simp [ZeR]⟩,?_⟩;intro vs σ1 hI
  obtain ⟨l,e,f,rfl,rfl,⟨he1,sk,aw⟩,co⟩:=hI;obtain ⟨f,rfl⟩:∃g,f=g+1:=⟨f - 1,oM⟩
  have dc:(YP (s.drop e)).2<=s.length - e:=by have:(YP (s.drop e)).2<=(s.drop e).length:=Zdv _ _;rw [Tz] at this;exact this
  have dq:∀p c:Nat,(V5 (f+1) (m - l.length) e (s.drop e)).2=(p,c)->c≠0->K (.ret (.tuple [.d (.sl []),.d (.int .i64 p),.d (.int .i64 c)])) ⟨[],[],0⟩:=fun p c g1 g2=>by
   have e1:(ZeR s m).2=(p,c):=by rw [co];exact g1
   rw [e1] at h;simp only at h;rw [Te g2] at h;exact h
  have ek:V5 (f+1) (m - l.length) e (s.drop e)=([],(0,0))->K (.ret (.tuple [.d (.sl (ZB l)),.d (.int .i64 0),.d (.int .i64 0)])) ⟨[],[],0⟩:=fun g=>by
   rw [co,g] at h;simp only [TU,if_true] at h;exact h
  conv=>whnf
  refine ⟨⟨oM,oM,oM⟩,wN ?_⟩;generalize x7:(YP (s.drop ((e:Int)).toNat)).2=k;have hk:(YP (s.drop e)).2=k:=x7;rw [hk] at dc;refine ZGt (fun h2=>wN ?_) (fun h2=>wN ?_)
  ·have dw:(YP (s.drop e)).1=false:=by simpa using h2
   have g1:V5 (f+1) (m - l.length) e (s.drop e)=([],(e+k,140)):=by rw [V5,Ti dw,hk]
   have g2:=dq _ _ (by rw [g1]) dM;rw [show ((e+k:Nat):Int)=(e:Int)+(k:Int) by omega] at g2;refine ⟨rfl,rfl,rfl,wN ?_⟩;refine ⟨rfl,wN ?_⟩
   iterate 6 (try (refine ⟨rfl,?_⟩;conv=>whnf))
   exact g2
  have dw:(YP (s.drop e)).1=true:=by simpa using h2
  have bq:¬(YP (s.drop e)).1=false:=by rw [dw];simp
  refine ZGr (fun h3=>wN ?_) (fun h3=>wN ?_)
  ·have fh:(s.drop e).drop k=[]:=by rw [TJ];exact Tm oM
   have g1:V5 (f+1) (m - l.length) e (s.drop e)=([],(0,0)):=by rw [V5,Te bq,hk,Ti fh]
   exact ek g1
  have aa:e+k<s.length:=by omega
  have ai:¬(s.drop e).drop k=[]:=fun g=>by have:=congrArg List.length g;rw [TJ,Tz] at this;simp at this;omega
  have g1:V5 (f+1) (m - l.length) e (s.drop e)=(match Jy (e+k) (s.drop (e+k)) (decide ((l.length:Int)<m)) with
    | .bad p e=>([],(p,e))
    | .tok t=>(t::(V5 f (m - l.length - 1) t.fin ((s.drop (e+k)).drop (t.fin - (e+k)))).1,(V5 f (m - l.length - 1) t.fin ((s.drop (e+k)).drop (t.fin - (e+k)))).2)):=by
   rw [V5,Te bq,hk,Te ai,TJ,show (decide (0<m - (l.length:Int)))=decide ((l.length:Int)<m) from by rw [decide_eq_decide];omega] <;> rfl
  refine ⟨⟨oM,oM,oM⟩,wN ?_⟩;generalize jd:Jy ((e:Int)+(k:Int)).toNat (s.drop ((e:Int)+(k:Int)).toNat) _=x;have hx:Jy (e+k) (s.drop (e+k)) (decide ((l.length:Int)<m))=x:=by
   rw [show ((e:Int)+(k:Int)).toNat=e+k by omega] at jd;exact jd
  rw [hx] at g1
  cases x with
  | bad p c =>
   have hc:=Zp1 hx;have g2:=dq p c (by rw [g1]) hc.1;(conv=>whnf);refine ⟨rfl,rfl,rfl,wN ?_⟩;refine ⟨rfl,wN ?_⟩;refine ZGu (fun h4=>wN ?_) (fun h4=>?_)
   ·iterate 6 (try (refine ⟨rfl,?_⟩;conv=>whnf))
    exact g2
   exact absurd h4 (by have:((c:Nat):Int)≠0:=oM;exact this)
  | tok t =>
  obtain ⟨ic,nf,ht3⟩:=Zp0 hD hx;rw [Tz] at ht3;(conv=>whnf);refine ⟨rfl,rfl,rfl,wN ?_⟩;refine ⟨rfl,wN ?_⟩;refine ⟨fun r hr=>by (simp at hr;subst hr;rfl),(show ((ZB l).length+1) * 48<=2 ^ 47 by rw [ZS];omega),(show (ZB l).length+1<=2 ^ 47 by rw [ZS];omega),wN ?_⟩
  iterate 3 (try (refine ⟨rfl,?_⟩;conv=>whnf))
  refine Zk ?_;refine ⟨⟨l++[t],t.fin,f,?_,?_,⟨oM,oM,by rw [Tc];simp;omega⟩,?_⟩,?_⟩
  ·rw [Tc];rfl
  ·rw [ZfG];rfl
  ·have hd:(s.drop (e+k)).drop (t.fin - (e+k))=s.drop t.fin:=by rw [TJ,show e+k+(t.fin - (e+k))=t.fin by omega]
   rw [co,g1,Tc];simp only [hd,Tf,Tj,Int.natCast_add,Int.sub_sub,Tp,Sl,List.nil_append];rfl
  exact (show ((s.length:Int) - (t.fin:Int)).toNat<((s.length:Int) - (e:Int)).toNat by omega)
 exact h.elim
end Go.PM.Lex
end

section
namespace Go.PM.Lex
open Go.Proofs
variable {w0:World} {nG:Nat}
def ZBe:Tbl:=[(313,ZD4),(314,Zdu)]
def ZiI (hg:GlobOK w0 nG):PC w0 nG 300 Jz:=by
 refine pwt (tbl:=ZBe) ⟨ZD6,ZnR hg,trivial⟩ Tryz.func300 fun args σ K h=>?_
 unfold Jz at h
 split at h
 ·rename_i l base bits
  obtain ⟨ge,⟨hl,rfl,rfl⟩,dq,d7⟩:=h;refine pwv [] 0 false ?_;refine ⟨ge,⟨hl,rfl,rfl⟩,fun h0=>?_,fun h0 h1=>?_,fun h0 h1=>?_⟩
  ·conv=>whnf
   refine ⟨⟨.inr rfl,hl.2⟩,wN ?_⟩;exact dq (.inl h0) _
  ·conv=>whnf
   refine ⟨⟨.inl rfl,hl.2⟩,wN ?_⟩;exact dq (.inr h1) _
  conv=>whnf
  exact d7 (by simp only [not_or];exact ⟨h0,h1⟩)
 exact h.elim
def Zp6:PC w0 nG 212 ZbL:=Zw1 ⟨ZnM,Wm,trivial⟩
def ZEe:PC w0 nG 282 ZlR:=Zw3 ⟨Wm,V6,trivial⟩
def ZBf:PC w0 nG 214 Zix:=Zw5 ⟨Zp6,Zaf,ZgT,trivial⟩
def ZBg (hg:GlobOK w0 nG):PC w0 nG 257 Za7:=Zts ⟨Zkp,Wm,V6,Ztp (by have:=hg.big;omega) hg.maxLen,trivial⟩
def Zxg (hg:GlobOK w0 nG):PC w0 nG 284 Zct:=ZpV ⟨Wm,ZgT,ZiI hg,Zp6,Zaf,trivial⟩
def ZiJ:PC w0 nG 273 JA:=YL (Zf Tryz.func273 kR rfl) fun args σ K h e w vs hS ha=>by
 unfold JA at h
 split at h
 ·obtain ⟨u,rfl,hu⟩:=ZgR ha
  cases hu.dint
  exact ⟨_,h,_,fun _ _=>.mkbool,(Tryz.utf8_ValidRune _ w).mono fun en w' ⟨h1,h2⟩=>⟨h1,by rw [h2];exact Grows.refl _⟩⟩
 exact h.elim
def ZfH:PC w0 nG 249 X8:=ZiG ⟨V6,ZiJ,trivial⟩
def ZEf:PC w0 nG 283 ZlS:=Zxc ⟨ZfH,ZbQ,Zp6,ZbR,ZiA,trivial⟩
def ZEg (hg:GlobOK w0 nG):PC w0 nG 258 ZfD:=Zxe ⟨Zp6,ZEe,Zaf,ZgT,ZEf,Zxg hg,ZBf,trivial⟩
def ZEh (hg:GlobOK w0 nG):TO w0 nG Zg2:=⟨ZBg hg,ZEg hg,trivial⟩
def Zxh (hg:GlobOK w0 nG):PC w0 nG 183 Zag:=Zp5 (ZEh hg) ⟨ZBd,trivial⟩
end Go.PM.Lex
end
