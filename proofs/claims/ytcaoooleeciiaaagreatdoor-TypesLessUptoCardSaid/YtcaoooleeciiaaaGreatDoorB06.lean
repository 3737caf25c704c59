/- A part of the proof: plain logic, contracts and laws over the given program. -/
import Derived.Test.YtcaoooleeciiaaaGreatDoorProg
import Derived.Lib.MapLaws
import Derived.Lib.Strings
import Derived.Lib.Bytealg
import Derived.Lib.Index
import Derived.Lib.SlTrimSet
import Derived.Lib.Small
import Derived.Test.YtcaoooleeciiaaaGreatDoorShelf
import Derived.Shelf.Strings.SlTrimAscii
import Derived.Shelf.Strings.Builder1
import Derived.Shelf.RegionOpenPlain
import Derived.Lib.Walk
import Derived.Lib.UnsafeStr
import Derived.Lib.Builder
import Derived.WalkKit
import Derived.Laws.Externs
import Derived.Lib.IndexAny
import Derived.KernelRfl
import Derived.Test.YtcaoooleeciiaaaGreatDoorB05
set_option linter.unusedVariables false
set_option linter.unusedSimpArgs false
set_option linter.all false
set_option maxRecDepth 100000
set_option maxHeartbeats 16000000
noncomputable section
section
namespace Go.PM.Lex
open Go.Proofs
abbrev yi:PV:=.d (.int .i64 0)
abbrev yb:PV:=.d (.int .u8 0)
abbrev ys:PV:=.d (.str [])
abbrev yf:PV:=.d (.bool false)
abbrev yp:PV:=.d .nilp
abbrev ya (a b:Nat) (k:TK) (z:D):TI:=⟨a,b,k,[.d z],false⟩
abbrev yr (n:Nat):TI:=⟨1,8,.ptr n,[yp],false⟩
abbrev yl (n:Nat):TI:=⟨1,24,.slice n,[.nils n],false⟩
abbrev yn (n:Nat) (t:TI):Tab:=.node .leaf n t .leaf
def ZaM:Tab:=(.node (.node (.node (.node (.node (.node (.node (yn 2 ⟨1,8,.int .i64,[yi],true⟩) 3 ⟨1,8,.int .i64,[yi],true⟩ .leaf) 4 ⟨1,1,.bool,[yf],false⟩ (yn 5 ⟨1,1,.int .u8,[yb],true⟩)) 6 ⟨1,1,.int .u8,[yb],true⟩ (.node (yn 7 ⟨4,24,.struct [(0,2),(1,3),(2,4),(3,6)],[yi,yi,yf,yb],false⟩) 8 ⟨4,24,.struct [(0,2),(1,3),(2,4),(3,6)],[yi,yi,yf,yb],false⟩ (yn 9 ⟨1,16,.string,[ys],false⟩))) 10 ⟨1,16,.string,[ys],false⟩ (.node (.node (.node (yn 11 ⟨1,16,.string,[ys],false⟩) 12 ⟨1,8,.int .u64,[.d (.int .u64 (0))],true⟩ .leaf) 13 ⟨2,24,.struct [(0,9),(1,12)],[ys,.d (.int .u64 (0))],false⟩ (yn 14 ⟨2,24,.struct [(0,9),(1,12)],[ys,.d (.int .u64 (0))],false⟩)) 15 (yr 348) (.node (yn 16 (yr 351)) 17 (yr 358) (yn 18 ⟨1,8,.struct [(0,17)],[yp],false⟩)))) 19 ⟨1,8,.struct [(0,17)],[yp],false⟩ (.node (.node (.node (.node (yn 20 ⟨1,16,.iface,[.d .nili],false⟩) 21 ⟨1,4,.int .i32,[.d (.int .i32 (0))],true⟩ .leaf) 22 (yl 42) (yn 23 (yl 47))) 24 (yl 37) (.node (yn 25 ⟨3,72,.struct [(0,22),(1,23),(2,24)],[.nils 42,.nils 47,.nils 37],false⟩) 26 ⟨3,72,.struct [(0,22),(1,23),(2,24)],[.nils 42,.nils 47,.nils 37],false⟩ (yn 27 ⟨1,8,.int .u64,[.d (.int .u64 (0))],true⟩))) 30 ⟨1,8,.int .i64,[yi],true⟩ (.node (.node (.node (yn 34 (yl 59)) 35 (yl 75) .leaf) 36 ⟨4,72,.struct [(0,9),(1,34),(2,35),(3,3)],[ys,.nils 59,.nils 75,yi],false⟩ (yn 37 ⟨4,72,.struct [(0,9),(1,34),(2,35),(3,3)],[ys,.nils 59,.nils 75,yi],false⟩)) 39 (yl 56) (.node (yn 40 (yl 45)) 41 ⟨6,96,.struct [(0,5),(1,9),(2,9),(3,39),(4,40),(5,3)],[yb,ys,ys,.nils 56,.nils 45,yi],false⟩ (yn 42 ⟨6,96,.struct [(0,5),(1,9),(2,9),(3,39),(4,40),(5,3)],[yb,ys,ys,.nils 56,.nils 45,yi],false⟩))))) 44 ⟨2,40,.struct [(0,9),(1,39)],[ys,.nils 56],false⟩ (.node (.node (.node (.node (.node (yn 45 ⟨2,40,.struct [(0,9),(1,39)],[ys,.nils 56],false⟩) 46 ⟨6,56,.struct [(0,9),(1,39),(2,4),(3,4),(4,4),(5,3)],[ys,.nils 56,yf,yf,yf,yi],false⟩ .leaf) 47 ⟨6,56,.struct [(0,9),(1,39),(2,4),(3,4),(4,4),(5,3)],[ys,.nils 56,yf,yf,yf,yi],false⟩ (yn 50 (yr 95))) 51 ⟨2,16,.struct [(0,3),(1,30)],[yi,yi],false⟩ (.node (yn 52 ⟨2,16,.struct [(0,3),(1,30)],[yi,yi],true⟩) 55 ⟨2,32,.struct [(0,9),(1,9)],[ys,ys],false⟩ (yn 56 ⟨2,32,.struct [(0,9),(1,9)],[ys,ys],true⟩))) 58 ⟨5,64,.struct [(0,5),(1,9),(2,2),(3,34),(4,3)],[yb,ys,yi,.nils 59,yi],false⟩ (.node (.node (.node (yn 59 ⟨5,64,.struct [(0,5),(1,9),(2,2),(3,34),(4,3)],[yb,ys,yi,.nils 59,yi],false⟩) 61 (yl 136) .leaf) 62 (yl 141) (yn 63 (yl 145))) 64 ⟨6,144,.struct [(0,22),(1,23),(2,24),(3,61),(4,62),(5,63)],[.nils 42,.nils 47,.nils 37,.nils 136,.nils 141,.nils 145],false⟩ (.node (yn 65 ⟨6,144,.struct [(0,22),(1,23),(2,24),(3,61),(4,62),(5,63)],[.nils 42,.nils 47,.nils 37,.nils 136,.nils 141,.nils 145],false⟩) 72 (yr 111) (yn 74 ⟨5,80,.struct [(0,5),(1,9),(2,34),(3,35),(4,3)],[yb,ys,.nils 59,.nils 75,yi],false⟩)))) 75 ⟨5,80,.struct [(0,5),(1,9),(2,34),(3,35),(4,3)],[yb,ys,.nils 59,.nils 75,yi],false⟩ (.node (.node (.node (.node (yn 76 (yr 121)) 82 (yr 88) .leaf) 83 (yr 86) (yn 84 (yl 5))) 85 ⟨2,32,.struct [(0,83),(1,84)],[yp,.nils 5],false⟩ (.node (yn 86 ⟨2,32,.struct [(0,83),(1,84)],[yp,.nils 5],false⟩) 87 ⟨2,32,.struct [(0,86)],[yp,.nils 5],false⟩ (yn 88 ⟨2,32,.struct [(0,86)],[yp,.nils 5],false⟩))) 92 ⟨1,8,.map 9 100,[.nilm],false⟩ (.node (.node (.node (yn 93 ⟨1,8,.map 9 3,[.nilm],false⟩) 94 ⟨7,104,.struct [(0,93),(1,93),(2,93),(3,92),(4,26)],[.nilm,.nilm,.nilm,.nilm,.nils 42,.nils 47,.nils 37],false⟩ .leaf) 95 ⟨7,104,.struct [(0,93),(1,93),(2,93),(3,92),(4,26)],[.nilm,.nilm,.nilm,.nilm,.nils 42,.nils 47,.nils 37],false⟩ (yn 100 ⟨2,16,.array 2 3,[yi,yi],false⟩)) 103 ⟨1,8,.map 9 4,[.nilm],false⟩ (.node (yn 106 (ya 1 8 .func .nilf)) 107 (ya 1 8 .func .nilf) (yn 110 ⟨7,96,.struct [(0,50),(1,37),(5,93),(6,4)],[yp,ys,.nils 59,.nils 75,yi,.nilm,yf],false⟩)))))) 111 ⟨7,96,.struct [(0,50),(1,37),(5,93),(6,4)],[yp,ys,.nils 59,.nils 75,yi,.nilm,yf],false⟩ (.node (.node (.node (.node (.node (.node (yn 117 (yl 170)) 120 ⟨6,64,.struct [(0,117),(1,3),(2,3),(3,3),(4,30),(5,3)],[.nils 170,yi,yi,yi,yi,yi],false⟩ .leaf) 121 ⟨6,64,.struct [(0,117),(1,3),(2,3),(3,3),(4,30),(5,3)],[.nils 170,yi,yi,yi,yi,yi],false⟩ (yn 126 (ya 1 8 .func .nilf))) 129 (ya 1 8 .func .nilf) (.node (yn 130 (ya 1 8 .func .nilf)) 132 (ya 1 8 .func .nilf) (yn 134 (yl 9)))) 135 ⟨11,232,.struct [(0,9),(1,134),(2,9),(3,134),(4,65),(10,3)],[ys,.nils 9,ys,.nils 9,.nils 42,.nils 47,.nils 37,.nils 136,.nils 141,.nils 145,yi],false⟩ (.node (.node (.node (yn 136 ⟨11,232,.struct [(0,9),(1,134),(2,9),(3,134),(4,65),(10,3)],[ys,.nils 9,ys,.nils 9,.nils 42,.nils 47,.nils 37,.nils 136,.nils 141,.nils 145,yi],false⟩) 138 (ya 1 8 .func .nilf) .leaf) 140 ⟨4,64,.struct [(0,9),(1,9),(2,134),(3,3)],[ys,ys,.nils 9,yi],false⟩ (yn 141 ⟨4,64,.struct [(0,9),(1,9),(2,134),(3,3)],[ys,ys,.nils 9,yi],false⟩)) 142 (ya 1 8 .func .nilf) (.node (yn 144 ⟨2,24,.struct [(0,9),(1,3)],[ys,yi],false⟩) 145 ⟨2,24,.struct [(0,9),(1,3)],[ys,yi],true⟩ (yn 146 (ya 1 8 .func .nilf))))) 151 ⟨3,3,.array 3 4,[yf,yf,yf],false⟩ (.node (.node (.node (.node (yn 152 ⟨3,48,.array 3 9,[ys,ys,ys],false⟩) 156 (yr 199) .leaf) 158 (yr 5) (yn 161 (yl 3))) 165 ⟨1,8,.map 9 134,[.nilm],false⟩ (.node (yn 169 ⟨5,48,.struct [(0,5),(1,9),(2,2),(3,3),(4,3)],[yb,ys,yi,yi,yi],false⟩) 170 ⟨5,48,.struct [(0,5),(1,9),(2,2),(3,3),(4,3)],[yb,ys,yi,yi,yi],true⟩ (yn 180 (ya 1 8 .func .nilf)))) 182 (ya 1 8 .func .nilf) (.node (.node (.node (yn 183 ⟨1,16,.iface,[.d .nili],false⟩) 184 ⟨1,16,.iface,[.d .nili],false⟩ .leaf) 193 ⟨2,16,.struct [(0,3),(1,30)],[yi,yi],false⟩ (yn 194 ⟨2,16,.struct [(0,3),(1,30)],[yi,yi],true⟩)) 196 ⟨3,40,.struct [(0,117),(1,3),(2,3)],[.nils 170,yi,yi],false⟩ (.node (yn 197 ⟨3,40,.struct [(0,117),(1,3),(2,3)],[.nils 170,yi,yi],false⟩) 198 ⟨4,48,.struct [(0,197),(3,3)],[.nils 170,yi,yi,yi],false⟩ (yn 199 ⟨4,48,.struct [(0,197),(3,3)],[.nils 170,yi,yi,yi],false⟩))))) 220 (yr 222) (.node (.node (.node (.node (.node (yn 221 ⟨2,24,.struct [(0,9),(1,3)],[ys,yi],false⟩) 222 ⟨2,24,.struct [(0,9),(1,3)],[ys,yi],true⟩ .leaf) 229 ⟨3,32,.struct [(0,3),(1,9),(2,3)],[yi,ys,yi],false⟩ (yn 230 ⟨3,32,.struct [(0,3),(1,9),(2,3)],[yi,ys,yi],true⟩)) 238 ⟨6,96,.array 6 9,[ys,ys,ys,ys,ys,ys],false⟩ (.node (yn 239 ⟨4,64,.array 4 9,[ys,ys,ys,ys],false⟩) 243 ⟨2,16,.struct [(0,3),(1,30)],[yi,yi],false⟩ (yn 244 ⟨2,16,.struct [(0,3),(1,30)],[yi,yi],true⟩))) 245 (yr 197) (.node (.node (.node (yn 282 ⟨1,8,.int .u64,[.d (.int .u64 (0))],true⟩) 289 ⟨2,2,.struct [(0,5),(1,5)],[yb,yb],false⟩ .leaf) 290 ⟨2,2,.struct [(0,5),(1,5)],[yb,yb],false⟩ (yn 291 ⟨32,32,.array 16 290,(.replicate 32 yb),false⟩)) 300 ⟨1,4,.int .u32,[.d (.int .u32 (0))],true⟩ (.node (yn 302 ⟨24,24,.array 24 5,(.replicate 24 yb),false⟩) 313 (yr 309) (yn 314 ⟨5,80,.array 5 9,[ys,ys,ys,ys,ys],false⟩)))) 321 ⟨20,160,.array 20 27,[.d (.int .u64 (0)),.d (.int .u64 (0)),.d (.int .u64 (0)),.d (.int .u64 (0)),.d (.int .u64 (0)),.d (.int .u64 (0)),.d (.int .u64 (0)),.d (.int .u64 (0)),.d (.int .u64 (0)),.d (.int .u64 (0)),.d (.int .u64 (0)),.d (.int .u64 (0)),.d (.int .u64 (0)),.d (.int .u64 (0)),.d (.int .u64 (0)),.d (.int .u64 (0)),.d (.int .u64 (0)),.d (.int .u64 (0)),.d (.int .u64 (0)),.d (.int .u64 (0))],false⟩ (.node (.node (.node (.node (yn 328 ⟨2,24,.struct [(0,9),(1,5)],[ys,yb],false⟩) 329 ⟨4,48,.array 2 328,[ys,yb,ys,yb],false⟩ .leaf) 333 ⟨1,8,.int .i64,[yi],true⟩ (yn 335 (yr 342))) 338 ⟨32,32,.array 32 5,(.replicate 32 yb),false⟩ (.node (yn 339 ⟨64,64,.array 64 5,(.replicate 64 yb),false⟩) 342 ⟨3,48,.struct [(0,9),(1,9),(2,184)],[ys,ys,.d .nili],false⟩ (yn 344 (yr 346)))) 346 ⟨1,16,.struct [(0,9)],[ys],false⟩ (.node (.node (yn 348 ⟨4,40,.struct [(0,17),(1,17),(2,17),(3,9)],[yp,yp,yp,ys],false⟩) 352 ⟨1,1,.int .u8,[yb],true⟩ (yn 353 ⟨1,1,.int .u8,[yb],true⟩)) 354 (ya 1 8 .func .nilf) (.node (yn 355 ⟨1,4,.int .i32,[.d (.int .i32 (0))],true⟩) 356 ⟨1,4,.int .i32,[.d (.int .i32 (0))],true⟩ (yn 358 ⟨11,48,.struct [(0,12),(1,12),(2,300),(3,352),(4,5),(5,5),(6,353),(7,354),(8,158),(9,355),(10,356)],[.d (.int .u64 (0)),.d (.int .u64 (0)),.d (.int .u32 (0)),yb,yb,yb,yb,.d .nilf,yp,.d (.int .i32 (0)),.d (.int .i32 (0))],false⟩)))))))
def ZR:TabOK ZaM Tryz.prog:=by unfold TabOK;kernel_rfl
def mixed:Tryz.prog.follows .mixedOrders=true:=by kernel_rfl
abbrev Bs:=List UInt8
def Zk (c:Int):Bool:=decide (48<=c/\c<=57)
def Ze (c:Int):Bool:=decide (c=95\/128<=c\/(97<=c/\c<=122)\/(65<=c/\c<=90))
def pk (r:Bs):Int×Nat:=if r=[]\/Lib.decodeL r=(65533,1) then (-1,1) else ((Lib.decodeL r).1,(Lib.decodeL r).2)
def YE:Nat->Bs->Nat
 | 0,_=>0
 | f+1,r=>if (pk r).1=46 then (if Ze (pk (r.drop 1)).1=true then (pk r).2+YE f (r.drop (pk r).2) else 0)
   else if Ze (pk r).1=true\/Zk (pk r).1=true then (pk r).2+YE f (r.drop (pk r).2) else 0
def Vj (r:Bs):Nat:=YE (r.length+1) r
def Zx:Nat->Bs->Bool×Nat
 | 0,_=>(false,0)
 | f+1,r =>
  let rest:=Lib.trimLeftS r [32,9,13,10]
  let k:=r.length - rest.length
  if Lib.hasPrefix rest [47,47]=true then
   let n:=if Lib.indexByte rest 10<0 then rest.length else (Lib.indexByte rest 10).toNat
   let t:=Zx f (rest.drop n)
   (t.1,k+n+t.2)
  else if Lib.hasPrefix rest [47,42]=true then
   if Lib.index (rest.drop 2) [42,47]<0 then (false,k) else
   let n:=(Lib.index (rest.drop 2) [42,47]).toNat+4
   let t:=Zx f (rest.drop n)
   (t.1,k+n+t.2)
  else (true,k)
def ZT (r:Bs):Bool×Nat:=Zx (r.length+1) r
def XT (fd:Bool) (b:UInt8):Bool:=Zk b.toNat || (fd && decide ((97<=b.toNat/\b.toNat<=102)\/(65<=b.toNat/\b.toNat<=70)))
def Zip (b:UInt8):Nat:=if b.toNat<=57 then b.toNat - 48 else if b.toNat<=70 then b.toNat - 55 else b.toNat - 87
def WP (base:Nat) (l:Bs):Nat:=l.foldl (fun n b=>n * base+Zip b) 0
def XZ (r:Bs):Bool:=Lib.hasPrefix r [48,120]
def Zb (r:Bs):Bs:=(r.drop (if XZ r then 2 else 0)).takeWhile (XT (XZ r))
def Zw (r:Bs):Nat:=(if XZ r then 2 else 0)+(Zb r).length
def ZP (r:Bs):Option Nat :=
 if Zb r=[] then none
 else if (if XZ r then 18446744073709551616 else 9223372036854775808)<=WP (if XZ r then 16 else 10) (Zb r) then none
 else if Ze (pk (r.drop (Zw r))).1=true\/Zk (pk (r.drop (Zw r))).1=true\/(XZ r=true/\16<(Zb r).length) then none
 else some (WP (if XZ r then 16 else 10) (Zb r))
def Zvc (c:Nat):Option UInt8:=if c=110 then some 10 else if c=116 then some 9 else if c=34 then some 34 else if c=92 then some 92 else none
inductive TR where
 | err (at':Nat) | ok (txt:Bs) (len:Nat)
 deriving DecidableEq
def ZE:Nat->Bs->Bool->Bs->Nat->TR
 | 0,_,_,_,_=>.err 0
 | f+1,r,esc,acc,p =>
  if r=[] then .err 0
  else if esc=true then (match Zvc (Lib.decodeL r).1 with
   | none=>.err (p - 1)
   | some b=>ZE f (r.drop (Lib.decodeL r).2) false (acc++[b]) (p+(Lib.decodeL r).2))
  else if (Lib.decodeL r).1=34 then .ok acc (p+1)
  else if (Lib.decodeL r).1=92 then ZE f (r.drop (Lib.decodeL r).2) true acc (p+(Lib.decodeL r).2)
  else if (pk r).1<32 then .err p
  else ZE f (r.drop (Lib.decodeL r).2) false (acc++Lib.encodeRune (Lib.decodeL r).1) (p+(Lib.decodeL r).2)
def Wl (r:Bs):TR:=ZE (r.length+1) (r.drop 1) false [] 1
def twos:List Bs:=[[58,45],[33,61],[60,61],[62,61],[60,58]]
def ones:Bs:=[40,41,91,93,123,125,44,46,58,33,61,60,62,43,45,42,47,37,124,36,126]
def YX (r:Bs):Nat:=if twos.any (Lib.hasPrefix r) then 2 else if ones.contains (r.getD 0 0) then 1 else 0
structure Tok where
 kind:Nat
 text:Bs
 n:Int
 at':Nat
 fin:Nat
 deriving DecidableEq
inductive NR where
 | bad (at':Nat) (e:Nat) | tok (t:Tok)
 deriving DecidableEq
def Wm (a:Nat) (r:Bs):NR:=match ZP r with | none=>.bad a 142 | some n=>.tok ⟨2,[],IntKind.i64.wrap n,a,a+Zw r⟩
def ZdD (a:Nat) (r:Bs):NR:=match Wl r with | .err p=>.bad (a+p) 141 | .ok t l=>.tok ⟨3,t,0,a,a+l⟩
def Vk (a:Nat) (r:Bs) (room:Bool):NR :=
 let c:=(pk r).1
 let n:=YX r
 if n=0/\c≠34/\Ze c=false/\Zk c=false then .bad a 140
 else if room=false then .bad a 3
 else if 0<n then .tok ⟨4,r.take n,0,a,a+n⟩
 else if c=34 then ZdD a r
 else if Zk c=true then Wm a r
 else .tok ⟨1,r.take (Vj r),0,a,a+Vj r⟩
def Wn:Nat->Int->Nat->Bs->List Tok×(Nat×Nat)
 | 0,_,_,_=>([],(0,0))
 | f+1,most,a,r =>
  if (ZT r).1=false then ([],(a+(ZT r).2,140))
  else
   let a:=a+(ZT r).2
   let r:=r.drop (ZT r).2
   if r=[] then ([],(0,0))
   else match Vk a r (decide (0<most)) with
    | .bad p e=>([],(p,e))
    | .tok t=>let u:=Wn f (most - 1) t.fin (r.drop (t.fin - a));(t::u.1,u.2)
def ZeR (s:Bs) (most:Int):List Tok×(Nat×Nat):=Wn (s.length+1) most 0 s
end Go.PM.Lex
end

section
noncomputable section
namespace Go.PM.Lex
open Go.Proofs
def kR {P:Prop} (h:P:=by kernel_rfl):P:=h
abbrev GG (w0:World) (nG:Nat):GE:=⟨Tryz.prog,w0,nG⟩
def pc {w0:World} {nG:Nat} {tbl:Tbl} {sp:Zq} {g:FuncId} {fn:Func} {c:Code} (ht:TblOK (GG w0 nG) tbl) (hf:Tryz.prog.funcs[g]?=some fn) (h:∀args σ K,sp args σ K->∃loops keep own,σ.bx.length<=keep/\args.length<=fn.ntmps/\WF (ctx ZaM tbl loops) fn keep own args σ K) (hb:fn.body=some c:=by rfl) (hn:(fn.name == "runtime.NumGoroutine") = false:=by kernel_rfl) (hk:ZF fn.ntmps c=true:=by kernel_rfl):PCalls (GG w0 nG) g sp:=Zka ZR mixed ht hf hb hn hk h
abbrev PC (w0:World) (nG:Nat):=PCalls (GG w0 nG)
abbrev TO (w0:World) (nG:Nat):=TblOK (GG w0 nG)
abbrev OKw (w0:World) (nG:Nat) (T:Tbl) (g:FuncId) (sp:Zq):Prop:=TO w0 nG T->PC w0 nG g sp
def pwt {w0:World} {nG:Nat} {tbl:Tbl} (ht:TO w0 nG tbl) {g:FuncId} {fn:Func} {sp:Zq} (hf:Tryz.prog.funcs[g]?=some fn) (h:∀args σ K,sp args σ K->∃loops keep own,σ.bx.length<=keep/\args.length<=fn.ntmps/\WF (ctx ZaM tbl loops) fn keep own args σ K) (hb:fn.body=some (Xm fn):=by rfl) (hn:(fn.name=="runtime.NumGoroutine")=false:=by kernel_rfl) (ho:ZF fn.ntmps (Xm fn)=true:=by kernel_rfl):PC w0 nG g sp:=Zka ZR mixed ht hf hb hn ho h
def pwo {w0:World} {nG:Nat} {tbl:Tbl} {g:FuncId} {fn:Func} {sp:Zq} (hf:Tryz.prog.funcs[g]?=some fn) (h:∀args σ K,sp args σ K->∃loops keep own,σ.bx.length<=keep/\args.length<=fn.ntmps/\WF (ctx ZaM tbl loops) fn keep own args σ K) (hb:fn.body=some (Xm fn):=by rfl) (hn:(fn.name=="runtime.NumGoroutine")=false:=by kernel_rfl) (ho:ZF fn.ntmps (Xm fn)=true:=by kernel_rfl):OKw w0 nG tbl g sp:=fun ht=>pwt ht hf h hb hn ho
def pwe {w0:World} {nG:Nat} {g:FuncId} {fn:Func} {sp:Zq} (hf:Tryz.prog.funcs[g]?=some fn) (h:∀args σ K,sp args σ K->∃loops keep own,σ.bx.length<=keep/\args.length<=fn.ntmps/\WF (ctx ZaM [] loops) fn keep own args σ K) (hb:fn.body=some (Xm fn):=by rfl) (hn:(fn.name=="runtime.NumGoroutine")=false:=by kernel_rfl) (ho:ZF fn.ntmps (Xm fn)=true:=by kernel_rfl):PC w0 nG g sp:=pwt (tbl:=[]) trivial hf h hb hn ho
def pwv {T:Tab} {tbl:Tbl} {fn:Func} {args:List PV} {σ:St} {K:PEnd->St->Prop} {Q:Prop} (l:List (Nat×LoopAnn)) (k:Nat) (b:Bool) (q:Q) (h:Q->WF (ctx T tbl (Zr l)) fn k b args σ K:=by intro k;(conv=>whnf);exact k) (h1:σ.bx.length<=k:=by simp) (h2:args.length<=fn.ntmps:=by exact Td rfl):∃loops keep own,σ.bx.length<=keep/\args.length<=fn.ntmps/\WF (ctx T tbl loops) fn keep own args σ K:=⟨Zr l,k,b,h1,h2,h q⟩
def pwu {T:Tab} {tbl:Tbl} {fn:Func} {args:List PV} {σ:St} {K:PEnd->St->Prop} (l:List (Nat×LoopAnn)) (k:Nat) (b:Bool) (q:WF (ctx T tbl (Zr l)) fn k b args σ K) (h1:σ.bx.length<=k:=by simp) (h2:args.length<=fn.ntmps:=by exact Td rfl):∃loops keep own,σ.bx.length<=keep/\args.length<=fn.ntmps/\WF (ctx T tbl loops) fn keep own args σ K:=⟨Zr l,k,b,h1,h2,q⟩
def lzI {i n m:Nat} (e:n=m) (h:(i:Int)<(n:Int)):i<m:=by omega
def lzE {i n m:Nat} (e:n=m) (hi:i<=m) (h:¬(i:Int)<(n:Int)):i=m:=by omega
def lzG {i n m:Nat} (e:n=m) (h:¬(i:Int)<(n:Int)):m<=i:=by omega
def lzM {i n:Nat} (h:i<n):((n:Int) - ((i:Int)+1)).toNat<((n:Int) - (i:Int)).toNat:=by omega
def mu1 (n:Nat):List PV->St->Nat:=fun vs _=>match vs with | [.d (.int _ i)]=>((n:Int) - i).toNat | _=>0
def mu2 (n:Nat):List PV->St->Nat:=fun vs _=>match vs with | [_,.d (.int _ i)]=>((n:Int) - i).toNat | _=>0
def Zg0 (s:Bs) (pos:Nat):decodeL s pos=Lib.decodeL (s.drop pos):=by
 have:=Lib.decodeL_drop ⟨s.toArray⟩ pos;simpa [decodeL] using this.symm
def X0:Zq:=fun args σ K=>match args with
 | [.d (.str s),.d (.str p)]=>K (.ret (.d (.bool (Lib.hasPrefix s p)))) σ
 | _=>False
def W5:Zq:=fun args σ K=>match args with
 | [.d (.str s),.d (.int .u8 c)]=>K (.ret (.d (.int .i64 (Lib.indexByte s c.toNat.toUInt8)))) σ
 | _=>False
def Zmo:Zq:=fun args σ K=>match args with
 | [.d (.str s),.d (.str p)]=>s.length<4294967281/\K (.ret (.d (.int .i64 (Lib.index s p)))) σ
 | _=>False
def ZeS:Zq:=fun args σ K=>match args with
 | [.d (.int .i32 c)]=>K (.ret (.d (.int .i64 (Lib.runeLen c)))) σ
 | _=>False
def Zcx:Zq:=fun args σ K=>match args with
 | [.d (.str s),.d (.str p)]=>(p.length<4294967281/\∀(j:Nat) b,p[j]?=some b->b.toNat<128)/\K (.ret (.d (.str (Lib.trimLeftS s p)))) σ
 | _=>False
abbrev Zgr (k:Int) (x:Bs) (n a f:Int):PV:=.agg [.d (.int .u8 k),.d (.str x),.d (.int .i64 n),.d (.int .i64 a),.d (.int .i64 f)]
abbrev Zkb (a e:Int):PV:=.agg [.d (.int .i64 a),.d (.int .i64 e)]
def NR.t:NR->Tok | .bad _ _=>⟨0,[],0,0,0⟩ | .tok t=>t
def NR.p:NR->Nat | .bad p _=>p | .tok _=>0
def NR.e:NR->Nat | .bad _ e=>e | .tok _=>0
abbrev ZHb (x:NR):PV:=.tuple [Zgr x.t.kind x.t.text x.t.n x.t.at' x.t.fin,Zkb x.p x.e]
def JY:Zq:=fun args σ K=>match args,σ with
 | [.d (.int .i32 c)],⟨[],[],0⟩=>(-1<=c/\c<2147483648)/\K (.ret (.d (.bool (Ze c)))) ⟨[],[],0⟩
 | _,_=>False
def ZeT:Zq:=fun args σ K=>match args,σ with
 | [.d (.int .i32 c)],⟨[],[],0⟩=>K (.ret (.d (.bool (Zk c)))) ⟨[],[],0⟩
 | _,_=>False
def Zdb:Zq:=fun args σ K=>match args,σ with
 | [.ptr 0 0,.d (.int .i64 at')],⟨[.cells t [.d (.str s),.d (.int .i64 a)]],[],0⟩=>(0<=at'/\s.length<4611686018427387904) /\
   K (.ret (.tuple [.d (.int .i32 (pk (s.drop at'.toNat)).1),.d (.int .i64 (pk (s.drop at'.toNat)).2)])) ⟨[.cells t [.d (.str s),.d (.int .i64 a)]],[],0⟩
 | _,_=>False
def Zkc:Zq:=fun args σ K=>match args,σ with
 | [.ptr 0 0],⟨[.cells t [.d (.str s),.d (.int .i64 a)]],[],0⟩=>(0<=a/\a<=s.length/\s.length<4294967281) /\
   K (.ret (Zgr 1 ((s.drop a.toNat).take (Vj (s.drop a.toNat))) 0 a (a+Vj (s.drop a.toNat)))) ⟨[.cells t [.d (.str s),.d (.int .i64 a)]],[],0⟩
 | _,_=>False
def Zcy:Zq:=fun args σ K=>match args,σ with
 | [.ptr 0 0],⟨[.cells t [.d (.str s),.d (.int .i64 a)]],[],0⟩=>(0<=a/\a<=s.length/\s.length<4294967281) /\
   K (.ret (.d (.bool (ZT (s.drop a.toNat)).1))) ⟨[.cells t [.d (.str s),.d (.int .i64 (a+(ZT (s.drop a.toNat)).2))]],[],0⟩
 | _,_=>False
def Zn2:Zq:=fun args σ K=>match args,σ with
 | [.ptr 0 0],⟨[.cells t [.d (.str s),.d (.int .i64 a)]],[],0⟩=>(0<=a/\a<s.length/\s.length<4294967281) /\
   K (.ret (.d (.int .i64 (YX (s.drop a.toNat))))) ⟨[.cells t [.d (.str s),.d (.int .i64 a)]],[],0⟩
 | _,_=>False
def Zkd:ZL Zcy:=fun args σ K K' hK h=>by
 unfold Zcy at h |-;split at h <;> first | exact ⟨h.1,hK _ _ h.2⟩ | exact h.elim
end Go.PM.Lex
end
end

section
noncomputable section
namespace Go.PM
def Y8 {G:GE} {g:FuncId} {sp:Zq} (lz:VX G.P g)
  (h:∀args σ K,sp args σ K->∀(e:Env) (w:World) (vs:Array Value),SRel G e σ w->ArgsRel G e σ w args vs->∃pv,K (.ret pv) σ/\∃v,(∀w',Grows w w'->VRel G e σ w' pv v)/\Calls G.P g vs w fun en w'=>en=.returned v/\Grows w w'):PCalls G g sp where
 enters:=lz
 calls:=fun args σ K hs n e w vs hS ha=>by
  obtain ⟨pv,hK,v,hv,hc⟩:=h args σ K hs e w vs hS ha;refine CallsIn.mono (callsIn_wide.2 hc) fun en w' ⟨he,hg⟩=>?_
  subst he;exact ⟨.ret pv,σ,e,hK,⟨v,rfl,hv w' hg⟩,hS.grow hg,(hg.stepped e σ).toLater⟩
def ZJ0 {w w':World} (h:RowKit.Below w.heap.size w w'):Grows w w':=⟨h.os,h.tape,h.output,h.size,h.block⟩
section
variable {G:GE} {e:Env} {σ:St} {w:World} {vs:Array Value}
def Zke {x:PV} (h:ArgsRel G e σ w [x] vs):∃u,vs=#[u]/\VRel G e σ w x u:=by
 obtain ⟨hs,hr⟩:=h;obtain ⟨l⟩:=vs
 match l,hs with
 | [u],_=>exact ⟨u,rfl,hr 0 x u rfl rfl⟩
def Zmp {x y:PV} (h:ArgsRel G e σ w [x,y] vs):∃u v,vs=#[u,v]/\VRel G e σ w x u/\VRel G e σ w y v:=by
 obtain ⟨hs,hr⟩:=h;obtain ⟨l⟩:=vs
 match l,hs with
 | [u,v],_=>exact ⟨u,v,rfl,hr 0 x u rfl rfl,hr 1 y v rfl rfl⟩
end
end Go.PM
namespace Go.PM.Lex
open Go.Proofs
variable {w0:World} {nG:Nat}
def Vt:PC w0 nG 200 X0:=Y8 (Zg Tryz.func200 kR rfl) fun args σ K h e w vs hS ha=>by
 unfold X0 at h
 split at h
 ·obtain ⟨u,v,rfl,hu,hv⟩:=Zmp ha
  cases hu.dstr;cases hv.dstr
  exact ⟨_,h,_,fun _ _=>.mkbool,(Tryz.strings_HasPrefix _ _ w).mono fun en w' ⟨h1,h2⟩=>⟨h1,by rw [h2];exact Grows.refl _⟩⟩
 exact h.elim
def Jm:PC w0 nG 235 W5:=Y8 (Zg Tryz.func235 kR rfl) fun args σ K h e w vs hS ha=>by
 unfold W5 at h
 split at h
 ·obtain ⟨u,v,rfl,hu,hv⟩:=Zmp ha
  cases hu.dstr;cases hv.dint
  exact ⟨_,h,_,fun _ _=>.mkint,(Tryz.strings_IndexByte _ _ w).mono fun en w' ⟨h1,h2⟩=>⟨h1,by rw [h2];exact Grows.refl _⟩⟩
 exact h.elim
def Zqa:PC w0 nG 199 ZeS:=Y8 (Zg Tryz.func199 kR rfl) fun args σ K h e w vs hS ha=>by
 unfold ZeS at h
 split at h
 ·obtain ⟨u,rfl,hu⟩:=Zke ha
  cases hu.dint
  exact ⟨_,h,_,fun _ _=>.mkint,(Tryz.utf8_RuneLen _ w).mono fun en w' ⟨h1,h2⟩=>⟨h1,by rw [h2];exact Grows.refl _⟩⟩
 exact h.elim
def ZvI (h2:2<nG) (hm:∃m,w0.cell? ⟨2,0,none⟩=some (.int .i64 m)):PC w0 nG 244 Zmo:=Y8 (Zg Tryz.func244 kR rfl) fun args σ K h e w vs hS ha=>by
 unfold Zmo at h
 split at h
 ·rename_i s p
  obtain ⟨u,v,rfl,hu,hv⟩:=Zmp ha
  cases hu.dstr;cases hv.dstr
  obtain ⟨m,hm⟩:=hm;have xz:w.cell? ⟨2,0,none⟩=some (.int .i64 m):=by
   have:=hS.glob 2 h2;simpa [World.cell?,this] using hm
  exact ⟨_,h.2,_,fun _ _=>.mkint,(Tryz.strings_Index ⟨s.toArray⟩ ⟨p.toArray⟩ m w (show s.toArray.size<_ by simpa using h.1) xz).mono fun en w' ⟨h1,h2⟩=>⟨h1,by rw [h2];exact Grows.refl _⟩⟩
 exact h.elim
def Zmq:PC w0 nG 243 Zcx:=Y8 (Zg Tryz.func243 kR rfl) fun args σ K h e w vs hS ha=>by
 unfold Zcx at h
 split at h
 ·rename_i s p
  obtain ⟨u,v,rfl,hu,hv⟩:=Zmp ha
  cases hu.dstr;cases hv.dstr
  refine ⟨_,h.2,_,fun _ _=>.mkstr,(Any.strings_TrimLeft_laid Tryz.lays161 kR ⟨s.toArray⟩ ⟨p.toArray⟩ w (show p.toArray.size<_ by simpa using h.1.1) h.1.2).mono fun en w' ⟨h1,h2⟩=>⟨h1,ZJ0 h2⟩⟩
 exact h.elim
end Go.PM.Lex
end
end

section
noncomputable section
namespace Go.PM.Lex
open Go.Proofs
def Zi (l:Bs):List (List D):=l.map fun b=>[.int .u8 b.toNat]
def ZaN:Zq:=fun args σ K=>match args,σ with
 | [.d (.str l),.d (.int .i64 base),.d (.int .i64 bits)],⟨[],[],0⟩=>∃fd:Bool,((l.all (XT fd)=true/\l.length<4294967281)/\base=(if fd then 16 else 10)/\bits=(if fd then 64 else 63)) /\
   ((l=[]\/(if fd then 18446744073709551616 else 9223372036854775808)<=WP (if fd then 16 else 10) l)->∀n,K (.ret (.tuple [.d (.int .u64 n),.iface 335 .undef])) ⟨[],[],0⟩) /\
   (¬(l=[]\/(if fd then 18446744073709551616 else 9223372036854775808)<=WP (if fd then 16 else 10) l)->K (.ret (.tuple [.d (.int .u64 (WP (if fd then 16 else 10) l)),.d .nili])) ⟨[],[],0⟩)
 | _,_=>False
def UF:Zq:=fun args σ K=>match args,σ with
 | [.ptr 0 0,.d (.int .u8 c)],⟨[.cells t [p,.sl 0 e rows]],[0],1⟩=>((p=.d .nilp\/p=.ptr 0 0)/\t=86/\e=5/\(∀r∈rows,r.length=1)/\rows.length<70368744177664) /\
   K (.ret (.d .nili)) ⟨[.cells t [.ptr 0 0,.sl 0 e (rows++[[.int .u8 c]])]],[0],1⟩
 | _,_=>False
def UG:Zq:=fun args σ K=>match args,σ with
 | [.ptr 0 0,.d (.int .i32 c)],⟨[.cells t [p,.sl 0 e rows]],[0],1⟩=>((p=.d .nilp\/p=.ptr 0 0)/\t=86/\e=5/\(∀r∈rows,r.length=1)/\rows.length<70368744177664/\0<=c/\c<=1114111) /\
   K (.ret (.tuple [.d (.int .i64 (((rows++Zi (Lib.encodeRune c)).length:Int) - (rows.length:Int))),.d .nili])) ⟨[.cells t [.ptr 0 0,.sl 0 e (rows++Zi (Lib.encodeRune c))]],[0],1⟩
 | _,_=>False
def ZdW:Zq:=fun args σ K=>match args,σ with
 | [.ptr 0 0],⟨[.cells t [p,.sl 0 e rows]],[0],1⟩=>∃l:Bs,(rows=Zi l/\t=86/\e=5/\(p=.d .nilp\/p=.ptr 0 0)/\l.length<70368744177664)/\K (.ret (.d (.str l))) ⟨[.cells t [p,.d (.sl rows)]],[],0⟩
 | _,_=>False
def ZeU (s:Bs) (c:Int):Int:=if c<128 then Lib.indexByte s c.toNat.toUInt8 else -1
def W6:Zq:=fun args σ K=>match args,σ with
 | [.d (.str s),.d (.int .i32 c)],⟨[],[],0⟩=>((s=[110,116,34,92]\/s=[10,9,34,92])/\0<=c/\c<=1114111)/\K (.ret (.d (.int .i64 (ZeU s c)))) ⟨[],[],0⟩
 | _,_=>False
def ZdX:Zq:=fun args σ K=>match args,σ with
 | [.ptr 0 0],⟨[.cells t [.d (.str s),.d (.int .i64 a)]],[],0⟩=>(0<=a/\a<s.length/\s.length<4294967281) /\
   K (.ret (ZHb (Wm a.toNat (s.drop a.toNat)))) ⟨[.cells t [.d (.str s),.d (.int .i64 a)]],[],0⟩
 | _,_=>False
def Zn3:Zq:=fun args σ K=>match args,σ with
 | [.ptr 0 0],⟨[.cells t [.d (.str s),.d (.int .i64 a)]],[],0⟩=>(0<=a/\a<s.length/\s.length<4294967281) /\
   K (.ret (ZHb (ZdD a.toNat (s.drop a.toNat)))) ⟨[.cells t [.d (.str s),.d (.int .i64 a)]],[],0⟩
 | _,_=>False
def Zg1:Zq:=fun args σ K=>match args,σ with
 | [.ptr 0 0,.d (.bool room)],⟨[.cells t [.d (.str s),.d (.int .i64 a)]],[],0⟩=>(0<=a/\a<s.length/\s.length<4294967281) /\
   K (.ret (ZHb (Vk a.toNat (s.drop a.toNat) room))) ⟨[.cells t [.d (.str s),.d (.int .i64 a)]],[],0⟩
 | _,_=>False
def Zmr:ZL Zg1:=fun args σ K K' hK h=>by
 unfold Zg1 at h |-;split at h <;> first | exact ⟨h.1,hK _ _ h.2⟩ | exact h.elim
end Go.PM.Lex
end
end

section
namespace Go.PM
def UH {G:GE} {g:FuncId} {sp:Zq} (lz:VX G.P g)
  (h:∀args σ K,sp args σ K->∀(e:Env) (w:World) (vs:Array Value),SRel G e σ w->ArgsRel G e σ w args vs->∃pv σ' v,K (.ret pv) σ'/\Calls G.P g vs w fun en w'=>en=.returned v/\VRel G e σ' w' pv v/\SRel G e σ' w'/\Later e σ w e σ' w'):PCalls G g sp where
 enters:=lz
 calls:=fun args σ K hs n e w vs hS ha=>by
  obtain ⟨pv,σ',v,hK,hc⟩:=h args σ K hs e w vs hS ha;refine CallsIn.mono (callsIn_wide.2 hc) fun en w' ⟨he,hv,jm,hL⟩=>?_
  subst he;exact ⟨.ret pv,σ',e,hK,⟨v,rfl,hv⟩,jm,hL⟩
section
variable {G:GE} {T:Tab} {e:Env} {σ:St} {w:World}
def ZeV (hT:TabOK T G.P) (hS:SRel G e σ w) {t:TypeId} {b off:Nat} {x:PV} {v:Value} {l cs:List PV} {ty:TypeId} (hb:σ.bx[b]?=some (.cells ty cs)) (hx:VRel G e σ w x v) (hl:x.cells=some l)
  (aa:l.length=(T.get t).size) (oe:off+l.length<=cs.length) (hk:(T.get t).kind≠.other) :
  Stepped e σ w e (σ.set b (.cells ty (Z9 cs off l))) (w.setCells (e.β b) off v.cells.toList)/\SRel G e (σ.set b (.cells ty (Z9 cs off l))) (w.setCells (e.β b) off v.cells.toList):=by
 obtain ⟨w1,hr,h1,h2⟩:=ZaF hT hS hb hx hl aa oe hk;obtain ⟨i,d,z,hi,hd,hs,dq,az,hz,co,_⟩:=(hT.get hk).ex;obtain ⟨vs,my,qa,zy⟩:=hS.box b _ hb;obtain ⟨dg,bw⟩:=VW hx hl;have hvc:v.cells.toList.length=l.length:=by simpa using dg
 have jc:∀u∈v.cells.toList,u.oneCell'=true:=fun u hu=>by
  exact mq150
 have ai:=run_storeCells_cells (P:=G.P) (e.β b) off v.cells.toList 0 w (fun j hj=>by
   have:off+j<vs.size:=oM;simp [World.cell?,my,this]) (fun j hj=>by simp [World.frozen?,my]) jc
 simp only [SQ] at ai;have cu:(Instr.storeAt t (.pointer (some ⟨e.β b,off,none⟩)) v).run G.P w=.ok () (w.setCells (e.β b) off v.cells.toList):=by
  have mz:v.cells.size=i.size:=by rw [dg,aa,hs]
  exact mq66
 rw [cu] at hr
 cases hr
 exact ⟨h1,h2⟩
end
end Go.PM
namespace Go.PM.Lex
open Go.Proofs Go.Shelf
variable {w0:World} {nG:Nat}
def u50:Tryz.prog.underlying 83=some (.pointer 86):=kR
def u95:Tryz.prog.underlying 267=some .unsafePointer:=kR
def i53:∃j,Tryz.prog.info? 86=some j/\j.size=2:=by
 have h:(Tryz.prog.info? 86).map (·.size)=some 2:=kR
 obtain ⟨j,h1,h2⟩:=TF.1 h;exact ⟨j,h1,h2⟩
def ZDE:liesAt Tryz.prog Tryz.prog.depth 86 (2 / Tryz.prog.cellsOf 86) 0 86 1=true:=kR
def Zkf (b:Nat) (w:World) (h0:w.cell? ⟨b,0,none⟩=some (.pointer (some ⟨b,0,none⟩))) :
  Calls Tryz.prog 173 #[.pointer (some ⟨b,0,none⟩)] w fun e w'=>e=.returned (.tuple #[])/\w'=w:=by
 obtain ⟨j,hj,s4⟩:=i53
 go_enter Tryz.func173,Tryz.ntmps173
 go_wp2
 rw [Go.Lib.run_neq_ptr_same w _ u50 hj]
 go_wp2
 go_end0
 exact ⟨rfl,rfl⟩
def Zqb (b:Nat) (w:World) (h0:w.cell? ⟨b,0,none⟩=some (.pointer none)) (kl:w.shape? b=some (86,2)) (kg:w.frozen? ⟨b,0,none⟩=false) :
  Calls Tryz.prog 173 #[.pointer (some ⟨b,0,none⟩)] w fun e w'=>e=.returned (.tuple #[])/\w'=w.setCell ⟨b,0,none⟩ (.pointer (some ⟨b,0,none⟩)):=by
 obtain ⟨j,hj,s4⟩:=i53
 go_enter Tryz.func173,Tryz.ntmps173
 go_wp2
 rw [Go.Lib.run_to_unsafe w ⟨b,0,none⟩ u50 u95 hj (by rw [s4];decide) kl (Nat.zero_lt_succ 1)];simp only [Result.andThen];rw [Oper.upon_value]
 go_wp2
 rw [run_callFunc_extern Tryz.func208 kR kR kR (e:=Extern.AbiNoEscape.same) kR];rw [Go.Lib.run_noEscape];simp only [Result.andThen];rw [Oper.upon_value]
 go_wp2
 rw [Go.Lib.run_from_unsafe w ⟨b,0,none⟩ u95 u50 hj kl ZDE];simp only [Result.andThen];rw [Oper.upon_value]
 go_wp2
 go_end0
 exact ⟨rfl,rfl⟩
def UI:Zq:=fun args σ K=>match args,σ with
 | [.ptr 0 0],⟨[.cells t [p,q]],tk,nx⟩=>((p=.d .nilp\/p=.ptr 0 0)/\t=86)/\K (.ret (.tuple [])) ⟨[.cells t [.ptr 0 0,q]],tk,nx⟩
 | _,_=>False
def Zdc:PC w0 nG 173 UI:=UH (Zg Tryz.func173 kR rfl) fun args σ K h e w vs hS ha=>by
 unfold UI at h
 split at h
 ·rename_i t p q tk nx
  obtain ⟨⟨hp,rfl⟩,hK⟩:=h;obtain ⟨u,rfl,hu⟩:=Zke ha;obtain ⟨cv,dg,bw,j8⟩:=hS.box 0 _ rfl;have dk:cv.size=2:=bw;obtain ⟨x0,ji⟩:∃x,cv[0]?=some x:=⟨cv[0]'oM,by simp [dk]⟩
  have lv:=(j8 0 p x0 rfl ji).1
  cases hu with
  | ptr b off hb =>
  refine ⟨_,_,.tuple #[],hK,?_⟩;rcases hp with rfl | rfl
  ·cases lv with
   | d _ _ hd =>
   cases hd
   refine Calls.mono (Zqb (e.β 0) w ?_ ?_ ?_) fun en w' ⟨h1,h2⟩=>?_
   ·simp [World.cell?,dg,ji]
   ·simp only [World.shape?,dg,dk]
   ·simp [World.frozen?,dg]
   have hst:=ZeV (G:=GG w0 nG) (T:=ZaM) ZR hS (t:=83) (b:=0) (off:=0) (x:=.ptr 0 0) (v:=.pointer (some ⟨e.β 0,0,none⟩)) (l:=[.ptr 0 0]) (cs:=[.d .nilp,q]) (ty:=86) rfl (.ptr 0 0 hb) rfl rfl sM (by intro h;cases h);rw [h2];exact ⟨h1,.tuple [] #[] rfl (fun i x u hx=>by simp at hx),hst.2,hst.1.toLater⟩
  exact mq84
 exact h.elim
def Zsh {P:Program} {ρ:Ren} (L:Lays.n169 P ρ) (X:Builder.Extra P ρ) (b g cap:Nat) (p:Value) (cur:Array Value) (fz:Nat×Nat) (l:Bs) (w:World) (h0:l≠[])
  (pr:w.heap[b]?=some (.cells #[p,.slice (some ⟨g,0,none⟩) l.length cap] (ρ.t 72) (0,0))) (hg:w.heap[g]?=some (.cells cur (ρ.t 5) fz)) (hn:l.length<=cur.size) (hcap:cap≠0) (cy:l.length<=9223372036854775807)
  (bf:∀j x,l[j]?=some x->w.cell? ⟨g,j,none⟩=some (.int .u8 x.toNat)) :
  Calls P (ρ.f 169) #[.pointer (some ⟨b,0,none⟩)] w fun e w'=>e=.returned (.string ⟨l.toArray⟩)/\w'=w.drew.freeze ⟨g,0,none⟩ l.length:=by
 have c1:w.drew.cell? ⟨b,1,none⟩=some (.slice (some ⟨g,0,none⟩) l.length cap):=by
  have:w.drew.heap[b]?=some (.cells #[p,.slice (some ⟨g,0,none⟩) l.length cap] (ρ.t 72) (0,0)):=pr;rw [Go.Lib.cell_of_heap this];rfl
 have hSD:(Builtin.unsafeSliceData_ #[(ρ.t 37)] (ρ.t 127) #[.slice (some ⟨g,0,none⟩) l.length cap]).run P w.drew=.ok (.pointer (some ⟨g,0,none⟩)) w.drew :=
  Go.Lib.run_unsafeSliceData_row _ _ _ _ _ _ hcap
 have hUS:(Builtin.unsafeString_ #[(ρ.t 127),(ρ.t 3)] (ρ.t 9) #[.pointer (some ⟨g,0,none⟩),.int .i64 l.length]).run P w.drew=.ok (.string ⟨l.toArray⟩) (w.drew.freeze ⟨g,0,none⟩ l.length):=by
  exact mq67
 have mixed:=L.mixed;have t72:=L.t72;have a72:=L.a72;have z72:=L.z72;have v72:=L.v72;have u72:=run_underlying L.t72;have t70:=L.t70;have a70:=L.a70;have z70:=L.z70;have v70:=L.v70;have u70:=run_underlying L.t70;have t37:=L.t37;have a37:=L.a37;have z37:=L.z37;have v37:=L.v37;have u37:=run_underlying L.t37;have t127:=L.t127;have a127:=L.a127;have z127:=L.z127;have v127:=L.v127;have u127:=run_underlying L.t127;have t3:=L.t3;have a3:=L.a3;have z3:=L.z3;have v3:=L.v3;have u3:=run_underlying L.t3;have t9:=L.t9;have a9:=L.a9;have z9:=L.z9;have v9:=L.v9;have u9:=run_underlying L.t9;have t5:=X.t5;have a5:=X.a5;have z5:=X.z5;have v5:=X.v5;have u5:=run_underlying X.t5
 go_enter L.f169,Body.n169_ntmps ρ
 go_wp2
 go_region_o
 all_goals (go_wp2;go_ret;exact ⟨rfl,rfl⟩)
def UJ (w:World) (g n k:Nat) (hk:k≠g):(w.drew.freeze ⟨g,0,none⟩ n).heap[k]?=w.heap[k]?:=by
 unfold World.freeze
 split
 ·rfl
 simp only [SL];rw [Tb (fun h=>hk h.symm)];rfl
def Zms (w:World) (g n:Nat) {cs:Array Value} {ty:TypeId} {fz:Nat×Nat} (h:w.heap[g]?=some (.cells cs ty fz)):∃fz',(w.drew.freeze ⟨g,0,none⟩ n).heap[g]?=some (.cells cs ty fz'):=by
 have h':w.drew.heap[g]?=some (.cells cs ty fz):=h;unfold World.freeze
 split
 ·exact ⟨fz,h'⟩
 simp only [SL,if_true,h',So];exact ⟨_,rfl⟩
def ZDF {G:GE} {e:Env} {w w':World} {t:TypeId} {p:PV} {rows:List (List D)} (hp:p=.d .nilp\/p=.ptr 0 0) (hS:SRel G e ⟨[.cells t [p,.sl 0 5 rows]],[0],1⟩ w)
  (hsz:w.heap.size<=w'.heap.size) (qh:w'.os=w.os) (htp:w'.tape=w.tape) (ju:w'.output=w.output)
  (bf:∀b off u,w.cell? ⟨b,off,none⟩=some u->w'.cell? ⟨b,off,none⟩=some u)
  (gj:∀b,b<w.heap.size->(∀q,e.M 0=some q->q.1≠b)->w'.heap[b]?=w.heap[b]?) :
  SRel G e ⟨[.cells t [p,.d (.sl rows)]],[],0⟩ w'/\Later e ⟨[.cells t [p,.sl 0 5 rows]],[0],1⟩ w e ⟨[.cells t [p,.d (.sl rows)]],[],0⟩ w':=by
 have hL:Later e ⟨[.cells t [p,.sl 0 5 rows]],[0],1⟩ w e ⟨[.cells t [p,.d (.sl rows)]],[],0⟩ w':={
  len:=Tw _
  beta:=fun _ _=>rfl
  X:=rfl
  pres:=fun b off u hu ho=>⟨⟨ho.1,ho.2.1,(fun x hx=>by cases hx),ho.2.2.2⟩,bf b off u hu⟩
  fhid:=fun b h=>.inr (.inr h)
  blocks:=fun b hb h1 h2 _=>gj b hb fun q hq=>h2 0 sM q hq
  size:=hsz
  os:=qh
  tape:=htp
  output:=ju
  fresh:=fun i h1 h2=>by simp at h1 h2;omega
  ftok:=fun x hx=>by cases hx }
 have ab:=hS.lt (i:=0) sM;have oz:w'.heap[e.β 0]?=w.heap[e.β 0]?:=gj _ ab fun q hq=>fun h=>(hS.own 0 sM q hq).2.1 0 sM h.symm
 refine ⟨?_,hL⟩;exact {
  inj:=hS.inj
  box:=fun i x hx=>by
   match i,hx with
   | 0,hx =>
    cases hx
    obtain ⟨cv,h1,h2,h3⟩:=hS.box 0 _ rfl;refine ⟨cv,oz.trans h1,h2,fun j y u hy hu=>?_⟩
    match j,hy with
    | 0,hy =>
     exact mq88
    | 1,hy =>
     cases hy
     obtain ⟨q1,q2⟩:=h3 1 (.sl 0 5 rows) u rfl hu;refine ⟨?_,q2⟩
     cases q1 with
     | sl _ _ _ _ hn hd ht=>exact .d _ _ (hd.later hL)
    | j+2,hy=>simp at hy
   | i+1,hx=>simp at hx
  low:=hS.low
  tkn:=fun x hx=>by cases hx
  own:=fun x hx=>by cases hx
  dis:=fun x y hx=>by cases hx
  xlt:=fun b off hx=>TG (hS.xlt b off hx) hsz
  xown:=fun x hx=>by cases hx
  hid:=fun b q hq=>let ⟨k1,k2,k3,k4,k5⟩:=hS.hid b q hq;⟨k1,TG k2 hsz,k3,(fun x hx=>by cases hx),k5⟩
  glob:=fun b hb=>by
   rw [gj b (TG hb hS.big) fun q hq=>fun h=>by have:=(hS.own 0 sM q hq).1;omega];exact hS.glob b hb
  big:=Sc hS.big hsz }
def Xv (l:Bs):(Zi l).length=l.length:=by simp [Zi]
def ZDG:(Tryz.prog.info? 5).map (·.size)=some 1:=kR
def Zkg:PC w0 nG 26 ZdW:=UH (Zg Tryz.func26 kR rfl) fun args σ K h e w vs hS ha=>by
 unfold ZdW at h
 split at h
 ·rename_i t p el rows
  obtain ⟨l,⟨rfl,rfl,rfl,hp,cy⟩,hK⟩:=h;obtain ⟨u,rfl,hu⟩:=Zke ha;obtain ⟨cv,dg,bw,j8⟩:=hS.box 0 _ rfl;have dk:cv.size=2:=bw;obtain ⟨v0,v1,rfl⟩:∃v0 v1,cv=#[v0,v1]:=by
   obtain ⟨lst⟩:=cv
   match lst,dk with
   | [a,b],_=>exact ⟨a,b,rfl⟩
  have bj:=(j8 1 (.sl 0 5 (Zi l)) v1 rfl rfl).1
  cases hu with
  | ptr b off hb =>
  refine ⟨_,_,.string ⟨l.toArray⟩,hK,?_⟩;have fin:∀w',w.heap.size<=w'.heap.size->w'.os=w.os->w'.tape=w.tape->w'.output=w.output ->
    (∀b off u,w.cell? ⟨b,off,none⟩=some u->w'.cell? ⟨b,off,none⟩=some u) ->
    (∀b,b<w.heap.size->(∀q,e.M 0=some q->q.1≠b)->w'.heap[b]?=w.heap[b]?) ->
    VRel (GG w0 nG) e ⟨[.cells 86 [p,.d (.sl (Zi l))]],[],0⟩ w' (.d (.str l)) (.string ⟨l.toArray⟩)/\SRel (GG w0 nG) e ⟨[.cells 86 [p,.d (.sl (Zi l))]],[],0⟩ w'/\Later e ⟨[.cells 86 [p,.sl 0 5 (Zi l)]],[0],1⟩ w e ⟨[.cells 86 [p,.d (.sl (Zi l))]],[],0⟩ w':=fun w' h1 h2 h3 h4 h5 h6 =>
   ⟨.mkstr,ZDF hp hS h1 h2 h3 h4 h5 h6⟩
  have grown:∀w',Grows w w'->_:=fun w' g=>fin w' g.size g.os g.tape g.output (fun b off u hu=>(g.cell (Uz hu)).trans hu) (fun b hb _=>g.old b hb)
  cases bj with
  | sl _ _ _ _ hn hd ht =>
  rcases ht sM with ⟨rfl,bz,hM⟩ | ⟨sz,g1,g2,g3,g,off,cap,cs,ty,fz,rfl,g4,g5,g6,⟨g7,rfl,rfl,g8⟩,g9,hM⟩
  ·have hl:l=[]:=by simpa [Zi] using bz
   subst hl;refine (Any.Builder_String_nil Tryz.lays169 Tryz.Builder_Extra_169 w.heap.size (e.β 0) v0 w dg).mono fun en w' ⟨h1,h2⟩=>?_
   exact ⟨h1,grown w' (ZJ0 h2)⟩
  have kr:sz=1:=by
   have:(Tryz.prog.info? 5).map (·.size)=some sz:=g1
   rw [ZDG] at this;cases this;rfl
  subst kr;rw [Xv] at g5 dg g9 hM hd
  by_cases hl:l=[]
  ·subst hl;refine (Any.Builder_String_room Tryz.lays169 Tryz.Builder_Extra_169 w.heap.size (e.β 0) g cap v0 w oM dg).mono fun en w' ⟨h1,h2⟩=>?_
   exact ⟨h1,grown w' (ZJ0 h2)⟩
  have bf:∀j x,l[j]?=some x->w.cell? ⟨g,j,none⟩=some (.int .u8 x.toNat):=by
   exact mq32
  obtain ⟨fz',qq⟩:=Zms w g l.length g6;refine (Zsh Tryz.lays169 Tryz.Builder_Extra_169 (e.β 0) g cap v0 cs fz l w hl dg g6 oM oM oM bf).mono fun en w' ⟨h1,h2⟩=>?_
  rw [h2];refine ⟨h1,fin _ ?_ ?_ ?_ ?_ ?_ ?_⟩
  ·unfold World.freeze;split <;> first | exact Tw _ | (simp only [Array.size_modify];exact Tw _)
  ·exact mq152
  ·exact mq152
  ·exact mq152
  ·exact mq110
  intro b hb hq
  exact UJ w g l.length b fun h=>hq _ hM h.symm
 exact h.elim
end Go.PM.Lex
end

section
namespace Go.PM.Lex
open Go.Proofs
variable {w0:World} {nG:Nat}
def orB (n:Fin 128):Zh .or .i32 (n.val:Int) 32=((n.val ||| 32:Nat):Int):=by rw [YB];revert n;decide +kernel
def orM:Zh .or .i32 (-1) 32=-1:=by rw [YB];decide +kernel
def orL:∀n:Fin 128,(97<=(n.val ||| 32)/\(n.val ||| 32)<=122)↔((97<=n.val/\n.val<=122)\/(65<=n.val/\n.val<=90)):=by decide +kernel
def Zsi {c:Int} (h0:-1<=c) (h1:c<128):(97<=Zh .or .i32 c 32/\Zh .or .i32 c 32<=122)↔((97<=c/\c<=122)\/(65<=c/\c<=90)):=by
 by_cases hc:c=-1
 ·subst hc;rw [orM];omega
 obtain ⟨n,rfl⟩:∃n:Nat,c=n:=⟨c.toNat,oM⟩
 have hn:n<128:=oM;have h2:=orB ⟨n,hn⟩;have h3:=orL ⟨n,hn⟩;simp only at h2 h3;rw [h2];omega
def Zn4 {K:PEnd->St->Prop} {b b':Bool} {σ:St} (h:K (.ret (.d (.bool b))) σ) (h1:b=b'):K (.ret (.d (.bool b'))) σ:=by subst h1;exact h
def Ziq:PC w0 nG 201 ZeT:=by
 refine Zka ZR mixed (tbl:=[]) trivial Tryz.func201 rfl kR kR ?_;intro args σ K h
 unfold ZeT at h
 split at h
 ·rename_i c
  refine ⟨Zr [],0,false,dM,Td rfl,?_⟩;refine ZJU (fun h1=>?_) (fun h1=>?_)
  ·refine Zn4 h ?_;simp only [Zk,decide_eq_decide];omega
  refine Zn4 h ?_;simp only [Zk,decide_eq_false_iff_not];omega
 exact h.elim
def Zbx:PC w0 nG 160 JY:=by
 refine Zka ZR mixed (tbl:=[]) trivial Tryz.func160 rfl kR kR ?_;intro args σ K h
 unfold JY at h
 split at h
 ·rename_i c
  obtain ⟨⟨h0,_⟩,h⟩:=h;refine ⟨Zr [],0,false,dM,Td rfl,?_⟩
  repeat' ((conv=>whnf);refine ZJU (fun h1=>?_) (fun h1=>?_))
  all_goals (conv=>whnf)
  all_goals (try (have hl:=Zsi (c:=c) h0 oM))
  all_goals (refine Zn4 h ?_;simp only [Ze,TV,decide_eq_false_iff_not,decide_eq_decide];omega)
 exact h.elim
def ZJd (r:Bs):Lib.hasPrefix r [239,191,189]=true↔2<r.length/\(r.getD 0 0).toNat=239/\(r.getD 1 0).toNat=191/\(r.getD 2 0).toNat=189:=by
 unfold Lib.hasPrefix
 match r with
 | []=>simp
 | [a]=>simp [List.isPrefixOf]
 | [a,b]=>simp [List.isPrefixOf]
 | a::b::c::l =>
  have ha:=UInt8.toNat_inj (a:=239) (b:=a);have hb:=UInt8.toNat_inj (a:=191) (b:=b);have hc:=UInt8.toNat_inj (a:=189) (b:=c);simp only [List.isPrefixOf,Bool.and_true,Tm,beq_iff_eq,Te,SW,SX];rw [<- ha,<- hb,<- hc];have e1:(239:UInt8).toNat=239:=rfl;have e2:(191:UInt8).toNat=191:=rfl;have e3:(189:UInt8).toNat=189:=rfl;rw [e1,e2,e3];omega
def ZID (r:Bs) (hv:(Lib.decodeL r).1=65533):(Lib.hasPrefix r [239,191,189]=true/\(Lib.decodeL r).2=3)\/(¬Lib.hasPrefix r [239,191,189]=true/\(Lib.decodeL r).2=1):=by
 rw [ZJd];rw [Lib.decodeL_N] at hv |-;have k0:=(r.getD 0 0).toNat_lt;have k1:=(r.getD 1 0).toNat_lt;have k2:=(r.getD 2 0).toNat_lt;have k3:=(r.getD 3 0).toNat_lt
 by_cases hp:2<r.length/\(r.getD 0 0).toNat=239/\(r.getD 1 0).toNat=191/\(r.getD 2 0).toNat=189
 ·left
  refine ⟨hp,?_⟩;obtain ⟨p0,p1,p2,p3⟩:=hp;rw [p1,p2,p3];unfold Lib.decodeN
  have hl:1<r.length:=oM;simp [p0,hl]
 right
 refine ⟨hp,?_⟩;rcases Lib.decodeN_shape r.length (r.getD 0 0).toNat (r.getD 1 0).toNat (r.getD 2 0).toNat (r.getD 3 0).toNat with ⟨c,e⟩ | ⟨c1,c2,c3,cv,e⟩ | ⟨c1,c2,c3,c4,cv,cs,e⟩ | ⟨c1,c2,c3,c4,c5,cv,cw,e⟩ | e
 all_goals (rw [e] at hv)
 all_goals (dsimp only at hv)
 ·omega
 ·omega
 ·exact absurd ⟨c2,oM,oM,oM⟩ hp
 ·omega
 rw [e]
def Zas:pk []=(-1,1):=by simp [pk]
def ZvJ (r:Bs) (h0:0<r.length) (hv:¬(Lib.decodeL r).1=65533):pk r=(((Lib.decodeL r).1:Int),(Lib.decodeL r).2):=by
 have aj:r≠[]:=fun h=>by subst h;simp at h0
 have:Lib.decodeL r≠(65533,1):=fun h=>hv (by rw [h])
 simp [pk,aj,this]
def Zy7 (r:Bs) (h0:0<r.length) (hp:Lib.hasPrefix r [239,191,189]=true) (hv:(Lib.decodeL r).1=65533):pk r=(65533,3):=by
 have aj:r≠[]:=fun h=>by subst h;simp at h0
 rcases ZID r hv with ⟨_,h2⟩ | ⟨h1,_⟩
 ·have:Lib.decodeL r≠(65533,1):=fun h=>by rw [h] at h2;simp at h2
  simp [pk,aj,this,hv,h2]
 exact absurd hp h1
def ZDH (r:Bs) (hp:¬Lib.hasPrefix r [239,191,189]=true) (hv:(Lib.decodeL r).1=65533):pk r=(-1,1):=by
 rcases ZID r hv with ⟨h1,h2⟩ | ⟨_,h2⟩
 ·exact absurd h1 hp
 have:Lib.decodeL r=(65533,1):=Prod.ext hv h2;simp [pk,this]
def Zsj (r:Bs):1<=(pk r).2/\(pk r).2<=4:=by
 unfold pk
 split
 ·simp
 rename_i h
 simp only [not_or] at h;simp only;rw [Lib.decodeL_N];rcases Lib.decodeN_shape r.length (r.getD 0 0).toNat (r.getD 1 0).toNat (r.getD 2 0).toNat (r.getD 3 0).toNat with ⟨c,e⟩ | ⟨c1,c2,c3,cv,e⟩ | ⟨c1,c2,c3,c4,cv,cs,e⟩ | ⟨c1,c2,c3,c4,c5,cv,cw,e⟩ | e
 all_goals (rw [e];simp)
def Vu (r:Bs):-1<=(pk r).1/\(pk r).1<=1114111:=by
 unfold pk
 split
 ·simp
 simp only;exact mq64
def ZvK (r:Bs) (h:(pk r).1≠-1):1<=(pk r).2/\(pk r).2<=r.length/\r≠[]:=by
 have hl:=Zsj r;unfold pk at h hl |-
 split at h
 ·exact absurd rfl h
 rename_i h1
 simp only [not_or] at h1;rw [Tb (by simp only [not_or];exact h1)] at hl |-;exact ⟨hl.1,Lib.decodeL_le r h1.1,h1.1⟩
def Jn {s:Bs} {n:Nat}:cut s n s.length=s.drop n:=by simp [cut]
def Zy9:OKw w0 nG [(199,ZeS),(200,X0)] 159 Zdb:=by
 refine pwo Tryz.func159 fun args σ K h=>?_
 unfold Zdb at h
 split at h
 ·rename_i at' t s a
  obtain ⟨⟨h0,hs⟩,h⟩:=h;refine pwv [(2,⟨[],[0,1,21],fun vs σ=>vs=[]/\σ=⟨[.cells t [.d (.str s),.d (.int .i64 a)],.iter (s.drop at'.toNat) 0],[],0⟩,fun _ _=>0⟩)] 1 false ?_;have f7:cut s (min at' (s.length:Int)).toNat s.length=s.drop at'.toNat:=by
   rw [Jn]
   by_cases hl:at'<=s.length
   ·rw [Int.min_eq_left hl]
   rw [Int.min_eq_right oM,TA oM,TA oM]
  refine ⟨oM,wN ?_⟩;refine ⟨oM,wN ?_⟩;refine ⟨⟨rfl,?_⟩,?_⟩
  ·rw [f7];rfl
  intro vs σ1 hI
  obtain ⟨rfl,rfl⟩:=hI;refine ZJU (fun h1=>wN ?_) (fun h1=>wN ?_)
  ·refine ZJX (fun h2=>wN ?_) (fun h2=>wN ?_)
   ·rw [Zg0] at h2;have hl:0<(s.drop at'.toNat).length:=by simpa using h1
    rw [Si] at h2;have aj:¬(Lib.decodeL (s.drop at'.toNat)).1=65533:=oM;rw [ZvJ _ hl aj] at h;rw [Zg0,Si];have hr:=Lib.runeLen_decode _ aj;rw [hr];exact h
   rw [Zg0] at h2;have hl:0<(s.drop at'.toNat).length:=by simpa using h1
   have hd:(Lib.decodeL (s.drop at'.toNat)).1=65533:=by rw [Si] at h2;omega
   refine ⟨h0,by simp at hl;omega,wN ?_⟩;refine ZJY (fun h3=>wN ?_) (fun h3=>wN ?_)
   ·rw [Jn] at h3;rw [Zy7 _ hl h3 hd] at h;rw [Zg0,Si,hd];exact h
   rw [Jn] at h3;rw [ZDH _ (by rw [h3];simp) hd] at h;exact h
  have:s.drop at'.toNat=[]:=by simp at h1;exact TA oM
  rw [this,Zas] at h;exact h
 exact h.elim
def muI (B:Int):List PV->St->Nat:=fun vs _=>match vs with | .d (.int _ n)::_=>(B - n).toNat | _=>0
def Zzb:OKw w0 nG [(200,X0),(235,W5)] 245 Zn2:=by
 refine pwo Tryz.func245 fun args σ K h=>?_
 unfold Zn2 at h
 split at h
 ·rename_i t s a
  obtain ⟨⟨h0,h1,hs⟩,h⟩:=h;refine pwv [(3,⟨[16],[0,3,15],fun vs σ=>σ=⟨[.cells t [.d (.str s),.d (.int .i64 a)]],[],0⟩/\∃i:Nat,i<=5/\vs=[.d (.int .i64 i)]/\(twos.take i).any (Lib.hasPrefix (s.drop a.toNat))=false,muI 5⟩)] 1 false ?_;refine ⟨h0,oM,wN ?_⟩;rw [Jn];refine ⟨⟨rfl,0,oM,rfl,rfl⟩,?_⟩;intro vs σ1 hI
  obtain ⟨rfl,i,hi,rfl,hn⟩:=hI
  match i,hi,hn with
  | 0,hi,hn =>
   conv=>whnf
   refine ⟨oM,oM,wN ?_⟩;refine ZJY (fun h2=>wN ?_) (fun h2=>wN ?_)
   ·exact mq40
   refine Zl ?_;refine ⟨⟨rfl,1,oM,rfl,?_⟩,?_⟩
   ·have cz:Lib.hasPrefix (s.drop a.toNat) (twos.getD 0 [])=false:=h2;exact mq57
   exact (show (5 - (((0:Nat):Int)+1)).toNat<(5 - ((0:Nat):Int)).toNat by omega)
  | 1,hi,hn =>
   conv=>whnf
   refine ⟨oM,oM,wN ?_⟩;refine ZJY (fun h2=>wN ?_) (fun h2=>wN ?_)
   ·exact mq40
   refine Zl ?_;refine ⟨⟨rfl,2,oM,rfl,?_⟩,?_⟩
   ·have cz:Lib.hasPrefix (s.drop a.toNat) (twos.getD 1 [])=false:=h2;exact mq57
   exact (show (5 - (((1:Nat):Int)+1)).toNat<(5 - ((1:Nat):Int)).toNat by omega)
  | 2,hi,hn =>
   conv=>whnf
   refine ⟨oM,oM,wN ?_⟩;refine ZJY (fun h2=>wN ?_) (fun h2=>wN ?_)
   ·exact mq40
   refine Zl ?_;refine ⟨⟨rfl,3,oM,rfl,?_⟩,?_⟩
   ·have cz:Lib.hasPrefix (s.drop a.toNat) (twos.getD 2 [])=false:=h2;exact mq57
   exact (show (5 - (((2:Nat):Int)+1)).toNat<(5 - ((2:Nat):Int)).toNat by omega)
  | 3,hi,hn =>
   conv=>whnf
   refine ⟨oM,oM,wN ?_⟩;refine ZJY (fun h2=>wN ?_) (fun h2=>wN ?_)
   ·exact mq40
   refine Zl ?_;refine ⟨⟨rfl,4,oM,rfl,?_⟩,?_⟩
   ·have cz:Lib.hasPrefix (s.drop a.toNat) (twos.getD 3 [])=false:=h2;exact mq57
   exact (show (5 - (((3:Nat):Int)+1)).toNat<(5 - ((3:Nat):Int)).toNat by omega)
  | 4,hi,hn =>
   conv=>whnf
   refine ⟨oM,oM,wN ?_⟩;refine ZJY (fun h2=>wN ?_) (fun h2=>wN ?_)
   ·exact mq40
   refine Zl ?_;refine ⟨⟨rfl,5,oM,rfl,?_⟩,?_⟩
   ·have cz:Lib.hasPrefix (s.drop a.toNat) (twos.getD 4 [])=false:=h2;exact mq57
   exact (show (5 - (((4:Nat):Int)+1)).toNat<(5 - ((4:Nat):Int)).toNat by omega)
  | 5,hi,hn =>
   conv=>whnf
   refine ⟨oM,sO,wN ?_⟩;refine ZJU (fun h2=>wN ?_) (fun h2=>wN ?_)
   ·have e:YX (s.drop a.toNat)=1:=by
     have hc:ones.contains ((s.drop a.toNat).getD 0 0)=true:=by
      rw [Lib.contains_iff_indexByte];simpa [ones] using h2
     rw [YX,Tb (by simpa [twos] using hn),Tg hc]
    rw [e] at h;exact h
   have e:YX (s.drop a.toNat)=0:=by
    have hc:ones.contains ((s.drop a.toNat).getD 0 0)=false:=by
     rw [Lib.contains_iff_indexByte];simpa [ones] using h2
    rw [YX,Tb (by simpa [twos] using hn),Tb (by rw [hc];simp)]
   rw [e] at h;exact h
 exact h.elim
def Jo:Ze (-1)=false:=dM
def ZaO:Zk (-1)=false:=dM
def Zcz {f:Nat} {r:Bs} (h1:(pk r).1=46) (h2:Ze (pk (r.drop 1)).1=true):YE (f+1) r=(pk r).2+YE f (r.drop (pk r).2):=by rw [YE,Tg h1,Tg h2]
def WE {f:Nat} {r:Bs} (h1:(pk r).1=46) (h2:Ze (pk (r.drop 1)).1=false):YE (f+1) r=0:=by rw [YE,Tg h1,Tb (by rw [h2];simp)]
def Zby {f:Nat} {r:Bs} (h1:¬(pk r).1=46) (h2:Ze (pk r).1=true\/Zk (pk r).1=true):YE (f+1) r=(pk r).2+YE f (r.drop (pk r).2):=by rw [YE,Tb h1,Tg h2]
def V6 {f:Nat} {r:Bs} (h1:¬(pk r).1=46) (h2:Ze (pk r).1=false) (h3:Zk (pk r).1=false):YE (f+1) r=0:=by rw [YE,Tb h1,Tb (by simp [h2,h3])]
def Zir {s:Bs} {a b:Nat}:cut s a b=(s.drop a).take (b - a):=by simp [cut,List.drop_take]
def Zzd:OKw w0 nG [(159,Zdb),(160,JY),(201,ZeT)] 161 Zkc:=by
 refine pwo Tryz.func161 fun args σ K h=>?_
 unfold Zkc at h
 split at h
 ·rename_i t s a
  obtain ⟨⟨h0,h1,hs⟩,h⟩:=h;obtain ⟨a,rfl⟩:∃n:Nat,a=n:=⟨a.toNat,oM⟩
  simp only [Tn] at h;refine pwu [(2,⟨[3],[0,2],fun vs σ=>σ=⟨[.cells t [.d (.str s),.d (.int .i64 a)],.cells 170 [.d (.int .u8 0),.d (.str []),.d (.int .i64 0),.d (.int .i64 0),.d (.int .i64 0)]],[],0⟩ /\
   ∃e f:Nat,a<=e/\e<=s.length/\vs=[.d (.int .i64 e)]/\s.length<e+f/\e+YE f (s.drop e)=a+Vj (s.drop a),muI s.length⟩)] 1 false ?_
  conv=>whnf
  refine ⟨⟨rfl,a,s.length - a+1,oM,oM,rfl,oM,by simp [Vj]⟩,?_⟩;intro vs σ1 hI
  obtain ⟨rfl,e,f,he1,qj,rfl,hf,hn⟩:=hI;obtain ⟨f,rfl⟩:∃g,f=g+1:=⟨f - 1,oM⟩
  have uq:=Vu (s.drop e);have jr:=Zsj (s.drop e);have x7:=ZvK (s.drop e);have wj:=Vu (s.drop ((e:Int)+1).toNat);have ec:YE (f+1) (s.drop e)=0->K (.ret (Zgr 1 (cut s a e) 0 a e)) ⟨[.cells t [.d (.str s),.d (.int .i64 a)]],[],0⟩:=fun h3=>by
   have e2:Vj (s.drop a)=e - a:=by rw [h3] at hn;omega
   rw [e2,show (a:Int)+((e - a:Nat):Int)=(e:Int) by omega,<- Zir] at h;exact h
  have ib:∀n:Nat,1<=n->e+n<=s.length->YE (f+1) (s.drop e)=n+YE f ((s.drop e).drop n)->a<=e+n/\e+n<=s.length/\s.length<(e+n)+f/\(e+n)+YE f (s.drop (e+n))=a+Vj (s.drop a):=fun n h1 h2 h3=>by
   rw [TU] at h3;exact ⟨oM,h2,oM,by rw [<- hn,h3];omega⟩
  conv=>whnf
  refine ⟨⟨oM,oM⟩,wN ?_⟩;refine ZJU (fun h2=>wN ?_) (fun h2=>wN ?_)
  ·refine Zl ?_;refine ⟨⟨oM,oM⟩,wN ?_⟩;refine ⟨⟨oM,oM⟩,wN ?_⟩;have hw:((e:Int)+1).toNat=e+1:=oM;refine ZJY (fun h3=>wN ?_) (fun h3=>wN ?_)
   ·rw [hw] at h3;refine ⟨oM,oM,oM,wN ?_⟩;exact ec (WE h2 (by rw [TU];simpa using h3))
   rw [hw] at h3;have aj:(pk (s.drop e)).1≠-1:=by have:(pk (s.drop e)).1=46:=h2;omega
   obtain ⟨g1,g2,g3⟩:=x7 aj;have g2':e+(pk (s.drop e)).2<=s.length:=by rw [TD] at g2;omega
   refine Or.inl ⟨InR.i64 tN tN,wN ?_⟩;obtain ⟨k1,k2,k3,k4⟩:=ib _ g1 g2' (Zcz h2 (by rw [TU];simpa using h3));exact mq58
  have cz:¬(pk (s.drop e)).1=46:=h2;have fin:∀(h4:Ze (pk (s.drop e)).1=true\/Zk (pk (s.drop e)).1=true),a<=e+(pk (s.drop e)).2/\e+(pk (s.drop e)).2<=s.length/\s.length<(e+(pk (s.drop e)).2)+f/\(e+(pk (s.drop e)).2)+YE f (s.drop (e+(pk (s.drop e)).2))=a+Vj (s.drop a):=fun h4=>by
   have aj:(pk (s.drop e)).1≠-1:=fun h5=>by rw [h5,Jo,ZaO] at h4;simp at h4
   obtain ⟨g1,g2,g3⟩:=x7 aj;have g2':e+(pk (s.drop e)).2<=s.length:=by rw [TD] at g2;omega
   exact ib _ g1 g2' (Zby cz h4)
  refine ⟨⟨uq.1,tN⟩,wN ?_⟩;refine ZJY (fun h3=>wN ?_) (fun h3=>wN ?_)
  ·have eg:Ze (pk (s.drop e)).1=false:=by simpa using h3
   refine ZJY (fun h4=>wN ?_) (fun h4=>wN ?_)
   ·have j9:Zk (pk (s.drop e)).1=false:=by simpa using h4
    refine ⟨oM,oM,oM,wN ?_⟩;exact ec (V6 cz eg j9)
   have j9:Zk (pk (s.drop e)).1=true:=by simpa using h4
   obtain ⟨k1,k2,k3,k4⟩:=fin (.inr j9);refine Or.inl ⟨InR.i64 tN tN,wN ?_⟩;exact mq58
  have eg:Ze (pk (s.drop e)).1=true:=by simpa using h3
  obtain ⟨k1,k2,k3,k4⟩:=fin (.inl eg);refine Or.inl ⟨InR.i64 tN tN,wN ?_⟩;exact mq58
 exact h.elim
def ZJe (B:Int):List PV->St->Nat:=fun _ σ=>match σ.bx with | .cells _ (_::.d (.int _ n)::_)::_=>(B - n).toNat | _=>0
def Vv (p:UInt8->Bool):∀r:Bs,r.dropWhile p=r.drop (r.length - (r.dropWhile p).length)/\(r.dropWhile p).length<=r.length
 | []=>sM
 | x::r=>by
  have ih:=Vv p r
  by_cases hx:p x=true
  ·simp only [SY,hx,if_true,Te];refine ⟨?_,oM⟩;rw [show r.length+1 - (r.dropWhile p).length=(r.length - (r.dropWhile p).length)+1 by omega,List.drop_succ_cons];exact ih.1
  simp [SY,hx]
def Jp (c:UInt8):∀l:Bs,Lib.indexByte l c<l.length\/Lib.indexByte l c=-1
 | []=>.inr rfl
 | b::l=>by
  have ih:=Jp c l;unfold Lib.indexByte
  split
  ·left;simp
  split
  ·exact .inr rfl
  rename_i h1 h2
  rcases ih with h | h
  ·left;simp;omega
  rw [h] at h2;simp at h2
def Zis (p:Bs):∀l:Bs,0<=Lib.index l p->Lib.index l p+p.length<=l.length
 | [],h=>by
  unfold Lib.index at h |-
  split at h
  ·rename_i hp
   simp at hp;subst hp;simp
  omega
 | b::l,h=>by
  have ih:=Zis p l;unfold Lib.index at h |-
  split at h
  ·rename_i hp
   have:=List.IsPrefix.length_le (List.isPrefixOf_iff_prefix.1 hp);simp only [hp,if_true];simp only [Te] at this |-;omega
  split at h
  ·omega
  rename_i h1 h2
  have:=Lib.index_ge l p;have h3:Lib.index l p≠-1:=by simpa using h2
  simp only [h1,h2,Tx,if_false];have:=ih oM;simp only [Te];omega
def Z4 {r:Bs} {a b:UInt8} (h:Lib.hasPrefix r [a,b]=true):2<=r.length/\r=a::b::r.drop 2:=by
 obtain ⟨t,rfl⟩:=List.isPrefixOf_iff_prefix.1 h;simp
def Zbz {r:Bs} {a b c:UInt8} (h:Lib.hasPrefix r [a,b]=true) (ha:a≠c) (hb:b≠c) (h0:0<=Lib.indexByte r c):2<=Lib.indexByte r c:=by
 rw [(Z4 h).2] at h0 |-;have h1:(a == c)=false:=by simpa using ha
 have h2:(b == c)=false:=by simpa using hb
 have hg:=Lib.indexByte_ge (r.drop 2) c;simp only [Lib.indexByte,h1,h2,Tx,if_false] at h0 |-
 by_cases hm:Lib.indexByte (r.drop 2) c=-1
 ·rw [hm] at h0;simp at h0
 have xz:(Lib.indexByte (r.drop 2) c == -1)=false:=by simpa using hm
 simp only [xz,Tx,if_false] at h0 |-;have:(Lib.indexByte (r.drop 2) c+1 == -1)=false:=sO;simp only [this,Tx,if_false];omega
def ZDI:∀(j:Nat) (b:UInt8),([32,9,13,10]:Bs)[j]?=some b->b.toNat<128
 | 0,b,h=>by simp at h;subst h;decide
 | 1,b,h=>by simp at h;subst h;decide
 | 2,b,h=>by simp at h;subst h;decide
 | 3,b,h=>by simp at h;subst h;decide
 | j+4,b,h=>by simp at h
def ZvM:OKw w0 nG [(243,Zcx),(200,X0),(235,W5),(244,Zmo)] 213 Zcy:=by
 refine pwo Tryz.func213 fun args σ K h=>?_
 unfold Zcy at h
 split at h
 ·rename_i t s a
  obtain ⟨⟨h0,h1,hs⟩,h⟩:=h;obtain ⟨a,rfl⟩:∃n:Nat,a=n:=⟨a.toNat,oM⟩
  simp only [Tn] at h;refine pwu [(1,⟨[],[0],fun vs σ=>vs=[] /\
   ∃e f:Nat,σ=⟨[.cells t [.d (.str s),.d (.int .i64 e)]],[],0⟩/\a<=e/\e<=s.length/\s.length<e+f/\(Zx f (s.drop e)).1=(ZT (s.drop a)).1/\e+(Zx f (s.drop e)).2=a+(ZT (s.drop a)).2,ZJe s.length⟩)] 1 false ?_
  conv=>whnf
  refine ⟨⟨rfl,a,s.length - a+1,rfl,oM,oM,oM,by simp [ZT],by simp [ZT]⟩,?_⟩;intro vs σ1 hI
  obtain ⟨rfl,e,f,rfl,he1,qj,hf,fe,ip⟩:=hI;obtain ⟨f,rfl⟩:∃g,f=g+1:=⟨f - 1,oM⟩
  conv=>whnf
  refine ⟨oM,oM,wN ?_⟩;refine ⟨⟨dM,ZDI⟩,wN ?_⟩;generalize o4:Lib.trimLeftS (cut s _ _) _=rest;have au:Lib.trimLeftS (s.drop e) [32,9,13,10]=rest:=by rw [Jn] at o4;exact o4
  have hdw:=Vv (([32,9,13,10]:Bs).contains ·) (s.drop e)
  have bj:rest=(s.drop e).drop ((s.drop e).length - rest.length):=by rw [<- au];exact hdw.1
  have cu:rest.length<=(s.drop e).length:=by rw [<- au];exact hdw.2
  rw [TD] at cu;have ur:rest=s.drop (s.length - rest.length):=by
   rw [TU,TD,show e+(s.length - e - rest.length)=s.length - rest.length by omega] at bj;exact bj
  have hk:(s.drop e).length - rest.length=s.length - rest.length - e:=hD;have ib:∀n:Nat,1<=n->n<=rest.length->Zx (f+1) (s.drop e)=((Zx f (rest.drop n)).1,(s.drop e).length - rest.length+n+(Zx f (rest.drop n)).2) ->
    a<=s.length - rest.length+n/\s.length - rest.length+n<=s.length/\s.length<(s.length - rest.length+n)+f/\(Zx f (s.drop (s.length - rest.length+n))).1=(ZT (s.drop a)).1/\(s.length - rest.length+n)+(Zx f (s.drop (s.length - rest.length+n))).2=a+(ZT (s.drop a)).2:=fun n g1 g2 g3=>by
   have g4:rest.drop n=s.drop (s.length - rest.length+n):=by rw [<- TU,<- ur]
   rw [g3,g4] at fe ip;simp only at fe ip;exact ⟨oM,oM,oM,fe,oM⟩
  have ec:∀b:Bool,Zx (f+1) (s.drop e)=(b,(s.drop e).length - rest.length)->K (.ret (.d (.bool b))) ⟨[.cells t [.d (.str s),.d (.int .i64 ((s.length:Int) - rest.length))]],[],0⟩:=fun b g=>by
   rw [g] at fe ip;simp only at fe ip;rw [<- fe,show (a:Int)+((ZT (s.drop a)).2:Int)=(s.length:Int) - rest.length by omega] at h;exact h
  have bg1:Lib.hasPrefix rest [47,47]=true->Zx (f+1) (s.drop e)=((Zx f (rest.drop (if Lib.indexByte rest 10<0 then rest.length else (Lib.indexByte rest 10).toNat))).1,(s.drop e).length - rest.length+(if Lib.indexByte rest 10<0 then rest.length else (Lib.indexByte rest 10).toNat)+(Zx f (rest.drop (if Lib.indexByte rest 10<0 then rest.length else (Lib.indexByte rest 10).toNat))).2):=fun g=>by
   simp only [Zx,au,g,if_true]
  have bg2:Lib.hasPrefix rest [47,47]=false->Lib.hasPrefix rest [47,42]=true->Lib.index (rest.drop 2) [42,47]<0->Zx (f+1) (s.drop e)=(false,(s.drop e).length - rest.length):=fun g1 g2 g3=>by
   simp only [Zx,au,g1,g2,g3,if_true,Tx,if_false]
  have bg3:Lib.hasPrefix rest [47,47]=false->Lib.hasPrefix rest [47,42]=true->¬Lib.index (rest.drop 2) [42,47]<0->Zx (f+1) (s.drop e)=((Zx f (rest.drop ((Lib.index (rest.drop 2) [42,47]).toNat+4))).1,(s.drop e).length - rest.length+((Lib.index (rest.drop 2) [42,47]).toNat+4)+(Zx f (rest.drop ((Lib.index (rest.drop 2) [42,47]).toNat+4))).2):=fun g1 g2 g3=>by
   simp only [Zx,au,g1,g2,g3,if_true,Tx,if_false]
  have bg4:Lib.hasPrefix rest [47,47]=false->Lib.hasPrefix rest [47,42]=false->Zx (f+1) (s.drop e)=(true,(s.drop e).length - rest.length):=fun g1 g2=>by
   simp only [Zx,au,g1,g2,Tx,if_false]
  refine Zl ?_;refine ZJY (fun h2=>wN ?_) (fun h2=>wN ?_)
  ·have cz:Lib.hasPrefix rest [47,47]=true:=h2;have ut:=(Z4 cz).1;have bg:=bg1 cz;have js:=Lib.indexByte_ge rest 10;have ab:=Jp 10 rest;have h22:=Zbz (c:=10) cz dM dM;refine ZJU (fun h3=>wN ?_) (fun h3=>wN ?_)
   ·have eg:Lib.indexByte rest 10<0:=h3;simp only [eg,if_true] at bg;refine Zl ?_;obtain ⟨k1,k2,k3,k4,k5⟩:=ib _ oM oM bg;refine ⟨⟨rfl,_,f,?_,k1,k2,k3,k4,k5⟩,?_⟩
    ·rw [show (s.length:Int) - (rest.length:Int)+(rest.length:Int)=((s.length - rest.length+rest.length:Nat):Int) by omega];rfl
    exact (show ((s.length:Int) - ((s.length:Int) - (rest.length:Int)+(rest.length:Int))).toNat<((s.length:Int) - (e:Int)).toNat by omega)
   have eg:¬Lib.indexByte rest 10<0:=h3;simp only [eg,if_false] at bg;obtain ⟨n,hn⟩:∃n:Nat,Lib.indexByte rest 10=n:=⟨(Lib.indexByte rest 10).toNat,oM⟩
   have s7:Lib.indexByte rest ((10:Int).toNat.toUInt8)=n:=hn;rw [s7];rw [hn] at h22 ab;rw [hn,Tn] at bg;refine Zl ?_;obtain ⟨k1,k2,k3,k4,k5⟩:=ib _ oM oM bg;refine ⟨⟨rfl,_,f,?_,k1,k2,k3,k4,k5⟩,?_⟩
   ·rw [show (s.length:Int) - (rest.length:Int)+(n:Int)=((s.length - rest.length+n:Nat):Int) by omega];rfl
   exact (show ((s.length:Int) - ((s.length:Int) - (rest.length:Int)+(n:Int))).toNat<((s.length:Int) - (e:Int)).toNat by omega)
  have cz:Lib.hasPrefix rest [47,47]=false:=h2;refine ZJY (fun h3=>wN ?_) (fun h3=>wN ?_)
  ·have eg:Lib.hasPrefix rest [47,42]=true:=h3;have ut:=(Z4 eg).1;refine ⟨oM,oM,wN ?_⟩;rw [Jn];have j5:(rest.drop 2).length=rest.length - 2:=sM;refine ⟨by have:(rest.drop ((2:Int).toNat)).length=rest.length - 2:=j5;omega,wN ?_⟩;have js:=Lib.index_ge (rest.drop 2) [42,47];have am:=Zis [42,47] (rest.drop 2);simp only [Te,Th,j5] at am;refine ZJU (fun h4=>wN ?_) (fun h4=>wN ?_)
   ·exact ec _ (bg2 cz eg h4)
   have j9:¬Lib.index (rest.drop 2) [42,47]<0:=h4;have bg:=bg3 cz eg j9;obtain ⟨n,hn⟩:∃n:Nat,Lib.index (rest.drop 2) [42,47]=n:=⟨(Lib.index (rest.drop 2) [42,47]).toNat,oM⟩
   generalize hi:Lib.index _ _=i;have eu:i=n:=by rw [<- hi];exact hn
   subst eu;rw [hn] at am;rw [hn,Tn] at bg;refine Zl ?_;refine Zl ?_;obtain ⟨k1,k2,k3,k4,k5⟩:=ib _ oM oM bg;refine ⟨⟨rfl,_,f,?_,k1,k2,k3,k4,k5⟩,?_⟩
   ·rw [show (s.length:Int) - (rest.length:Int)+((n:Int)+4)=((s.length - rest.length+(n+4):Nat):Int) by omega];rfl
   exact (show ((s.length:Int) - ((s.length:Int) - (rest.length:Int)+((n:Int)+4))).toNat<((s.length:Int) - (e:Int)).toNat by omega)
  exact ec _ (bg4 cz h3)
 exact h.elim
def orU (n:Fin 256):Zh .or .u8 (n.val:Int) 32=((n.val ||| 32:Nat):Int):=by rw [YB];revert n;decide +kernel
def orH:∀n:Fin 256,(97<=(n.val ||| 32)/\(n.val ||| 32)<=102)↔((97<=n.val/\n.val<=102)\/(65<=n.val/\n.val<=70)):=by decide +kernel
def ZDJ (b:UInt8):(97<=Zh .or .u8 (b.toNat:Int) 32/\Zh .or .u8 (b.toNat:Int) 32<=102)↔((97<=b.toNat/\b.toNat<=102)\/(65<=b.toNat/\b.toNat<=70)):=by
 have h2:=orU ⟨b.toNat,b.toNat_lt⟩;have h3:=orH ⟨b.toNat,b.toNat_lt⟩;simp only at h2 h3;rw [h2];omega
def VJ (p:UInt8->Bool):∀l:Bs,l.takeWhile p=l.take (l.takeWhile p).length
 | []=>rfl
 | x::l=>by
  by_cases h:p x=true
  ·simp only [Sg,h,if_true,Te,List.take_succ_cons];rw [<- VJ p l]
  simp [Sg,h]
def UK (p:UInt8->Bool):∀l:Bs,(l.takeWhile p).all p=true
 | []=>rfl
 | x::l=>by
  by_cases h:p x=true
  ·simp only [Sg,h,if_true,List.all_cons,UK p l,Bool.and_self]
  simp [Sg,h]
def Jq (p:UInt8->Bool) (l:Bs):(l.takeWhile p).length<=l.length:=List.Sublist.length_le (List.takeWhile_sublist p)
def Zsk {s:Bs} {e:Nat} (h:e<s.length):s.drop e=s.getD e 0::s.drop (e+1):=by
 rw [Tq h];simp [List.getD,h]
def Zsm:OKw w0 nG [(200,X0),(201,ZeT),(265,ZaN),(159,Zdb),(160,JY)] 247 ZdX:=by
 refine pwo Tryz.func247 fun args σ K h=>?_
 unfold ZdX at h
 split at h
 ·rename_i t s a
  obtain ⟨⟨h0,h1,hs⟩,h⟩:=h;obtain ⟨a,rfl⟩:∃n:Nat,a=n:=⟨a.toNat,oM⟩
  simp only [Tn] at h;refine pwu [(5,⟨[5],[0,2,3,4,6],fun vs σ=>σ=⟨[.cells t [.d (.str s),.d (.int .i64 a)],.cells 170 [.d (.int .u8 0),.d (.str []),.d (.int .i64 0),.d (.int .i64 0),.d (.int .i64 0)],.cells 244 [.d (.int .i64 0),.d (.int .i64 0)]],[],0⟩ /\
   ∃e:Nat,vs=[.d (.int .i64 e)]/\a+(if XZ (s.drop a) then 2 else 0)<=e/\e<=s.length/\e - (a+(if XZ (s.drop a) then 2 else 0))+((s.drop e).takeWhile (XT (XZ (s.drop a)))).length=(Zb (s.drop a)).length,muI s.length⟩)] 1 false ?_
  have dc:ZP (s.drop a)=none->K (.ret (.tuple [Zgr 0 [] 0 0 0,Zkb a 142])) ⟨[.cells t [.d (.str s),.d (.int .i64 a)]],[],0⟩:=fun g=>by
   have e1:Wm a (s.drop a)=.bad a 142:=by rw [Wm,g]
   rw [e1] at h;exact h
  have dw:∀n:Nat,ZP (s.drop a)=some n->K (.ret (.tuple [Zgr 2 [] (IntKind.i64.wrap n) a ((a+Zw (s.drop a):Nat):Int),Zkb 0 0])) ⟨[.cells t [.d (.str s),.d (.int .i64 a)]],[],0⟩:=fun n g=>by
   have e1:Wm a (s.drop a)=.tok ⟨2,[],IntKind.i64.wrap n,a,a+Zw (s.drop a)⟩:=by rw [Wm,g]
   rw [e1] at h;exact h
  conv=>whnf
  refine ⟨oM,oM,wN ?_⟩;rw [Jn];refine ZJY (fun hx=>?_) (fun hx=>?_)
  ·have gg:XZ (s.drop a)=true:=hx;simp only [gg,if_true,Tx,if_false];have i7:Zb (s.drop a)=(s.drop (a+2)).takeWhile (XT true):=by simp [Zb,gg,TU]
   have ub:Zw (s.drop a)=2+(Zb (s.drop a)).length:=by simp [Zw,gg]
   have fc:=(Z4 hx).1;rw [TD] at fc;(conv=>whnf);refine Zl ?_;refine ⟨⟨rfl,(a+2),rfl,oM,oM,by rw [i7];simp⟩,?_⟩;intro vs σ1 hI
   obtain ⟨rfl,e,rfl,he1,qj,hn⟩:=hI;have fx:∀(g:((s.drop e).takeWhile (XT true)).length=0),e=a+Zw (s.drop a)/\Zb (s.drop a)=cut s (a+2) e:=fun g=>by
    rw [g] at hn;refine ⟨oM,?_⟩;rw [Zir,show e - (a+2)=(Zb (s.drop a)).length by omega,i7];exact VJ _ _
   have ce:(Zb (s.drop a)).all (XT true)=true:=by rw [i7];exact UK _ _
   have x8:(Zb (s.drop a)).length<=s.length:=by
    rw [i7];have:=Jq (XT true) (s.drop (a+2));rw [TD] at this;omega
   conv=>whnf
   refine ZJU (fun h2=>wN ?_) (fun h2=>wN ?_)
   ·have cz:e<s.length:=by omega
    have ia:=Zsk cz;have hb:=(s.getD e 0).toNat_lt;have bl:XT true (s.getD e 0)=true->e+1 - (a+2)+((s.drop (e+1)).takeWhile (XT true)).length=(Zb (s.drop a)).length:=fun g=>by
     rw [<- hn,ia,Sg,Tg g,Te];omega
    have mq:XT true (s.getD e 0)=false->((s.drop e).takeWhile (XT true)).length=0:=fun g=>by
     rw [ia,Sg,Tb (by rw [g];simp)];rfl
    refine ⟨oM,oM,wN ?_⟩;refine Or.inl ⟨InR.i32 oM tN,wN ?_⟩;refine ZJY (fun h3=>wN ?_) (fun h3=>wN ?_)
    ·exact mq77
    have eg:Zk ((s.getD e 0).toNat:Int)=false:=h3;have hoh:=ZDJ (s.getD e 0);refine ZJU (fun h4=>wN ?_) (fun h4=>wN ?_)
    ·refine ZJU (fun h5=>wN ?_) (fun h5=>wN ?_)
     ·have hd:XT true (s.getD e 0)=true:=by
       have:=hoh.1 ⟨h4,h5⟩;simp only [XT,eg,Bool.false_or,T2,TV];omega
      refine Zl ?_;refine ⟨⟨rfl,e+1,rfl,oM,oM,bl hd⟩,?_⟩;exact (show ((s.length:Int) - ((e:Int)+1)).toNat<((s.length:Int) - (e:Int)).toNat by omega)
     have hd:XT true (s.getD e 0)=false:=by
      have:¬((97<=(s.getD e 0).toNat/\(s.getD e 0).toNat<=102)\/(65<=(s.getD e 0).toNat/\(s.getD e 0).toNat<=70)):=fun g=>h5 (hoh.2 g).2
      simp only [XT,eg,Bool.false_or,T2,decide_eq_false_iff_not];exact this
     have hst:=fx (mq hd);exact mq2
    have hd:XT true (s.getD e 0)=false:=by
     have:¬((97<=(s.getD e 0).toNat/\(s.getD e 0).toNat<=102)\/(65<=(s.getD e 0).toNat/\(s.getD e 0).toNat<=70)):=fun g=>h4 (hoh.2 g).1
     simp only [XT,eg,Bool.false_or,T2,decide_eq_false_iff_not];exact this
    have hst:=fx (mq hd);exact mq2
   have km:((s.drop e).takeWhile (XT true)).length=0:=by rw [TA oM];rfl
   have hst:=fx (km);exact mq2
  have gg:XZ (s.drop a)=false:=hx;simp only [gg,if_true,Tx,if_false];have i7:Zb (s.drop a)=(s.drop (a+0)).takeWhile (XT false):=by simp [Zb,gg,TU]
  have ub:Zw (s.drop a)=0+(Zb (s.drop a)).length:=by simp [Zw,gg]
  conv=>whnf
  refine ⟨⟨rfl,a,rfl,oM,oM,by rw [i7];simp⟩,?_⟩;intro vs σ1 hI
  obtain ⟨rfl,e,rfl,he1,qj,hn⟩:=hI;have fx:∀(g:((s.drop e).takeWhile (XT false)).length=0),e=a+Zw (s.drop a)/\Zb (s.drop a)=cut s (a+0) e:=fun g=>by
   rw [g] at hn;refine ⟨oM,?_⟩;rw [Zir,show e - (a+0)=(Zb (s.drop a)).length by omega,i7];exact VJ _ _
  have ce:(Zb (s.drop a)).all (XT false)=true:=by rw [i7];exact UK _ _
  have x8:(Zb (s.drop a)).length<=s.length:=by
   rw [i7];have:=Jq (XT false) (s.drop (a+0));rw [TD] at this;omega
  conv=>whnf
  refine ZJU (fun h2=>wN ?_) (fun h2=>wN ?_)
  ·have cz:e<s.length:=by omega
   have ia:=Zsk cz;have hb:=(s.getD e 0).toNat_lt;have bl:XT false (s.getD e 0)=true->e+1 - (a+0)+((s.drop (e+1)).takeWhile (XT false)).length=(Zb (s.drop a)).length:=fun g=>by
    rw [<- hn,ia,Sg,Tg g,Te];omega
   have mq:XT false (s.getD e 0)=false->((s.drop e).takeWhile (XT false)).length=0:=fun g=>by
    rw [ia,Sg,Tb (by rw [g];simp)];rfl
   refine ⟨oM,oM,wN ?_⟩;refine Or.inl ⟨InR.i32 oM tN,wN ?_⟩;refine ZJY (fun h3=>wN ?_) (fun h3=>wN ?_)
   ·exact mq77
   have eg:Zk ((s.getD e 0).toNat:Int)=false:=h3;have hd:XT false (s.getD e 0)=false:=by simp only [XT,eg,T3,SG]
   have hst:=fx (mq hd);(conv=>whnf);exact mq5
  have km:((s.drop e).takeWhile (XT false)).length=0:=by rw [TA oM];rfl
  have hst:=fx (km);exact mq5
 exact h.elim
structure GlobOK (w0:World) (nG:Nat):Prop where
 big:7<nG
 maxLen:∃m,w0.cell? ⟨2,0,none⟩=some (.int .i64 m)
 errSyntax:∃ev,w0.cell? ⟨6,0,none⟩=some ev/\(ev=.nilIface\/∃te pe,ev=.iface te pe)
 errRange:∃ev,w0.cell? ⟨7,0,none⟩=some ev/\(ev=.nilIface\/∃te pe,ev=.iface te pe)
def Zqc:Zq:=fun args σ K=>match args with
 | [.d (.str _),.d (.str s)]=>s.length<4294967281/\K (.ret .undef) σ
 | _=>False
def Zkh {e:Env} {σ:St} {w:World} {k:Nat} {u:Value} (hS:SRel (GG w0 nG) e σ w) (hk:k<nG) (h:w0.cell? ⟨k,0,none⟩=some u):w.cell? ⟨k,0,none⟩=some u:=by
 have:=hS.glob k hk;simpa [World.cell?,this] using h
def Zgs (hg:GlobOK w0 nG):PC w0 nG 289 Zqc where
 enters:=Zg Tryz.func289 kR rfl
 calls:=fun args σ K hs n e w vs hS ha=>by
  unfold Zqc at hs
  split at hs
  ·rename_i fn s
   obtain ⟨hl,hK⟩:=hs;obtain ⟨u,v,rfl,hu,hv⟩:=Zmp ha
   cases hu.dstr;cases hv.dstr
   obtain ⟨ev,h1,h2⟩:=hg.errSyntax;refine CallsIn.mono (callsIn_wide.2 (Tryz.strconv_syntaxError _ _ ev w (show s.toArray.size<=_ by simp;omega) (Zkh hS (by have:=hg.big;omega) h1) h2)) fun en w' ⟨N,h3,_,_,h4⟩=>?_
   exact mq128
  exact hs.elim
def Zit (hg:GlobOK w0 nG):PC w0 nG 290 Zqc where
 enters:=Zg Tryz.func290 kR rfl
 calls:=fun args σ K hs n e w vs hS ha=>by
  unfold Zqc at hs
  split at hs
  ·rename_i fn s
   obtain ⟨hl,hK⟩:=hs;obtain ⟨u,v,rfl,hu,hv⟩:=Zmp ha
   cases hu.dstr;cases hv.dstr
   obtain ⟨ev,h1,h2⟩:=hg.errRange;refine CallsIn.mono (callsIn_wide.2 (Tryz.strconv_rangeError _ _ ev w (show s.toArray.size<=_ by simp;omega) (Zkh hS (by have:=hg.big;omega) h1) h2)) fun en w' ⟨N,h3,_,_,h4⟩=>?_
   exact mq128
  exact hs.elim
def ZeW:Zq:=fun args σ K=>match args,σ with
 | [.d (.str _),.d (.str s),.d (.int .i64 _),.d (.int .i64 _),.iface 333 (.d (.int .i64 c))],⟨[],[],0⟩=>((c=1\/c=2)/\s.length<4294967281)/\K (.ret (.iface 335 .undef)) ⟨[],[],0⟩
 | _,_=>False
def ZHc:Tbl:=[(289,Zqc),(290,Zqc)]
def Zqd (hg:GlobOK w0 nG):PC w0 nG 280 ZeW:=by
 refine pwt (tbl:=ZHc) ⟨Zgs hg,Zit hg,trivial⟩ Tryz.func280 fun args σ K h=>?_
 unfold ZeW at h
 split at h
 ·rename_i fn s b0 b1 c
  obtain ⟨⟨hc,hl⟩,h⟩:=h;refine pwu [] 0 false ?_;rcases hc with rfl | rfl
  ·conv=>whnf
   refine ⟨hl,wN ?_⟩;exact h
  conv=>whnf
  refine ⟨hl,wN ?_⟩;exact h
 exact h.elim
def Zmt:Zq:=fun args σ K=>match args,σ with
 | [.d (.int .u8 c)],⟨[],[],0⟩=>K (.ret (.d (.int .u8 (Zh .or .u8 c 32)))) ⟨[],[],0⟩
 | _,_=>False
def ZvN:PC w0 nG 287 Zmt:=by
 refine pwe Tryz.func287 fun args σ K h=>?_
 unfold Zmt at h
 split at h
 ·refine pwv [] 0 false ?_;exact h
 exact h.elim
def ZJf:∀n:Fin 256,XT true (UInt8.ofNat n.val)=true->¬(48<=n.val/\n.val<=57)->Zh .or .u8 (n.val:Int) 32=Zip (UInt8.ofNat n.val)+87/\10<=Zip (UInt8.ofNat n.val)/\Zip (UInt8.ofNat n.val)<=15:=by rw [YB];decide +kernel
def Zki {b:UInt8} (h:XT true b=true) (hn:¬(48<=b.toNat/\b.toNat<=57)):Zh .or .u8 (b.toNat:Int) 32=Zip b+87/\10<=Zip b/\Zip b<=15:=by
 have:=ZJf ⟨b.toNat,b.toNat_lt⟩;simp only [UInt8.ofNat_toNat] at this;exact this h hn
def Zkj (B:Nat) (l:Bs) (b:UInt8):WP B (l++[b])=WP B l * B+Zip b:=by simp [WP,List.foldl_append]
def Zkk {l:Bs} {i:Nat} (h:i<l.length):l.take (i+1)=l.take i++[l.getD i 0]:=by
 rw [List.take_succ,Tc h];simp [List.getD,h]
def Zn5 (B:Nat) (hB:1<=B):∀(l:Bs) (n:Nat),n<=l.foldl (fun n b=>n * B+Zip b) n
 | [],n=>Tw _
 | b::l,n=>by
  have:=Zn5 B hB l (n * B+Zip b);have h2:n<=n * B:=Nat.le_mul_of_pos_right n hB;simp only [List.foldl_cons];omega
def Zdd (B:Nat) (hB:1<=B) (l:Bs) (i:Nat):WP B (l.take i)<=WP B l:=by
 conv=>rhs;rw [<- SF i l]
 unfold WP
 rw [List.foldl_append];exact Zn5 B hB _ _
def ZHd:Zq:=fun args σ K=>match args,σ with
 | [.d (.str l),.d (.int .i64 base),.d (.int .i64 bits)],⟨[],[],0⟩=>∃fd:Bool,((l.all (XT fd)=true/\l.length<4294967281)/\base=(if fd then 16 else 10)/\bits=(if fd then 64 else 63)) /\
   (l=[]->K (.ret (.tuple [.d (.int .u64 0),.iface 333 (.d (.int .i64 2))])) ⟨[],[],0⟩) /\
   (l≠[]->(if fd then 18446744073709551616 else 9223372036854775808)<=WP (if fd then 16 else 10) l->K (.ret (.tuple [.d (.int .u64 (if fd then 18446744073709551615 else 9223372036854775807)),.iface 333 (.d (.int .i64 1))])) ⟨[],[],0⟩) /\
   (l≠[]->¬(if fd then 18446744073709551616 else 9223372036854775808)<=WP (if fd then 16 else 10) l->K (.ret (.tuple [.d (.int .u64 (WP (if fd then 16 else 10) l)),.d .nili])) ⟨[],[],0⟩)
 | _,_=>False
def ZHe:Tbl:=[(287,Zmt)]
def ZHf:PC w0 nG 279 ZHd:=by
 refine pwt (tbl:=ZHe) ⟨ZvN,trivial⟩ Tryz.func279 fun args σ K h=>?_
 unfold ZHd at h
 split at h
 ·rename_i l base bits
  obtain ⟨fd,⟨⟨ce,hl⟩,rfl,rfl⟩,aq,mr,dw⟩:=h;have hml:((l.map fun b=>[D.int .u8 (b.toNat:Int)]:List (List D))).length=l.length:=sM
  cases fd with
  | true =>
   simp only [if_true,Tx,if_false] at mr dw |-;refine ⟨Zr [(36,⟨[101,13,12],[0,1,8,10,11,99,100],fun vs σ=>σ=⟨[],[],0⟩/\∃i:Nat,vs=[.d (.int .i64 i),.d (.int .u64 (WP 16 (l.take i))),.d (.bool false)]/\i<=l.length/\WP 16 (l.take i)<18446744073709551616,muI l.length⟩)],0,false,sM,Td rfl,wN ?_⟩;refine ZJU (fun h0=>wN ?_) (fun h0=>wN ?_)
   ·exact aq h0
   have aj:l≠[]:=h0;have rz:=mr aj;have kj:=dw aj;refine ZeQ ?_;refine ⟨dM,Or.inr ?_⟩;rw [show IntKind.u64.wrap (1 * 2 ^ min (Int.toNat 64) IntKind.u64.bits)=0 from dM];(conv=>whnf);refine Or.inr ?_;rw [show IntKind.u64.wrap (0 - 1)=18446744073709551615 from dM];(conv=>whnf);refine ⟨⟨rfl,0,rfl,oM,by simp [WP]⟩,?_⟩;intro vs σ1 hI
   obtain ⟨rfl,i,rfl,hi,hN⟩:=hI;have am:=Zdd 16 oM l;have bl:=fun h:i<l.length=>Zkj 16 (l.take i) (l.getD i 0)
   generalize hNN:WP 16 (l.take i)=N at hN bl |-;(conv=>whnf);refine ZJU (fun h2=>?_) (fun h2=>wN ?_)
   ·have cz:i<l.length:=by simpa using h2
    have cj:(l.map fun b=>[D.int .u8 (b.toNat:Int)])[((i:Int)).toNat]?=some [D.int .u8 ((l.getD i 0).toNat:Int)]:=by
     rw [Tn,Tk,Tc cz];simp [List.getD,cz]
    have hd:XT true (l.getD i 0)=true:=To.1 ce _ (by rw [T5,Tc cz];exact TM cz);have hs:=bl cz;rw [<- Zkk cz] at hs;have du:=am (i+1);have hb:=(l.getD i 0).toNat_lt;generalize ki:l.getD i 0=b at cj hd hs hb;(conv=>whnf);refine ⟨_,oM,cj,wN ?_⟩;refine ZJU (fun h3=>?_) (fun h3=>wN ?_)
    ·have eg:b.toNat=95:=by omega
     simp [XT,Zk,eg] at hd
    refine ZJU (fun h4=>wN ?_) (fun h4=>?_)
    ·refine ZJU (fun h5=>wN ?_) (fun h5=>?_)
     ·refine U9 ?_;have hD:(Zip b:Int)=(b.toNat:Int) - 48:=by unfold Zip;rw [Tg oM];omega
      refine U9 ?_;refine ZJU (fun h6=>?_) (fun h6=>wN ?_)
      ·omega
      refine ZJU (fun h7=>wN ?_) (fun h7=>wN ?_)
      ·exact rz oM
      refine ZeQ ?_;refine ZeQ ?_;refine ZeQ ?_
      by_cases cy:(N:Int) * 16+((b.toNat:Int) - 48)<=18446744073709551615
      ·refine ZeQ ?_;refine ZJU (fun h8=>?_) (fun h8=>wN ?_)
       ·omega
       refine ZJU (fun h9=>wN ?_) (fun h9=>wN ?_)
       ·exact rz oM
       refine Zl ?_;refine ⟨⟨rfl,i+1,?_,oM,oM⟩,?_⟩
       ·have e:((WP 16 (l.take (i+1)):Nat):Int)=(N:Int) * 16+((b.toNat:Int) - 48):=by omega
        rw [e];rfl
       exact mq182
      have hw:IntKind.u64.wrap ((N:Int) * 16+((b.toNat:Int) - 48))=(N:Int) * 16+((b.toNat:Int) - 48) - 18446744073709551616:=by
       exact mq60
      exact mq55
     skip
     exact mq11
    skip
    exact mq11
   exact mq129
  | false =>
  simp only [if_true,Tx,if_false] at mr dw |-;refine ⟨Zr [(36,⟨[101,13,12],[0,1,8,10,11,99,100],fun vs σ=>σ=⟨[],[],0⟩/\∃i:Nat,vs=[.d (.int .i64 i),.d (.int .u64 (WP 10 (l.take i))),.d (.bool false)]/\i<=l.length/\WP 10 (l.take i)<9223372036854775808,muI l.length⟩)],0,false,sM,Td rfl,wN ?_⟩;refine ZJU (fun h0=>wN ?_) (fun h0=>wN ?_)
  ·exact aq h0
  have aj:l≠[]:=h0;have rz:=mr aj;have kj:=dw aj;refine ZeQ ?_;refine ⟨dM,Or.inr ?_⟩;rw [show IntKind.u64.wrap (1 * 2 ^ min (Int.toNat 63) IntKind.u64.bits)=9223372036854775808 from dM];(conv=>whnf);refine Or.inr ?_;rw [show IntKind.u64.wrap (9223372036854775808 - 1)=9223372036854775807 from dM];(conv=>whnf);refine ⟨⟨rfl,0,rfl,oM,by simp [WP]⟩,?_⟩;intro vs σ1 hI
  obtain ⟨rfl,i,rfl,hi,hN⟩:=hI;have am:=Zdd 10 oM l;have bl:=fun h:i<l.length=>Zkj 10 (l.take i) (l.getD i 0)
  generalize hNN:WP 10 (l.take i)=N at hN bl |-;(conv=>whnf);refine ZJU (fun h2=>?_) (fun h2=>wN ?_)
  ·have cz:i<l.length:=by simpa using h2
   have cj:(l.map fun b=>[D.int .u8 (b.toNat:Int)])[((i:Int)).toNat]?=some [D.int .u8 ((l.getD i 0).toNat:Int)]:=by
    rw [Tn,Tk,Tc cz];simp [List.getD,cz]
   have hd:XT false (l.getD i 0)=true:=To.1 ce _ (by rw [T5,Tc cz];exact TM cz);have hs:=bl cz;rw [<- Zkk cz] at hs;have du:=am (i+1);have hb:=(l.getD i 0).toNat_lt;generalize ki:l.getD i 0=b at cj hd hs hb;(conv=>whnf);refine ⟨_,oM,cj,wN ?_⟩;refine ZJU (fun h3=>?_) (fun h3=>wN ?_)
   ·have eg:b.toNat=95:=by omega
    simp [XT,Zk,eg] at hd
   have xp:48<=b.toNat/\b.toNat<=57:=by
    simp only [XT,T3,SG,Zk,TV] at hd;omega
   refine ZJU (fun h4=>wN ?_) (fun h4=>?_)
   ·refine ZJU (fun h5=>wN ?_) (fun h5=>?_)
    ·refine U9 ?_;have hD:(Zip b:Int)=(b.toNat:Int) - 48:=by unfold Zip;rw [Tg oM];omega
     refine U9 ?_;refine ZJU (fun h6=>?_) (fun h6=>wN ?_)
     ·omega
     refine ZJU (fun h7=>wN ?_) (fun h7=>wN ?_)
     ·exact rz oM
     refine ZeQ ?_;refine ZeQ ?_;refine ZeQ ?_
     by_cases cy:(N:Int) * 10+((b.toNat:Int) - 48)<=18446744073709551615
     ·refine ZeQ ?_;refine ZJU (fun h8=>?_) (fun h8=>wN ?_)
      ·omega
      refine ZJU (fun h9=>wN ?_) (fun h9=>wN ?_)
      ·exact rz oM
      refine Zl ?_;refine ⟨⟨rfl,i+1,?_,oM,oM⟩,?_⟩
      ·have e:((WP 10 (l.take (i+1)):Nat):Int)=(N:Int) * 10+((b.toNat:Int) - 48):=by omega
       rw [e];rfl
      exact mq182
     have hw:IntKind.u64.wrap ((N:Int) * 10+((b.toNat:Int) - 48))=(N:Int) * 10+((b.toNat:Int) - 48) - 18446744073709551616:=by
      exact mq60
     exact mq55
    omega
   omega
  exact mq129
 exact h.elim
def Zze:∀n:Fin 64,Zh .or .u8 128 (n.val:Int)=128+n.val:=by rw [YB];decide +kernel
def Zzf:∀n:Fin 32,Zh .or .u8 192 (n.val:Int)=192+n.val:=by rw [YB];decide +kernel
def Zzg:∀n:Fin 16,Zh .or .u8 224 (n.val:Int)=224+n.val:=by rw [YB];decide +kernel
def Zzh:∀n:Fin 8,Zh .or .u8 240 (n.val:Int)=240+n.val:=by rw [YB];decide +kernel
def Zzi:∀n:Fin 256,Zh .and .u8 (n.val:Int) 63=n.val % 64:=by rw [YB];decide +kernel
def Zyd {x:Int} (h0:0<=x) (h1:x<64):Zh .or .u8 128 x=128+x:=by obtain ⟨n,rfl⟩:∃n:Nat,x=n:=⟨x.toNat,oM⟩;exact Zze ⟨n,oM⟩
def ZJg {x:Int} (h0:0<=x) (h1:x<32):Zh .or .u8 192 x=192+x:=by obtain ⟨n,rfl⟩:∃n:Nat,x=n:=⟨x.toNat,oM⟩;exact Zzf ⟨n,oM⟩
def ZIE {x:Int} (h0:0<=x) (h1:x<16):Zh .or .u8 224 x=224+x:=by obtain ⟨n,rfl⟩:∃n:Nat,x=n:=⟨x.toNat,oM⟩;exact Zzg ⟨n,oM⟩
def ZJh {x:Int} (h0:0<=x) (h1:x<8):Zh .or .u8 240 x=240+x:=by obtain ⟨n,rfl⟩:∃n:Nat,x=n:=⟨x.toNat,oM⟩;exact Zzh ⟨n,oM⟩
def a63 {x:Int} (h0:0<=x) (h1:x<256):Zh .and .u8 x 63=x % 64:=by obtain ⟨n,rfl⟩:∃n:Nat,x=n:=⟨x.toNat,oM⟩;rw [Zzi ⟨n,oM⟩]
def wu8 (n:Int):IntKind.u8.wrap n=n % 256:=by simp [IntKind.wrap,IntKind.bits,IntKind.signed]
def WQ (c:Int):Zi (Lib.encodeRune c)=(Lib.encodeRuneZ c).map fun x=>[D.int .u8 x]:=by
 have h:=Lib.encodeRuneZ_byte c;unfold Lib.encodeRune Zi
 rw [TW];refine TX fun x hx=>?_
 have:=h x hx;simp [UInt8.toNat_ofNat'];omega
def Jr:Zq:=fun args σ K=>match args,σ with
 | [.sl 0 e rows,.d (.int .i32 c)],⟨[],[0],1⟩=>(e=5/\(∀r∈rows,r.length=1)/\rows.length<70368744177664/\0<=c/\c<=1114111)/\K (.ret (.sl 0 5 (rows++Zi (Lib.encodeRune c)))) ⟨[],[0],1⟩
 | _,_=>False
def UL:Zq:=fun args σ K=>match args,σ with
 | [.sl 0 e rows,.d (.int .i32 c)],⟨[],[0],1⟩=>(e=5/\(∀r∈rows,r.length=1)/\rows.length<70368744177664/\128<=c/\c<=1114111)/\K (.ret (.sl 0 5 (rows++Zi (Lib.encodeRune c)))) ⟨[],[0],1⟩
 | _,_=>False
def Zgt:PC w0 nG 255 UL:=by
 refine pwe Tryz.func255 fun args σ K h=>?_
 unfold UL at h
 split at h
 ·rename_i e rows c
  obtain ⟨⟨rfl,bj,ut,jg,dg⟩,h⟩:=h;refine pwv [] 0 true ?_;have e6:c.fdiv (2 ^ min (Int.toNat 6) IntKind.i32.bits)=c / 64:=by rw [show (2:Int) ^ min (Int.toNat 6) IntKind.i32.bits=64 by decide];exact Int.fdiv_eq_ediv_of_nonneg _ oM
  have e12:c.fdiv (2 ^ min (Int.toNat 12) IntKind.i32.bits)=c / 4096:=by rw [show (2:Int) ^ min (Int.toNat 12) IntKind.i32.bits=4096 by decide];exact Int.fdiv_eq_ediv_of_nonneg _ oM
  have e18:c.fdiv (2 ^ min (Int.toNat 18) IntKind.i32.bits)=c / 262144:=by rw [show (2:Int) ^ min (Int.toNat 18) IntKind.i32.bits=262144 by decide];exact Int.fdiv_eq_ediv_of_nonneg _ oM
  refine Or.inl ⟨InR.u32 oM oM,wN ?_⟩;refine ZJU (fun h1=>?_) (fun h1=>wN ?_)
  ·skip
   have g:K (.ret (.sl 0 5 (rows++[[D.int .u8 (Zh .or .u8 192 (IntKind.u8.wrap (c.fdiv (2 ^ min (Int.toNat 6) IntKind.i32.bits))))],[D.int .u8 (Zh .or .u8 128 (Zh .and .u8 (IntKind.u8.wrap (c)) 63))]]))) ⟨[],[0],1⟩:=by
    have e:Zi (Lib.encodeRune c)=[[D.int .u8 (Zh .or .u8 192 (IntKind.u8.wrap (c.fdiv (2 ^ min (Int.toNat 6) IntKind.i32.bits))))],[D.int .u8 (Zh .or .u8 128 (Zh .and .u8 (IntKind.u8.wrap (c)) 63))]]:=by
     rw [WQ,Lib.encodeRuneZ_two jg oM];simp only [e6,e12,e18,wu8,Tz,TN];rw [ZJg oM oM,a63 oM oM,Zyd oM oM,show c / 64 % 256=c / 64 by omega,show c % 256 % 64=c % 64 by omega]
     all_goals (try omega)
     (try (congr 1 <;> omega))
    rw [e] at h;exact h
   conv=>whnf
   refine ⟨dM,wN ?_⟩;refine Or.inr (wN ?_);refine Or.inr (wN ?_);refine ⟨fun r hr=>by (simp at hr;rcases hr with rfl | rfl <;> rfl),(show (rows.length+2) * 1<=2 ^ 47 by omega),(show rows.length+2<=2 ^ 47 by omega),?_⟩;(conv=>whnf);exact g
  refine ZJU (fun h2=>wN ?_) (fun h2=>wN ?_)
  ·refine ZJU (fun cz=>wN ?_) (fun cz=>absurd h2 cz);have g:K (.ret (.sl 0 5 (rows++[[D.int .u8 (Zh .or .u8 224 (IntKind.u8.wrap (c.fdiv (2 ^ min (Int.toNat 12) IntKind.i32.bits))))],[D.int .u8 (Zh .or .u8 128 (Zh .and .u8 (IntKind.u8.wrap (c.fdiv (2 ^ min (Int.toNat 6) IntKind.i32.bits))) 63))],[D.int .u8 (Zh .or .u8 128 (Zh .and .u8 (IntKind.u8.wrap (c)) 63))]]))) ⟨[],[0],1⟩:=by
    exact mq36
   exact mq190
  refine ZJU (fun h3=>wN ?_) (fun h3=>wN ?_)
  ·refine ZJU (fun h4=>?_) (fun h4=>wN ?_)
   ·skip
    have g:K (.ret (.sl 0 5 (rows++[[D.int .u8 (Zh .or .u8 224 (IntKind.u8.wrap (c.fdiv (2 ^ min (Int.toNat 12) IntKind.i32.bits))))],[D.int .u8 (Zh .or .u8 128 (Zh .and .u8 (IntKind.u8.wrap (c.fdiv (2 ^ min (Int.toNat 6) IntKind.i32.bits))) 63))],[D.int .u8 (Zh .or .u8 128 (Zh .and .u8 (IntKind.u8.wrap (c)) 63))]]))) ⟨[],[0],1⟩:=by
     exact mq36
    conv=>whnf
    exact mq190
   refine ZJU (fun h5=>wN ?_) (fun h5=>?_)
   ·refine ZJU (fun h6=>?_) (fun h6=>?_)
    ·skip
     have g:K (.ret (.sl 0 5 (rows++[[D.int .u8 (Zh .or .u8 240 (IntKind.u8.wrap (c.fdiv (2 ^ min (Int.toNat 18) IntKind.i32.bits))))],[D.int .u8 (Zh .or .u8 128 (Zh .and .u8 (IntKind.u8.wrap (c.fdiv (2 ^ min (Int.toNat 12) IntKind.i32.bits))) 63))],[D.int .u8 (Zh .or .u8 128 (Zh .and .u8 (IntKind.u8.wrap (c.fdiv (2 ^ min (Int.toNat 6) IntKind.i32.bits))) 63))],[D.int .u8 (Zh .or .u8 128 (Zh .and .u8 (IntKind.u8.wrap (c)) 63))]]))) ⟨[],[0],1⟩:=by
      have e:Zi (Lib.encodeRune c)=[[D.int .u8 (Zh .or .u8 240 (IntKind.u8.wrap (c.fdiv (2 ^ min (Int.toNat 18) IntKind.i32.bits))))],[D.int .u8 (Zh .or .u8 128 (Zh .and .u8 (IntKind.u8.wrap (c.fdiv (2 ^ min (Int.toNat 12) IntKind.i32.bits))) 63))],[D.int .u8 (Zh .or .u8 128 (Zh .and .u8 (IntKind.u8.wrap (c.fdiv (2 ^ min (Int.toNat 6) IntKind.i32.bits))) 63))],[D.int .u8 (Zh .or .u8 128 (Zh .and .u8 (IntKind.u8.wrap (c)) 63))]]:=by
       rw [WQ,Lib.encodeRuneZ_four oM oM];simp only [e6,e12,e18,wu8,Tz,TN];rw [ZJh oM oM,a63 oM oM,a63 oM oM,a63 oM oM,Zyd oM oM,Zyd oM oM,Zyd oM oM,show c / 262144 % 256=c / 262144 by omega,show c / 4096 % 256 % 64=c / 4096 % 64 by omega,show c / 64 % 256 % 64=c / 64 % 64 by omega,show c % 256 % 64=c % 64 by omega]
       all_goals (try omega)
       (try (congr 1 <;> omega))
      rw [e] at h;exact h
     conv=>whnf
     refine ⟨dM,wN ?_⟩;refine Or.inr (wN ?_);refine ⟨dM,wN ?_⟩;refine Or.inr (wN ?_);refine ⟨dM,wN ?_⟩;refine Or.inr (wN ?_);refine Or.inr (wN ?_);refine ⟨fun r hr=>by (simp at hr;rcases hr with rfl | rfl | rfl | rfl <;> rfl),(show (rows.length+4) * 1<=2 ^ 47 by omega),(show rows.length+4<=2 ^ 47 by omega),?_⟩;(conv=>whnf);exact g
    omega
   omega
  refine ZJU (fun h5=>?_) (fun h5=>?_)
  ·omega
  skip
  have g:K (.ret (.sl 0 5 (rows++[[D.int .u8 (239)],[D.int .u8 (191)],[D.int .u8 (189)]]))) ⟨[],[0],1⟩:=by
   have e:Zi (Lib.encodeRune c)=[[D.int .u8 (239)],[D.int .u8 (191)],[D.int .u8 (189)]]:=by
    rw [WQ,Lib.encodeRuneZ_bad oM];rfl
   rw [e] at h;exact h
  conv=>whnf
  exact mq54
 exact h.elim
def ZHg:Tbl:=[(255,UL)]
def Ziu:PC w0 nG 239 Jr:=by
 refine pwt (tbl:=ZHg) ⟨Zgt,trivial⟩ Tryz.func239 fun args σ K h=>?_
 unfold Jr at h
 split at h
 ·rename_i e rows c
  obtain ⟨⟨rfl,bj,ut,jg,dg⟩,h⟩:=h;refine pwv [] 0 true ?_;refine Or.inl ⟨InR.u32 oM oM,wN ?_⟩;refine ZJU (fun h1=>wN ?_) (fun h1=>wN ?_)
  ·have e:Zi (Lib.encodeRune c)=[[D.int .u8 c]]:=by rw [WQ,Lib.encodeRuneZ_one jg h1];rfl
   rw [e] at h;refine U9 ?_;exact mq161
  refine ⟨⟨rfl,bj,oM,oM,oM⟩,wN ?_⟩;exact h
 exact h.elim
def ZvO:TO w0 nG [(173,UI)]:=⟨Zdc,trivial⟩
def Zde:PC w0 nG 204 UF:=by
 refine pwt ZvO Tryz.func204 fun args σ K h=>?_
 unfold UF at h
 split at h
 ·rename_i c t p e rows
  obtain ⟨⟨hp,rfl,rfl,bj,ut⟩,h⟩:=h;refine pwu [] 1 true ?_;rcases hp with rfl | rfl
  ·conv=>whnf
   refine ⟨⟨.inl rfl,rfl⟩,wN ?_⟩;exact mq161
  conv=>whnf
  refine ⟨⟨.inr rfl,rfl⟩,wN ?_⟩;exact mq161
 exact h.elim
def ZHi (c:Int):(Lib.encodeRune c).length<=4:=by unfold Lib.encodeRune;rw [Tf];exact (Lib.encodeRuneZ_length c).2
def ZvP:TO w0 nG [(173,UI),(239,Jr)]:=⟨Zdc,Ziu,trivial⟩
def Zdf:PC w0 nG 206 UG:=by
 refine pwt ZvP Tryz.func206 fun args σ K h=>?_
 unfold UG at h
 split at h
 ·rename_i c t p e rows
  obtain ⟨⟨hp,rfl,rfl,bj,ut,jg,dg⟩,h⟩:=h;refine pwu [] 1 true ?_;rcases hp with rfl | rfl
  ·conv=>whnf
   refine ⟨⟨.inl rfl,rfl⟩,wN ?_⟩;refine ⟨⟨rfl,bj,ut,jg,dg⟩,wN ?_⟩;refine Or.inl ⟨InR.i64 (by rw [Ta,Xv];have:=Lib.encodeRuneZ_length c;omega) (by rw [Ta,Xv];have:=ZHi c;omega),wN ?_⟩;exact h
  conv=>whnf
  refine ⟨⟨.inr rfl,rfl⟩,wN ?_⟩;refine ⟨⟨rfl,bj,ut,jg,dg⟩,wN ?_⟩;refine Or.inl ⟨InR.i64 (by rw [Ta,Xv];omega) (by rw [Ta,Xv];have:=ZHi c;omega),wN ?_⟩;exact h
 exact h.elim
def ZaP:Zq:=fun args σ K=>match args with
 | [.d (.int .i32 c)]=>K (.ret (.d (.bool (Lib.validRune c)))) σ
 | _=>False
def ZDK (c:Int) (h:128<=c) (h2:c<=1114111):2<=(Utf8.encode c).data.toList.length/\(Utf8.encode c).data.toList.length<=4/\∀b∈(Utf8.encode c).data.toList,128<=b.toNat:=by
 unfold Utf8.encode
 simp only;generalize hn:(if Utf8.valid c then c.toNat else Utf8.runeError)=n;have fe:128<=n/\n<=1114111:=by
  rw [<- hn];split
  ·omega
  simp [Utf8.runeError]
 rw [Tb oM];split
 ·simp [UInt8.toNat_ofNat'];omega
 split
 ·simp [UInt8.toNat_ofNat'];omega
 simp [UInt8.toNat_ofNat'];omega
def Zsn {l:Bs} {c:UInt8} (h:∀b∈l,b.toNat<128) (hc:128<=c.toNat):Lib.indexByte l c=-1:=by
 induction l with
 | nil=>rfl
 | cons b l ih =>
 have h1:=ih (fun x hx=>h x (Tt _ hx));have h2:(b == c)=false:=by
  simp only [beq_eq_false_iff_ne];intro e;subst e;have:=h b sM;omega
 simp [Lib.indexByte,h1,h2]
def ZvQ {s:Bs} (h:∀b∈s,b.toNat<128) (i:Nat):(s.getD i 0).toNat<128:=by
 rw [T5]
 by_cases hi:i<s.length
 ·rw [Tc hi];exact h _ (TM hi)
 rw [Sz oM];decide
def Zso {s:Bs} (h:∀b∈s,128<=b.toNat) {i:Nat} (hi:i<s.length):128<=(s.getD i 0).toNat:=by
 rw [T5,Tc hi];exact h _ (TM hi)
def ZHk {n:Int} {k:Nat} (h:n=k) (hk:k<256):(n.toNat.toUInt8).toNat=k:=by
 subst h;simp [UInt8.toNat_ofNat'];omega
def Zkl:OKw w0 nG [(235,W5),(236,ZaP)] 205 W6:=by
 refine pwo Tryz.func205 fun args σ K h=>?_
 unfold W6 at h
 split at h
 ·rename_i s c
  obtain ⟨⟨hs,jg,dg⟩,h⟩:=h;have ep:s.length=4:=by rcases hs with rfl | rfl <;> rfl
  have hsa:∀b∈s,b.toNat<128:=by rcases hs with rfl | rfl <;> decide
  have wl:∀p,p<4->(decodeL s p).1<128/\(decodeL s p).2=1:=by
   intro p hp
   rcases hs with rfl | rfl
   all_goals (match p,hp with | 0,_=>exact ⟨dM,dM⟩ | 1,_=>exact ⟨dM,dM⟩ | 2,_=>exact ⟨dM,dM⟩ | 3,_=>exact ⟨dM,dM⟩)
  refine pwu [(38,⟨[],[0,175],fun vs σ=>vs=[]/\∃p:Nat,p<=4/\σ=⟨[.iter s p],[],0⟩,fun _ σ=>match σ.bx with | [.iter _ p]=>4 - p | _=>0⟩),
    (5,⟨[9],[0,1,7,8],fun vs σ=>σ=⟨[],[],0⟩/\vs=[.d (.int .i64 (((Utf8.encode c).data.toList.length:Int) - 1))],fun _ _=>0⟩)] 0 false ?_
  have uv:128<=c->K (.ret (.d (.int .i64 (-1)))) ⟨[],[],0⟩:=fun g=>by
   have:ZeU s c=-1:=by unfold ZeU;rw [Tb oM]
   rw [this] at h;exact h
  conv=>whnf
  refine ZJU (fun h1=>wN ?_) (fun h1=>?_)
  ·refine ZJU (fun h2=>wN ?_) (fun h2=>wN ?_)
   ·have e:ZeU s c=Lib.indexByte s c.toNat.toUInt8:=by unfold ZeU;rw [Tg h2]
    rw [e] at h;refine U9 ?_;exact h
   refine ZJU (fun h3=>wN ?_) (fun h3=>wN ?_)
   ·refine ⟨⟨rfl,0,oM,rfl⟩,?_⟩;intro vs σ1 hI
    obtain ⟨rfl,p,hp,rfl⟩:=hI;(conv=>whnf);refine ZJU (fun h4=>wN ?_) (fun h4=>wN ?_)
    ·have hd:=wl p oM;refine ZJU (fun h5=>?_) (fun h5=>wN ?_)
     ·omega
     refine ⟨⟨rfl,p+1,oM,by rw [hd.2];rfl⟩,?_⟩;exact (show 4 - (p+(decodeL s p).2)<4 - p by omega)
    exact uv oM
   refine ZJY (fun h4=>wN ?_) (fun h4=>wN ?_)
   ·exact uv oM
   obtain ⟨e1,e2,e3⟩:=ZDK c oM dg;have hl:=Zso e3 (i:=(Utf8.encode c).data.toList.length - 1) oM;refine Zl ?_;refine ⟨⟨rfl,rfl⟩,?_⟩;intro vs σ1 hI
   obtain ⟨rfl,rfl⟩:=hI;(conv=>whnf);refine ZJU (fun h5=>wN ?_) (fun h5=>?_)
   ·refine ⟨oM,oM,wN ?_⟩;refine ⟨oM,oM,wN ?_⟩;have qy:=ZvQ hsa (((Utf8.encode c).data.toList.length:Int) - 1).toNat;have qz:128<=((Utf8.encode c).data.toList.getD (((Utf8.encode c).data.toList.length:Int) - 1).toNat 0).toNat:=Zso e3 oM;refine ZJX (fun h6=>wN ?_) (fun h6=>?_)
    ·refine Zl ?_;refine ⟨oM,oM,wN ?_⟩;refine ⟨oM,oM,wN ?_⟩;generalize hx:Lib.indexByte _ _=x;have:x=-1:=by
      rw [<- hx];refine Zsn (fun b hb=>hsa b (List.mem_of_mem_take (List.mem_of_mem_drop hb))) ?_;rw [ZHk rfl (UInt8.toNat_lt _)];exact qz
     subst this;(conv=>whnf);exact uv oM
    omega
   omega
  omega
 exact h.elim
def ZcA (r:Bs):(Lib.decodeL r).1<=1114111/\1<=(Lib.decodeL r).2/\(Lib.decodeL r).2<=4:=by
 exact mq64
def Zmu (c:Int):(Lib.encodeRune c).length<=4:=by
 unfold Lib.encodeRune Lib.encodeRuneZ
 rw [Tf]
 repeat' split
 all_goals simp
def Js {n k:Nat} (h:n<128) (hk:k<128) (aj:n≠k):(n:Int).toNat.toUInt8≠UInt8.ofNat k:=by
 intro h1
 have h2:=congrArg UInt8.toNat h1;simp [UInt8.toNat_ofNat'] at h2;omega
def Zn6 {n:Nat} (h:Zvc n=none):ZeU [110,116,34,92] n=-1:=by
 unfold Zvc at h
 split at h;· cases h
 split at h;· cases h
 split at h;· cases h
 split at h;· cases h
 rename_i h1 h2 h3 h4
 unfold ZeU
 split
 ·rename_i h5
  have hc:([110,116,34,92]:Bs).contains ((n:Int).toNat.toUInt8)=false:=by
   have b1:=Js (n:=n) (k:=110) oM oM h1;have b2:=Js (n:=n) (k:=116) oM oM h2;exact mq103
  rw [Lib.contains_iff_indexByte,decide_eq_false_iff_not] at hc;have:=Lib.indexByte_ge [110,116,34,92] ((n:Int).toNat.toUInt8);omega
 rfl
def Zn7 {n:Nat} {b:UInt8} (h:Zvc n=some b):(ZeU [110,116,34,92] n=0/\b=10)\/(ZeU [110,116,34,92] n=1/\b=9)\/(ZeU [110,116,34,92] n=2/\b=34)\/(ZeU [110,116,34,92] n=3/\b=92):=by
 unfold Zvc at h
 exact mq61
def ZaQ (l:Bs) (b:UInt8):Zi (l++[b])=Zi l++[[.int .u8 b.toNat]]:=by simp [Zi]
def V7 (l m:Bs):Zi (l++m)=Zi l++Zi m:=by simp [Zi]
def Zg2 (l:Bs):∀r∈Zi l,r.length=1:=by
 intro r hr
 simp only [Zi,Sh] at hr;obtain ⟨b,_,rfl⟩:=hr;rfl
def Zg3 (l:Bs):(Zi l).length=l.length:=by simp [Zi]
def ZJi (B:Nat):List PV->St->Nat:=fun _ σ=>match σ.bx with | [_,_,_,_,.iter _ p]=>B - p | _=>0
def Zzk:OKw w0 nG [(205,W6),(204,UF),(159,Zdb),(206,UG),(26,ZdW)] 246 Zn3:=by
 refine pwo Tryz.func246 fun args σ K h=>?_
 unfold Zn3 at h
 split at h
 ·rename_i t s a
  obtain ⟨⟨h0,h1,hs⟩,h⟩:=h;obtain ⟨a,rfl⟩:∃n:Nat,a=n:=⟨a.toNat,oM⟩
  simp only [Tn] at h;obtain ⟨u,hu⟩:∃u,u=s.drop (a+1):=⟨_,rfl⟩
  have zx:u.length=s.length - (a+1):=by rw [hu,TD]
  refine pwu [(4,⟨[5],[0,2,3,4,22],fun vs σ=>∃(esc:Bool) (l:Bs) (i f:Nat) (p:PV),vs=[.d (.bool esc)] /\
   σ=⟨[.cells t [.d (.str s),.d (.int .i64 a)],.cells 170 [.d (.int .u8 0),.d (.str []),.d (.int .i64 0),.d (.int .i64 0),.d (.int .i64 0)],.cells 244 [.d (.int .i64 0),.d (.int .i64 0)],.cells 86 [p,.sl 0 5 (Zi l)],.iter u i],[0],1⟩ /\
   (p=.d .nilp\/p=.ptr 3 0)/\(i<=u.length/\u.length<i+f/\l.length<=4 * i)/\ZE f (u.drop i) esc l (1+i)=Wl (s.drop a),ZJi u.length⟩)] 1 false ?_
  have dc:∀n:Nat,Wl (s.drop a)=.err n->K (.ret (.tuple [Zgr 0 [] 0 0 0,Zkb ((a+n:Nat):Int) 141])) ⟨[.cells t [.d (.str s),.d (.int .i64 a)]],[],0⟩:=fun n g=>by
   have e1:ZdD a (s.drop a)=.bad (a+n) 141:=by rw [ZdD,g]
   rw [e1] at h;exact h
  have dw:∀(l:Bs) (n:Nat),Wl (s.drop a)=.ok l n->K (.ret (.tuple [Zgr 3 l 0 a ((a+n:Nat):Int),Zkb 0 0])) ⟨[.cells t [.d (.str s),.d (.int .i64 a)]],[],0⟩:=fun l n g=>by
   have e1:ZdD a (s.drop a)=.tok ⟨3,l,0,a,a+n⟩:=by rw [ZdD,g]
   rw [e1] at h;exact h
  have ic:((a:Int)+1).toNat=a+1:=oM;(conv=>whnf);refine Zl ?_;refine ⟨oM,oM,wN ?_⟩;rw [Jn,ic,<- hu];refine ⟨⟨false,[],0,(s.drop a).length+1,.d .nilp,rfl,rfl,.inl rfl,⟨oM,hD,sM⟩,?_⟩,?_⟩
  ·rw [Wl,TU,<- hu];rfl
  intro vs σ1 hI
  obtain ⟨esc,l,i,f,p,rfl,rfl,hp,⟨z6,af,ir⟩,ib⟩:=hI;obtain ⟨f,rfl⟩:∃g,f=g+1:=⟨f - 1,oM⟩
  have cq:=Zg2 l;have cm:=Zg3 l;have bo:=Zg0 u i;have ia:=ZcA (u.drop i);have j5:=Lib.decodeL_le (u.drop i);rw [TD] at j5
  cases esc with
  | true =>
   rcases hp with rfl | rfl
   ·conv=>whnf
    refine ZJU (fun h2=>wN ?_) (fun h2=>wN ?_)
    ·have aj:u.drop i≠[]:=fun g=>by have:=congrArg List.length g;rw [TD] at this;simp at this;omega
     refine Zl ?_;refine Zl ?_;refine ⟨⟨.inl rfl,oM,by rw [bo];omega⟩,wN ?_⟩;generalize hk:ZeU _ _=k;have mj:ZeU [110,116,34,92] ((Lib.decodeL (u.drop i)).1:Int)=k:=by rw [<- bo];exact hk
     cases hE:Zvc (Lib.decodeL (u.drop i)).1 with
     | none =>
      exact mq73
     | some b =>
     have g1:Wl (s.drop a)=ZE f (u.drop (i+(decodeL u i).2)) false (l++[b]) (1+(i+(decodeL u i).2)):=by rw [<- ib,bo];simp [ZE,aj,hE,TU,Sv]
     have g3:i+(decodeL u i).2<=u.length:=by rw [bo];have:=j5 aj;omega
     have qr:1<=(decodeL u i).2:=by rw [bo];omega
     rcases Zn7 hE with ⟨e1,rfl⟩ | ⟨e1,rfl⟩ | ⟨e1,rfl⟩ | ⟨e1,rfl⟩
     all_goals (rw [e1] at mj;subst mj)
     all_goals (conv=>whnf)
     all_goals (refine ⟨oM,by first | omega | (simp;done) | (simp;omega),?_⟩)
     all_goals (conv=>whnf)
     all_goals (refine ⟨⟨.inl rfl,rfl,rfl,cq,oM⟩,?_⟩)
     all_goals (conv=>whnf)
     all_goals (refine ⟨⟨false,_,_,f,_,rfl,?_,.inr rfl,⟨g3,oM,?_⟩,g1.symm⟩,?_⟩)
     all_goals (first | (rw [ZaQ];rfl) | (rw [Ta];simp;omega) | exact (show u.length - (i+(decodeL u i).2)<u.length - i by omega))
    exact mq45
   conv=>whnf
   refine ZJU (fun h2=>wN ?_) (fun h2=>wN ?_)
   ·have aj:u.drop i≠[]:=fun g=>by have:=congrArg List.length g;rw [TD] at this;simp at this;omega
    refine Zl ?_;refine Zl ?_;refine ⟨⟨.inl rfl,oM,by rw [bo];omega⟩,wN ?_⟩;generalize hk:ZeU _ _=k;have mj:ZeU [110,116,34,92] ((Lib.decodeL (u.drop i)).1:Int)=k:=by rw [<- bo];exact hk
    cases hE:Zvc (Lib.decodeL (u.drop i)).1 with
    | none =>
     exact mq73
    | some b =>
    have g1:Wl (s.drop a)=ZE f (u.drop (i+(decodeL u i).2)) false (l++[b]) (1+(i+(decodeL u i).2)):=by rw [<- ib,bo];simp [ZE,aj,hE,TU,Sv]
    have g3:i+(decodeL u i).2<=u.length:=by rw [bo];have:=j5 aj;omega
    have qr:1<=(decodeL u i).2:=by rw [bo];omega
    rcases Zn7 hE with ⟨e1,rfl⟩ | ⟨e1,rfl⟩ | ⟨e1,rfl⟩ | ⟨e1,rfl⟩
    all_goals (rw [e1] at mj;subst mj)
    all_goals (conv=>whnf)
    all_goals (refine ⟨oM,by first | omega | (simp;done) | (simp;omega),?_⟩)
    all_goals (conv=>whnf)
    all_goals (refine ⟨⟨.inr rfl,rfl,rfl,cq,oM⟩,?_⟩)
    all_goals (conv=>whnf)
    all_goals (refine ⟨⟨false,_,_,f,_,rfl,?_,.inr rfl,⟨g3,oM,?_⟩,g1.symm⟩,?_⟩)
    all_goals (first | (rw [ZaQ];rfl) | (rw [Ta];simp;omega) | exact (show u.length - (i+(decodeL u i).2)<u.length - i by omega))
   exact mq45
  | false =>
  rcases hp with rfl | rfl
  ·conv=>whnf
   refine ZJU (fun h2=>wN ?_) (fun h2=>wN ?_)
   ·have aj:u.drop i≠[]:=fun g=>by have:=congrArg List.length g;rw [TD] at this;simp at this;omega
    have g3:i+(decodeL u i).2<=u.length:=by rw [bo];have:=j5 aj;omega
    have qr:1<=(decodeL u i).2:=by rw [bo];omega
    have qe:((a:Int)+1+(i:Int)).toNat=a+1+i:=oM;have wl:s.drop (a+1+i)=u.drop i:=by rw [hu,TU]
    refine Zl ?_;refine Zl ?_;refine ⟨⟨oM,oM⟩,wN ?_⟩;refine ZJU (fun h3=>wN ?_) (fun h3=>wN ?_)
    ·have eg:(Lib.decodeL (u.drop i)).1=34:=by rw [bo] at h3;omega
     have g1:Wl (s.drop a)=.ok l (1+i+1):=by rw [<- ib];simp [ZE,aj,eg]
     refine Zl ?_;refine ⟨l,⟨rfl,rfl,rfl,.inl rfl,oM⟩,wN ?_⟩;exact mq104
    have eg:¬(Lib.decodeL (u.drop i)).1=34:=by rw [bo] at h3;omega
    refine ZJU (fun h4=>wN ?_) (fun h4=>wN ?_)
    ·have j9:(Lib.decodeL (u.drop i)).1=92:=by rw [bo] at h4;omega
     have g1:Wl (s.drop a)=ZE f (u.drop (i+(decodeL u i).2)) true l (1+(i+(decodeL u i).2)):=by rw [<- ib,bo];simp [ZE,aj,eg,j9,TU,Sv]
     refine ⟨⟨true,_,_,f,_,rfl,rfl,.inl rfl,⟨g3,oM,oM⟩,g1.symm⟩,?_⟩;exact mq196
    have j9:¬(Lib.decodeL (u.drop i)).1=92:=by rw [bo] at h4;omega
    refine ZJU (fun h5=>wN ?_) (fun h5=>wN ?_)
    ·exact mq78
    have f8:¬(pk (u.drop i)).1<32:=by rw [qe,wl] at h5;exact h5
    have g1:Wl (s.drop a)=ZE f (u.drop (i+(decodeL u i).2)) false (l++Lib.encodeRune ((decodeL u i).1:Int)) (1+(i+(decodeL u i).2)):=by rw [<- ib,bo];simp [ZE,aj,eg,j9,f8,TU,Sv]
    have hen:=Zmu ((decodeL u i).1:Int);refine ⟨⟨.inl rfl,rfl,rfl,cq,oM,oM,by rw [bo];omega⟩,wN ?_⟩;exact mq102
   exact mq45
  conv=>whnf
  refine ZJU (fun h2=>wN ?_) (fun h2=>wN ?_)
  ·have aj:u.drop i≠[]:=fun g=>by have:=congrArg List.length g;rw [TD] at this;simp at this;omega
   have g3:i+(decodeL u i).2<=u.length:=by rw [bo];have:=j5 aj;omega
   have qr:1<=(decodeL u i).2:=by rw [bo];omega
   have qe:((a:Int)+1+(i:Int)).toNat=a+1+i:=oM;have wl:s.drop (a+1+i)=u.drop i:=by rw [hu,TU]
   refine Zl ?_;refine Zl ?_;refine ⟨⟨oM,oM⟩,wN ?_⟩;refine ZJU (fun h3=>wN ?_) (fun h3=>wN ?_)
   ·have eg:(Lib.decodeL (u.drop i)).1=34:=by rw [bo] at h3;omega
    have g1:Wl (s.drop a)=.ok l (1+i+1):=by rw [<- ib];simp [ZE,aj,eg]
    refine Zl ?_;refine ⟨l,⟨rfl,rfl,rfl,.inr rfl,oM⟩,wN ?_⟩;exact mq104
   have eg:¬(Lib.decodeL (u.drop i)).1=34:=by rw [bo] at h3;omega
   refine ZJU (fun h4=>wN ?_) (fun h4=>wN ?_)
   ·have j9:(Lib.decodeL (u.drop i)).1=92:=by rw [bo] at h4;omega
    have g1:Wl (s.drop a)=ZE f (u.drop (i+(decodeL u i).2)) true l (1+(i+(decodeL u i).2)):=by rw [<- ib,bo];simp [ZE,aj,eg,j9,TU,Sv]
    refine ⟨⟨true,_,_,f,_,rfl,rfl,.inr rfl,⟨g3,oM,oM⟩,g1.symm⟩,?_⟩;exact mq196
   have j9:¬(Lib.decodeL (u.drop i)).1=92:=by rw [bo] at h4;omega
   refine ZJU (fun h5=>wN ?_) (fun h5=>wN ?_)
   ·exact mq78
   have f8:¬(pk (u.drop i)).1<32:=by rw [qe,wl] at h5;exact h5
   have g1:Wl (s.drop a)=ZE f (u.drop (i+(decodeL u i).2)) false (l++Lib.encodeRune ((decodeL u i).1:Int)) (1+(i+(decodeL u i).2)):=by rw [<- ib,bo];simp [ZE,aj,eg,j9,f8,TU,Sv]
   have hen:=Zmu ((decodeL u i).1:Int);refine ⟨⟨.inr rfl,rfl,rfl,cq,oM,oM,by rw [bo];omega⟩,wN ?_⟩;exact mq102
  exact mq45
 exact h.elim
def Zmv (r:Bs) (h:0<r.length):YX r<=r.length/\YX r<=2:=by
 unfold YX
 split
 ·rename_i h1
  simp only [twos,SZ,List.any_nil,SG,SB] at h1;rcases h1 with h1 | h1 | h1 | h1 | h1
  all_goals (have:=(Z4 h1).1;omega)
 split <;> omega
def Yr (a:Nat) (r:Bs) (room:Bool):Vk a r room=if YX r=0/\(pk r).1≠34/\Ze (pk r).1=false/\Zk (pk r).1=false then .bad a 140
 else if room=false then .bad a 3
 else if 0<YX r then .tok ⟨4,r.take (YX r),0,a,a+YX r⟩
 else if (pk r).1=34 then ZdD a r
 else if Zk (pk r).1=true then Wm a r
 else .tok ⟨1,r.take (Vj r),0,a,a+Vj r⟩:=rfl
def Zzm:OKw w0 nG [(159,Zdb),(245,Zn2),(160,JY),(201,ZeT),(246,Zn3),(247,ZdX),(161,Zkc)] 214 Zg1:=by
 refine pwo Tryz.func214 fun args σ K h=>?_
 unfold Zg1 at h
 split at h
 ·rename_i room t s a
  obtain ⟨⟨h0,h1,hs⟩,h⟩:=h;obtain ⟨a,rfl⟩:∃n:Nat,a=n:=⟨a.toNat,oM⟩
  simp only [Tn] at h;have uq:-1<=(pk (s.drop ((a:Int)).toNat)).1/\(pk (s.drop ((a:Int)).toNat)).1<=1114111:=Vu (s.drop a);have ep:=Zmv (s.drop a) hD;rw [TD] at ep;have dc:∀e:Nat,Vk a (s.drop a) room=.bad a e->K (.ret (.tuple [Zgr 0 [] 0 0 0,Zkb a e])) ⟨[.cells t [.d (.str s),.d (.int .i64 a)]],[],0⟩:=fun e g=>by
   rw [g] at h;exact h
  have x9:∀n:Nat,YX (s.drop a)=n->Vk a (s.drop a) room=.tok ⟨4,(s.drop a).take n,0,a,a+n⟩->K (.ret (.tuple [Zgr 4 (cut s ((a:Int)).toNat ((a:Int)+(n:Int)).toNat) 0 a ((a:Int)+(n:Int)),Zkb 0 0])) ⟨[.cells t [.d (.str s),.d (.int .i64 a)]],[],0⟩:=fun n g1 g2=>by
   rw [g2] at h;rw [Zir,show ((a:Int)+(n:Int)).toNat - ((a:Int)).toNat=n by omega];exact h
  have ip:Vk a (s.drop a) room=.tok ⟨1,(s.drop a).take (Vj (s.drop a)),0,a,a+Vj (s.drop a)⟩->K (.ret (.tuple [Zgr 1 ((s.drop a).take (Vj (s.drop a))) 0 a ((a:Int)+(Vj (s.drop a):Int)),Zkb 0 0])) ⟨[.cells t [.d (.str s),.d (.int .i64 a)]],[],0⟩:=fun g=>by
   rw [g] at h;exact h
  refine pwv [] 1 false ?_;refine ⟨⟨oM,oM⟩,wN ?_⟩;refine ⟨⟨oM,oM,oM⟩,wN ?_⟩;generalize jg:(pk (s.drop ((a:Int)).toNat)).1=c at uq |-;have hc:(pk (s.drop a)).1=c:=jg;generalize dl:YX (s.drop ((a:Int)).toNat)=n;have hn:YX (s.drop a)=n:=dl;rw [hn] at ep;refine ZJU (fun h2=>?_) (fun h2=>?_)
  ·obtain rfl:n=0:=by omega
   conv=>whnf
   refine ZJX (fun h3=>wN ?_) (fun h3=>?_)
   ·refine ⟨⟨oM,oM⟩,wN ?_⟩;refine ZJY (fun h4=>wN ?_) (fun h4=>?_)
    ·have j9:Ze c=false:=by simpa using h4
     refine ZJY (fun h5=>wN ?_) (fun h5=>?_)
     ·have f8:Zk c=false:=by simpa using h5
      (try (refine ⟨rfl,?_⟩;conv=>whnf))
      (try (refine ⟨rfl,?_⟩;conv=>whnf))
      exact dc 140 (by rw [Yr,hn,hc,Tg ⟨rfl,h3,j9,f8⟩])
     have f8:Zk c=true:=by simpa using h5
     have jx:¬(0=0/\c≠34/\Ze c=false/\Zk c=false):=fun g=>by rw [f8] at g;simp at g
     cases room with
     | false =>
      exact mq51
     | true =>
     conv=>whnf
     refine ZJU (fun h6=>?_) (fun h6=>wN ?_)
     ·exact absurd h6 (by simpa using h3)
     refine ZJY (fun h7=>wN ?_) (fun h7=>?_)
     ·refine ⟨⟨oM,oM,oM⟩,wN ?_⟩;have g:Vk a (s.drop a) true=Wm a (s.drop a):=by
       rw [Yr,hn,hc,Tb jx,Tb sM,Tb oM,Tb h3,Tg f8]
      rw [g] at h;exact h
     rw [f8] at h7;cases h7
    have j9:Ze c=true:=by simpa using h4
    have f8:Zk c=false:=by
     have af1:(c=95\/128<=c\/(97<=c/\c<=122)\/(65<=c/\c<=90)):=by simpa [Ze] using j9
     simp only [Zk,decide_eq_false_iff_not];omega
    have jx:¬(0=0/\c≠34/\Ze c=false/\Zk c=false):=fun g=>by rw [j9] at g;simp at g
    cases room with
    | false =>
     exact mq51
    | true =>
    conv=>whnf
    refine ZJU (fun h6=>?_) (fun h6=>wN ?_)
    ·exact absurd h6 (by simpa using h3)
    refine ZJY (fun h7=>?_) (fun h7=>wN ?_)
    ·rw [f8] at h7;cases h7
    refine ⟨⟨oM,oM,oM⟩,wN ?_⟩;exact ip (by rw [Yr,hn,hc,Tb jx,Tb sM,Tb oM,Tb h3,Tb (by rw [f8];simp)])
   obtain rfl:c=34:=h3;have jx:¬(0=0/\(34:Int)≠34/\Ze 34=false/\Zk 34=false):=fun g=>g.2.1 rfl
   cases room with
   | false =>
    exact mq51
   | true =>
   conv=>whnf
   refine ⟨⟨oM,oM,oM⟩,wN ?_⟩;have g:Vk a (s.drop a) true=ZdD a (s.drop a):=by
    rw [Yr,hn,hc,Tb jx,Tb sM,Tb oM,Tg rfl]
   rw [g] at h;exact h
  have jx:¬(n=0/\c≠34/\Ze c=false/\Zk c=false):=fun g=>by omega
  cases room with
  | false =>
   exact mq51
  | true =>
  conv=>whnf
  refine ZJU (fun h6=>wN ?_) (fun h6=>?_)
  ·refine Zl ?_;refine ⟨oM,oM,oM,wN ?_⟩;refine Zl ?_
   (try (refine ⟨rfl,?_⟩;conv=>whnf))
   (try (refine ⟨rfl,?_⟩;conv=>whnf))
   exact x9 n hn (by rw [Yr,hn,hc,Tb jx,Tb sM,Tg oM])
  omega
 exact h.elim
def ZDL (r:Bs) (h0:0<=(pk r).1) (h:(pk r).1<128):0<r.length/\(pk r).1=((r.getD 0 0).toNat:Int)/\(pk r).2=1:=by
 unfold pk at h h0 |-
 split at h
 ·rename_i g;rw [Tg g] at h0;simp at h0
 rename_i g
 simp only [not_or] at g;rw [Tb (by simp only [not_or];exact g)] at h0 |-;have hl:0<r.length:=Sf.2 g.1;refine ⟨hl,?_⟩;rw [Lib.decodeL_N] at h |-;rcases Lib.decodeN_shape r.length (r.getD 0 0).toNat (r.getD 1 0).toNat (r.getD 2 0).toNat (r.getD 3 0).toNat with ⟨c,e⟩ | ⟨c1,c2,c3,cv,e⟩ | ⟨c1,c2,c3,c4,cv,cs,e⟩ | ⟨c1,c2,c3,c4,c5,cv,cw,e⟩ | e
 ·rw [e];exact ⟨rfl,rfl⟩
 all_goals (rw [e] at h;dsimp only at h;omega)
def isLetter_iff {c:Int}:Ze c=true↔(c=95\/128<=c\/(97<=c/\c<=122)\/(65<=c/\c<=90)):=by simp [Ze]
def isDigit_iff {c:Int}:Zk c=true↔(48<=c/\c<=57):=by simp [Zk]
def ZeX:∀(f:Nat) (r:Bs),YE f r<=r.length
 | 0,r=>Sl _
 | f+1,r=>by
  have ih:=ZeX f (r.drop (pk r).2);rw [TD] at ih;have hl:(pk r).1≠-1->(pk r).2<=r.length:=fun h=>(ZvK r h).2.1
  unfold YE
  split
  ·rename_i h;have:=hl oM;split <;> omega
  split
  ·rename_i h
   have:=hl (fun h1=>by rw [h1,Jo,ZaO] at h;simp at h);omega
  omega
def Zsp (r:Bs) (h:Ze (pk r).1=true):1<=Vj r/\Vj r<=r.length:=by
 refine ⟨?_,ZeX _ _⟩;have:=Zsj r;have uw:¬(pk r).1=46:=fun g=>by rw [g] at h;revert h;decide
 rw [Vj,Zby uw (.inl h)];omega
def JZ:∀(f:Nat) (r:Bs) (esc:Bool) (acc:Bs) (p:Nat) (t:Bs) (l:Nat),ZE f r esc acc p=.ok t l->p<l/\l<=p+r.length
 | 0,r,esc,acc,p,t,l,h=>by simp [ZE] at h
 | f+1,r,esc,acc,p,t,l,h=>by
  unfold ZE at h
  split at h
  ·cases h
  rename_i aj
  have hd:=Lib.decodeL_le r aj;have hr:=ZcA r;split at h
  ·split at h
   ·cases h
   have:=JZ f _ _ _ _ _ _ h;rw [TD] at this;omega
  split at h
  ·cases h;have:=Sf.2 aj;omega
  split at h
  ·have:=JZ f _ _ _ _ _ _ h;rw [TD] at this;omega
  split at h
  ·cases h
  have:=JZ f _ _ _ _ _ _ h;rw [TD] at this;omega
def Zkm (r:Bs):Zw r<=r.length:=by
 unfold Zw Zb
 have:=Jq (XT (XZ r)) (r.drop (if XZ r then 2 else 0));rw [TD] at this
 by_cases h:XZ r=true
 ·have:=(Z4 h).1;simp only [h,if_true] at *;omega
 simp only [h,Tx,if_false] at *;omega
def Zsq {a:Nat} {r:Bs} {room:Bool} {t:Tok} (h0:0<r.length) (h:Vk a r room=.tok t):t.at'=a/\a<t.fin/\t.fin<=a+r.length:=by
 rw [Yr] at h;split at h
 ·cases h
 rename_i g0
 split at h
 ·cases h
 split at h
 ·cases h;rename_i g1;have:=Zmv r h0;exact ⟨rfl,by simp only;omega,by simp only;omega⟩
 rename_i g1
 split at h
 ·unfold ZdD at h
  split at h
  ·cases h
  rename_i t' l hx
  cases h
  have:=JZ _ _ _ _ _ _ _ hx;rw [TD] at this;exact ⟨rfl,by simp only;omega,by simp only;omega⟩
 rename_i g2
 split at h
 ·rename_i g3
  unfold Wm at h
  split at h
  ·cases h
  rename_i n hx
  cases h
  have am:=Zkm r;refine ⟨rfl,?_,by simp only;omega⟩;simp only;have aj:Zb r≠[]:=fun g=>by rw [ZP,Tg g] at hx;cases hx
  have:=Sf.2 aj;unfold Zw;omega
 rename_i g3
 cases h
 have h4:Ze (pk r).1=true:=by
  cases hb:Ze (pk r).1 with
  | true=>rfl
  | false=>exact absurd ⟨oM,g2,hb,by simpa using g3⟩ g0
 have:=Zsp r h4;exact ⟨rfl,by simp only;omega,by simp only;omega⟩
def Zsr {a:Nat} {r:Bs} {room:Bool} {p e:Nat} (h:Vk a r room=.bad p e):e≠0/\e<=142:=by
 rw [Yr] at h
 repeat' split at h
 all_goals first | (cases h;done) | (cases h;omega) | (cases h;decide) | skip
 ·unfold ZdD at h;split at h <;> cases h;decide
 unfold Wm at h;split at h <;> cases h;decide
def ZeY:∀(f:Nat) (r:Bs),(Zx f r).2<=r.length
 | 0,r=>Sl _
 | f+1,r=>by
  have hdw:=Vv (([32,9,13,10]:Bs).contains ·) r
  obtain ⟨rest,au⟩:∃x,x=Lib.trimLeftS r [32,9,13,10]:=⟨_,rfl⟩
  have cu:rest.length<=r.length:=by rw [au];exact hdw.2
  simp only [Zx,<- au];split
  ·rename_i h1
   have ih:=fun n=>ZeY f (rest.drop n)
   have ab:=Jp 10 rest;have js:=Lib.indexByte_ge rest 10;have ih2:=ih (if Lib.indexByte rest 10<0 then rest.length else (Lib.indexByte rest 10).toNat);rw [TD] at ih2;simp only;have:(if Lib.indexByte rest 10<0 then rest.length else (Lib.indexByte rest 10).toNat)<=rest.length:=by split <;> omega
   omega
  split
  ·rename_i h1 h2
   have hl:=(Z4 h2).1;split
   ·simp only;omega
   rename_i h3
   have am:=Zis [42,47] (rest.drop 2) oM;simp only [TD,Te,Th] at am;have ih2:=ZeY f (rest.drop ((Lib.index (rest.drop 2) [42,47]).toNat+4));rw [TD] at ih2;simp only;omega
  simp only;omega
end Go.PM.Lex
end

section
namespace Go.PM
def Zss (T:Tab) (tbl:Tbl) (it:Zva) (gid:FuncId) (fn:Func):Zva:=fun g args raw σ K=>∃loops,Zse T tbl it gid fn loops g args raw σ K
def Zmw {G : GE} {T : Tab} {tbl : Tbl} (hT : TabOK T G.P) (be : G.P.follows .mixedOrders = true) (ht : TblOK G tbl) (hm : TblM tbl) {it : Zva} (m7 : Jh G it) {gid : FuncId} {fn : Func} {c : Code} (hf : G.P.funcs[gid]? = some fn) (hb : fn.body = some c) (ax : (fn.name == "runtime.NumGoroutine") = false)
  (ba:ZF fn.ntmps c=true):Jh G (Zss T tbl it gid fn):=fun g args raw σ K h=>by
 obtain ⟨loops,h⟩:=h;exact Zp9 hT be ht hm m7 hf hb ax ba loops g args raw σ K h
end Go.PM
namespace Go.PM.Lex
open Go.Proofs
variable {w0:World} {nG:Nat}
def Zst:Zq:=fun args σ K=>match args,σ with
 | [.d (.str s),.d (.int .i64 m)],⟨[],[],0⟩=>K (.ret (.func 212 [] [.ptr 0 0,.ptr 1 0])) ⟨[.cells 9 [.d (.str s)],.cells 3 [.d (.int .i64 m)]],[],0⟩
 | _,_=>False
def Zqe:ZL Zst:=fun args σ K K' hK h=>by
 unfold Zst at h |-;split at h <;> first | exact hK _ _ h | exact h.elim
def ZDM:PC w0 nG 178 Zst:=by
 refine pwe Tryz.func178 fun args σ K h=>?_
 unfold Zst at h
 split at h
 ·rename_i s m
  refine pwv [] 2 false ?_;exact h
 exact h.elim
def ZDN (t:Tok):List D:=[.int .u8 t.kind,.str t.text,.int .i64 t.n,.int .i64 t.at',.int .i64 t.fin]
def Z6 (l:List Tok):List (List D):=l.map ZDN
def Wh (l:List Tok):(Z6 l).length=l.length:=by simp [Z6]
def Zqf (l:List Tok) (t:Tok):Z6 (l++[t])=Z6 l++[ZDN t]:=by simp [Z6]
def ZbA:Zq:=fun args σ K=>match args,σ with
 | [.d (.str s),.d (.int .i64 m)],⟨[],[],0⟩=>s.length<4294967281 /\
   K (.ret (.tuple [.d (.sl (if (ZeR s m).2.2=0 then Z6 (ZeR s m).1 else [])),.d (.int .i64 (ZeR s m).2.1),.d (.int .i64 (ZeR s m).2.2)])) ⟨[],[],0⟩
 | _,_=>False
def Ziv:Tbl:=[(213,Zcy),(214,Zg1)]
def ZHm:Zva:=Zss ZaM Ziv ZeP 212 Tryz.f212
def Zsv (ht:TO w0 nG Ziv):Jh (GG w0 nG) ZHm:=Zmw ZR mixed ht ⟨Zkd,Zmr,trivial⟩ ZgZ Tryz.func212 rfl kR kR
def muX (B:Int) (k:Nat):List PV->St->Nat:=fun _ σ=>match σ.bx[k]? with | some (.cells _ (_::.d (.int _ n)::_))=>(B - n).toNat | _=>0
def Zsw (fk:TO w0 nG Ziv) (ht:TO w0 nG [(178,Zst)]):PC w0 nG 126 ZbA:=by
 refine Zy6 ZR mixed ht ⟨Zqe,trivial⟩ (Zsv fk) Tryz.func126 rfl kR kR ?_;intro args σ K h
 unfold ZbA at h
 split at h
 ·rename_i s m
  obtain ⟨hs,h⟩:=h;refine ⟨Zr [],0,false,sM,Td rfl,wN ?_⟩;intro y r
  refine ⟨Zr [(3,⟨[5],[0,1,2,4],fun vs σ=>∃(l:List Tok) (e f:Nat),vs=[.d (.int .i64 (l.length:Int))] /\
   σ=⟨[.cells 117 [.sl 0 170 []],.cells 3 [.d (.int .i64 0)],.cells 30 [.d (.int .i64 0)],.cells 117 [.sl 1 170 (Z6 l)],.cells 9 [.d (.str s)],.cells 3 [.d (.int .i64 m)],.loop .ready none r,.cells 222 [.d (.str s),.d (.int .i64 e)]],[1,0],2⟩ /\
   (e<=s.length/\s.length<e+f/\l.length<=e)/\ZeR s m=(l++(Wn f (m - l.length) e (s.drop e)).1,(Wn f (m - l.length) e (s.drop e)).2),muX s.length 7⟩)],rfl,?_⟩
  conv=>whnf
  refine ⟨⟨[],0,s.length+1,rfl,rfl,⟨oM,oM,sM⟩,by simp [ZeR]⟩,?_⟩;intro vs σ1 hI
  obtain ⟨l,e,f,rfl,rfl,⟨he1,qj,am⟩,ce⟩:=hI;obtain ⟨f,rfl⟩:∃g,f=g+1:=⟨f - 1,oM⟩
  have cm:(ZT (s.drop e)).2<=s.length - e:=by have:(ZT (s.drop e)).2<=(s.drop e).length:=ZeY _ _;rw [TD] at this;exact this
  have dc:∀p c:Nat,(Wn (f+1) (m - l.length) e (s.drop e)).2=(p,c)->c≠0->K (.ret (.tuple [.d (.sl []),.d (.int .i64 p),.d (.int .i64 c)])) ⟨[],[],0⟩:=fun p c g1 g2=>by
   have e1:(ZeR s m).2=(p,c):=by rw [ce];exact g1
   rw [e1] at h;simp only at h;rw [Tb g2] at h;exact h
  have ec:Wn (f+1) (m - l.length) e (s.drop e)=([],(0,0))->K (.ret (.tuple [.d (.sl (Z6 l)),.d (.int .i64 0),.d (.int .i64 0)])) ⟨[],[],0⟩:=fun g=>by
   rw [ce,g] at h;simp only [TL,if_true] at h;exact h
  conv=>whnf
  refine ⟨⟨oM,oM,oM⟩,wN ?_⟩;generalize hk0:(ZT (s.drop ((e:Int)).toNat)).2=k;have hk:(ZT (s.drop e)).2=k:=hk0;rw [hk] at cm;refine ZJY (fun h2=>wN ?_) (fun h2=>wN ?_)
  ·have cz:(ZT (s.drop e)).1=false:=by simpa using h2
   have g1:Wn (f+1) (m - l.length) e (s.drop e)=([],(e+k,140)):=by rw [Wn,Tg cz,hk]
   have g2:=dc _ _ (by rw [g1]) dM;rw [show ((e+k:Nat):Int)=(e:Int)+(k:Int) by omega] at g2;refine ⟨rfl,rfl,rfl,wN ?_⟩;refine ⟨rfl,wN ?_⟩
   iterate 6 (try (refine ⟨rfl,?_⟩;conv=>whnf))
   exact g2
  have cz:(ZT (s.drop e)).1=true:=by simpa using h2
  have cq:¬(ZT (s.drop e)).1=false:=by rw [cz];simp
  refine ZJU (fun h3=>wN ?_) (fun h3=>wN ?_)
  ·have aq:(s.drop e).drop k=[]:=by rw [TU];exact TA oM
   have g1:Wn (f+1) (m - l.length) e (s.drop e)=([],(0,0)):=by rw [Wn,Tb cq,hk,Tg aq]
   exact ec g1
  have ab:e+k<s.length:=by omega
  have aj:¬(s.drop e).drop k=[]:=fun g=>by have:=congrArg List.length g;rw [TU,TD] at this;simp at this;omega
  have g1:Wn (f+1) (m - l.length) e (s.drop e)=(match Vk (e+k) (s.drop (e+k)) (decide ((l.length:Int)<m)) with
    | .bad p e=>([],(p,e))
    | .tok t=>(t::(Wn f (m - l.length - 1) t.fin ((s.drop (e+k)).drop (t.fin - (e+k)))).1,(Wn f (m - l.length - 1) t.fin ((s.drop (e+k)).drop (t.fin - (e+k)))).2)):=by
   rw [Wn,Tb cq,hk,Tb aj,TU,show (decide (0<m - (l.length:Int)))=decide ((l.length:Int)<m) from by rw [decide_eq_decide];omega] <;> rfl
  refine ⟨⟨oM,oM,oM⟩,wN ?_⟩;generalize ji:Vk ((e:Int)+(k:Int)).toNat (s.drop ((e:Int)+(k:Int)).toNat) _=x;have hx:Vk (e+k) (s.drop (e+k)) (decide ((l.length:Int)<m))=x:=by
   rw [show ((e:Int)+(k:Int)).toNat=e+k by omega] at ji;exact ji
  rw [hx] at g1
  cases x with
  | bad p c =>
   have hc:=Zsr hx;have g2:=dc p c (by rw [g1]) hc.1;(conv=>whnf);refine ⟨rfl,rfl,rfl,wN ?_⟩;refine ⟨rfl,wN ?_⟩;refine ZJX (fun h4=>wN ?_) (fun h4=>?_)
   ·iterate 6 (try (refine ⟨rfl,?_⟩;conv=>whnf))
    exact g2
   exact absurd h4 (by have:((c:Nat):Int)≠0:=oM;exact this)
  | tok t =>
  obtain ⟨fk,kz,ht3⟩:=Zsq hD hx;rw [TD] at ht3;(conv=>whnf);refine ⟨rfl,rfl,rfl,wN ?_⟩;refine ⟨rfl,wN ?_⟩;refine ⟨fun r hr=>by (simp at hr;subst hr;rfl),(show ((Z6 l).length+1) * 48<=2 ^ 47 by rw [Wh];omega),(show (Z6 l).length+1<=2 ^ 47 by rw [Wh];omega),wN ?_⟩
  iterate 3 (try (refine ⟨rfl,?_⟩;conv=>whnf))
  refine Zl ?_;refine ⟨⟨l++[t],t.fin,f,?_,?_,⟨oM,oM,by rw [Ta];simp;omega⟩,?_⟩,?_⟩
  ·rw [Ta];rfl
  ·rw [Zqf];rfl
  ·have hd:(s.drop (e+k)).drop (t.fin - (e+k))=s.drop t.fin:=by rw [TU,show e+k+(t.fin - (e+k))=t.fin by omega]
   rw [ce,g1,Ta];simp only [hd,Te,Th,Int.natCast_add,Int.sub_sub,Tj,Tp,Tu];rfl
  exact (show ((s.length:Int) - (t.fin:Int)).toNat<((s.length:Int) - (e:Int)).toNat by omega)
 exact h.elim
end Go.PM.Lex
end

section
namespace Go.PM.Lex
open Go.Proofs
variable {w0:World} {nG:Nat}
def ZDO:Tbl:=[(279,ZHd),(280,ZeW)]
def Zkn (hg:GlobOK w0 nG):PC w0 nG 265 ZaN:=by
 refine pwt (tbl:=ZDO) ⟨ZHf,Zqd hg,trivial⟩ Tryz.func265 fun args σ K h=>?_
 unfold ZaN at h
 split at h
 ·rename_i l base bits
  obtain ⟨fd,⟨hl,rfl,rfl⟩,dc,dw⟩:=h;refine pwv [] 0 false ?_;refine ⟨fd,⟨hl,rfl,rfl⟩,fun h0=>?_,fun h0 h1=>?_,fun h0 h1=>?_⟩
  ·conv=>whnf
   refine ⟨⟨.inr rfl,hl.2⟩,wN ?_⟩;exact dc (.inl h0) _
  ·conv=>whnf
   refine ⟨⟨.inl rfl,hl.2⟩,wN ?_⟩;exact dc (.inr h1) _
  conv=>whnf
  exact dw (by simp only [not_or];exact ⟨h0,h1⟩)
 exact h.elim
def Zsx:PC w0 nG 159 Zdb:=Zy9 ⟨Zqa,Vt,trivial⟩
def ZHn:PC w0 nG 245 Zn2:=Zzb ⟨Vt,Jm,trivial⟩
def ZDP:PC w0 nG 161 Zkc:=Zzd ⟨Zsx,Zbx,Ziq,trivial⟩
def ZDQ (hg:GlobOK w0 nG):PC w0 nG 213 Zcy:=ZvM ⟨Zmq,Vt,Jm,ZvI (by have:=hg.big;omega) hg.maxLen,trivial⟩
def Zzn (hg:GlobOK w0 nG):PC w0 nG 247 ZdX:=Zsm ⟨Vt,Ziq,Zkn hg,Zsx,Zbx,trivial⟩
def Zko:PC w0 nG 236 ZaP:=Y8 (Zg Tryz.func236 kR rfl) fun args σ K h e w vs hS ha=>by
 unfold ZaP at h
 split at h
 ·obtain ⟨u,rfl,hu⟩:=Zke ha
  cases hu.dint
  exact ⟨_,h,_,fun _ _=>.mkbool,(Tryz.utf8_ValidRune _ w).mono fun en w' ⟨h1,h2⟩=>⟨h1,by rw [h2];exact Grows.refl _⟩⟩
 exact h.elim
def Zg4:PC w0 nG 205 W6:=Zkl ⟨Jm,Zko,trivial⟩
def ZHo:PC w0 nG 246 Zn3:=Zzk ⟨Zg4,Zde,Zsx,Zdf,Zkg,trivial⟩
def ZHp (hg:GlobOK w0 nG):PC w0 nG 214 Zg1:=Zzm ⟨Zsx,ZHn,Zbx,Ziq,ZHo,Zzn hg,ZDP,trivial⟩
def ZHq (hg:GlobOK w0 nG):TO w0 nG Ziv:=⟨ZDQ hg,ZHp hg,trivial⟩
def Zzo (hg:GlobOK w0 nG):PC w0 nG 126 ZbA:=Zsw (ZHq hg) ⟨ZDM,trivial⟩
end Go.PM.Lex
end
