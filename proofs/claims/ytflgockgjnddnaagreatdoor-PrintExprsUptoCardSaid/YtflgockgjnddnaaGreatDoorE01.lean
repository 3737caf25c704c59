/- A part of the proof: plain logic, contracts and laws over the given program. -/
import GoSem.Core.Program
import GoSem.Core.Utf8
import GoSem.Op.IntBits
import Derived.CallsIn
import Derived.Laws.AppendOwn
import Derived.Below
import Derived.Laws.StructEq
import Derived.Laws.Pointers
import Derived.Laws.Cover3
import Derived.Laws.Cells
import Derived.Laws.Slices
import Derived.Laws.Strings
import GoSem.Dispatch
import Derived.Laws.BytesString
import Derived.Test.YtflgockgjnddnaaGreatDoorE00
set_option linter.unusedVariables false
set_option linter.unusedSimpArgs false
set_option linter.all false
set_option maxRecDepth 100000
set_option maxHeartbeats 16000000
section
namespace Go.PM
inductive D where
 | bool (b:Bool) | int (k:IntKind) (n:Int) | str (s:List UInt8) | sl (rows:List (List D)) | nilp | nilf | nili
 deriving Inhabited
inductive PV where
 | d (x:D) | undef | ptr (b off:Nat) | elem (r:List D) (off:Nat) | sl (tok e:Nat) (rows:List (List D)) | nils (e:Nat) | asl (b off n:Nat)
 | func (f:FuncId) (first caps:List PV) | iface (t:TypeId) (v:PV) | agg (cs:List PV) | tuple (vs:List PV) | raw (v:Value)
 deriving Inhabited
inductive Box where
 | cells (t:TypeId) (cs:List PV) | iter (s:List UInt8) (pos:Nat) | loop (st:LoopState) (pd:Option Code) (r:Loop)
 deriving Inhabited
structure St where
 bx:List Box
 tk:List Nat
 nx:Nat
inductive TK where
 | other | int (k:IntKind) | bool | string | ptr (e:Nat) | slice (e:Nat) | array (n e:Nat) | struct (fs:List (Nat×Nat)) | func | iface
structure TI where
 size:Nat
 bytes:Nat
 kind:TK
 zero:List PV
 eqok:Bool
def TI.no:TI:=⟨0,0,.other,[],false⟩
inductive Tab where
 | leaf | node (l:Tab) (k:Nat) (v:TI) (r:Tab)
def Tab.get:Tab→Nat→TI
 | .leaf,_=>TI.no
 | .node l k v r,n=>match Nat.beq n k with
  | true=>v
  | false=>match Nat.ble n k with
   | true=>l.get n
   | false=>r.get n
def TK.isAgg:TK→Bool | .array _ _ | .struct _=>true | _=>false
abbrev Frame:=Nat→PV
def Zay (f:Frame) (i:Nat) (v:PV):Frame:=fun n=>match Nat.beq i n with
 | true=>v
 | false=>f n
def ZdP:Value→PV
 | .bool b=>.d (.bool b)
 | .int k n=>.d (.int k n)
 | .string s=>.d (.str s.data.toList)
 | .pointer none=>.d .nilp
 | .slice none 0 0=>.nils 0
 | .nilFunc=>.d .nilf
 | .nilIface=>.d .nili
 | v=>.raw v
def Zyb:Value→Bool
 | .agg _=>false
 | .tuple _=>false
 | _=>true
def Zj4:Value→PV
 | .agg cs=>match cs.toList.all Zyb with | true=>.agg (cs.toList.map ZdP) | false=>.raw (.agg cs)
 | v=>ZdP v
def ev (f:Frame):Operand→PV
 | .tmp t=>f t
 | .const v=>Zj4 v
 | .global _=>.undef
 | .func g=>.func g [] []
def CondP:Bool→Prop→Prop→Prop
 | true,X,_=>X
 | false,_,Y=>Y
def Xf:Nat→(Nat→Prop)→Prop
 | 0,K=>K 0
 | n+1,K=>Xf n fun m=>K (m+1)
def Zn9 (v:PV) (K:PV→Prop):Prop:=match v with
 | .d x=>K (.d x) | .undef=>K .undef | .ptr b off=>Xf b fun b=>Xf off fun off=>K (.ptr b off) | .elem r off=>Xf off fun off=>K (.elem r off) | .sl t z r=>Xf t fun t=>K (.sl t z r) | .nils z=>K (.nils z)
 | .asl b off n=>Xf b fun b=>Xf off fun off=>K (.asl b off n) | .func f a c=>K (.func f a c) | .iface t v=>K (.iface t v) | .agg cs=>K (.agg cs) | .tuple vs=>K (.tuple vs) | .raw v=>K (.raw v)
def UM:List PV→(List PV→Prop)→Prop
 | [],K=>K []
 | v::l,K=>Zn9 v fun v=>UM l fun l=>K (v::l)
def Zlu (v:PV) (K:PV→Prop):Prop:=match v with
 | .d x=>K (.d x) | .undef=>K .undef | .ptr b off=>Xf b fun b=>Xf off fun off=>K (.ptr b off) | .elem r off=>Xf off fun off=>K (.elem r off) | .sl t z r=>Xf t fun t=>K (.sl t z r) | .nils z=>K (.nils z)
 | .asl b off n=>Xf b fun b=>Xf off fun off=>K (.asl b off n) | .raw v=>K (.raw v)
 | .func f a c=>UM a fun a=>UM c fun c=>K (.func f a c) | .iface t v=>K (.iface t v) | .agg cs=>UM cs fun cs=>K (.agg cs) | .tuple vs=>K (.tuple vs)
def ZgU:List PV→(List PV→Prop)→Prop
 | [],K=>K []
 | v::l,K=>Zlu v fun v=>ZgU l fun l=>K (v::l)
def ZaR (v:PV) (K:PV→Prop):Prop:=match v with
 | .d x=>K (.d x) | .undef=>K .undef | .ptr b off=>Xf b fun b=>Xf off fun off=>K (.ptr b off) | .elem r off=>Xf off fun off=>K (.elem r off) | .sl t z r=>Xf t fun t=>K (.sl t z r) | .nils z=>K (.nils z)
 | .asl b off n=>Xf b fun b=>Xf off fun off=>K (.asl b off n) | .raw v=>K (.raw v)
 | .func f a c=>UM a fun a=>UM c fun c=>K (.func f a c) | .iface t v=>Zlu v fun v=>K (.iface t v) | .agg cs=>UM cs fun cs=>K (.agg cs) | .tuple vs=>ZgU vs fun vs=>K (.tuple vs)
def ZjX (f:Frame) (d:Option Nat) (v:PV) (K:Frame→Prop):Prop:=match d with
 | some i=>ZaR v fun v=>K (Zay f i v)
 | none=>K f
theorem ZAi {t:Bool} {X Y:Prop} (h1:t=true→X) (h2:t=false→Y):CondP t X Y:=by cases t;exact h2 rfl;exact h1 rfl
def Jt {α:Type}:Nat→List α→Option (List α)
 | 0,_=>some []
 | n+1,x::l=>match Jt n l with | some r=>some (x::r) | none=>none
 | _+1,[]=>none
def Z9 {α:Type}:List α→Nat→List α→List α
 | l,_,[]=>l
 | [],_,_=>[]
 | _::l,0,v::vs=>v::Z9 l 0 vs
 | x::l,n+1,vs=>x::Z9 l n vs
def ZjY (t:Nat):List Nat→Bool
 | []=>false
 | x::l=>match Nat.beq x t with | true=>true | false=>ZjY t l
def Zbs (t:Nat):List Nat→List Nat
 | []=>[]
 | x::l=>match Nat.beq x t with | true=>Zbs t l | false=>x::Zbs t l
def PV.cells:PV→Option (List PV)
 | .agg cs=>some cs | .undef=>none | .tuple _=>none | .raw (.func f a c)=>some [.raw (.func f a c)] | .raw _=>none | v=>some [v]
def toD:PV→Option D | .d x=>some x | .sl _ _ rows=>some (.sl rows) | .nils _=>some (.sl []) | _=>none
def ZqX:List PV→Option (List D)
 | []=>some []
 | v::l=>match toD v with | some x=>(match ZqX l with | some r=>some (x::r) | none=>none) | none=>none
def keq:IntKind→IntKind→Bool
 | .i8,.i8 | .i16,.i16 | .i32,.i32 | .i64,.i64 | .u8,.u8 | .u16,.u16 | .u32,.u32 | .u64,.u64=>true
 | _,_=>false
def Zea (op:BinOp) (k:IntKind) (a b:Int):Int:=match (Op.intBits op k a b:Sem Value) with | .pure (.int _ n)=>n | _=>0
noncomputable def Zk:BinOp→IntKind→Int→Int→Int:=Classical.choose (⟨Zea,rfl⟩:∃f,f=Zea)
theorem Ys:Zk=Zea:=Classical.choose_spec (⟨Zea,rfl⟩:∃f,f=Zea)
def InR (k:IntKind) (n:Int):Prop:=k.wrap n=n
def Zeb (k:IntKind) (n:Int) (K:PV→Prop):Prop:=(InR k n∧K (.d (.int k n)))∨K (.d (.int k (k.wrap n)))
def Zwa (op:BinOp) (k:IntKind) (a b:Int) (K:PV→Prop):Prop:=match op with
 | .add=>Zeb k (a+b) K | .sub=>Zeb k (a - b) K | .mul=>Zeb k (a * b) K
 | .quo=>b≠0∧Zeb k (a.tdiv b) K | .rem=>b≠0∧K (.d (.int k (a.tmod b)))
 | .and=>K (.d (.int k (Zk .and k a b))) | .or=>K (.d (.int k (Zk .or k a b))) | .xor=>K (.d (.int k (Zk .xor k a b))) | .andNot=>K (.d (.int k (Zk .andNot k a b)))
 | .eql=>K (.d (.bool (decide (a=b)))) | .neq=>K (.d (.bool (!decide (a=b)))) | .lss=>K (.d (.bool (decide (a<b)))) | .leq=>K (.d (.bool (decide (a≤b))))
 | .gtr=>K (.d (.bool (decide (b<a)))) | .geq=>K (.d (.bool (decide (b≤a))))
 | _=>False
def Zth:Operand→Bool | .const _=>true | _=>false
def Xo (T:Tab):Nat→List (Nat×Nat)→List PV→List PV→(Bool→Prop)→Prop
 | _,[],[],[],K=>K true
 | i,(o,t)::fs,x::xs,y::ys,K=>match Nat.beq o i,(T.get t).kind,x,y with
  | true,.int _,.d (.int k a),.d (.int k' b)=>(match keq k k' with | true=>Xo T (i+1) fs xs ys fun r=>K (decide (a=b) && r) | false=>False)
  | true,.string,.d (.str a),.d (.str b)=>Xo T (i+1) fs xs ys fun r=>K (decide (a=b) && r)
  | true,.bool,.d (.bool a),.d (.bool b)=>Xo T (i+1) fs xs ys fun r=>K (decide (a=b) && r)
  | _,_,_,_=>False
 | _,_,_,_,_=>False
def peq (T:Tab) (t:TypeId) (x y:Operand) (px py:PV) (K:Bool→Prop):Prop:=match (T.get t).kind with
 | .bool=>match px,py with
  | .d (.bool a),.d (.bool b)=>K (decide (a=b))
  | _,_=>False
 | .ptr _=>match px,py with
  | .d .nilp,.d .nilp=>K true
  | .d .nilp,.ptr _ _=>K false
  | .d .nilp,.elem _ _=>K false
  | .ptr _ _,.d .nilp=>K false
  | .elem _ _,.d .nilp=>K false
  | _,_=>False
 | .func=>match px,py with
  | .d .nilf,.d .nilf=>K true
  | .d .nilf,.func _ _ _=>K false
  | .func _ _ _,.d .nilf=>K false
  | _,_=>False
 | .iface=>match px,py with
  | .d .nili,.d .nili=>match Zth x || Zth y with | true=>K true | false=>False
  | .d .nili,.iface _ _=>K false
  | .iface _ _,.d .nili=>K false
  | .iface t (.d (.int k a)),.iface t' (.d (.int k' b))=>match Nat.beq t t',(T.get t).kind,(T.get t).eqok with
   | true,.int _,true=>(match keq k k' with | true=>K (decide (a=b)) | false=>False)
   | false,_,_=>K false
   | _,_,_=>False
  | _,_=>False
 | .slice _=>match px,py with
  | .nils _,.nils _=>K true
  | .d (.sl (_::_)),.nils _=>K false
  | .sl _ _ (_::_),.nils _=>K false
  | _,_=>False
 | .struct fs=>match (T.get t).eqok with
  | true=>match px,py with
   | .agg xs,.agg ys=>Xo T 0 fs xs ys K
   | _,_=>False
  | false=>False
 | _=>False
def Zti (T:Tab) (op:BinOp) (t:TypeId) (x y:Operand) (px py:PV) (K:PV→Prop):Prop :=
 match px,py with
 | .d (.int k a),.d (.int k' b)=>match op with
  | .shl=>0≤b∧Zeb k (a * 2 ^ (min b.toNat k.bits)) K
  | .shr=>0≤b∧K (.d (.int k (a.fdiv (2 ^ (min b.toNat k.bits)))))
  | op=>match keq k k' with | true=>Zwa op k a b K | false=>False
 | .d (.str a),.d (.str b)=>match op with
  | .add=>a.length+b.length<2 ^ 62∧K (.d (.str (a++b))) | .eql=>K (.d (.bool (decide (a=b)))) | .neq=>K (.d (.bool (!decide (a=b))))
  | .lss=>K (.d (.bool (Op.bytesLess a b))) | .geq=>K (.d (.bool (!Op.bytesLess a b)))
  | .leq=>K (.d (.bool (Op.bytesLess a b || decide (a=b)))) | .gtr=>K (.d (.bool (!(Op.bytesLess a b || decide (a=b)))))
  | _=>False
 | px,py=>match op with
  | .eql=>peq T t x y px py fun b=>K (.d (.bool b))
  | .neq=>peq T t x y px py fun b=>K (.d (.bool (!b)))
  | _=>False
def decodeL (s:List UInt8) (pos:Nat):Nat×Nat:=Utf8.decode ⟨s.toArray⟩ pos
def YV (T:Tab) (fs:List (Nat×Nat)) (ρ:Operand→PV):List (Nat×Operand)→List PV→(List PV→Prop)→Prop
 | [],cs,K=>K cs
 | (i,x)::ps,cs,K=>match fs[i]?,(ρ x).cells with
  | some (o,t),some l=>match Nat.beq l.length (T.get t).size,Nat.ble (o+l.length) cs.length,(T.get t).kind with
   | _,_,.other=>False
   | true,true,_=>YV T fs ρ ps (Z9 cs o l) K
   | _,_,_=>False
  | _,_=>False
def ZtW (s e:Nat):Nat→Nat→List (Nat×Nat)
 | 0,_=>[]
 | n+1,i=>(i * s,e)::ZtW s e n (i+1)
def UN (lo hi:Option PV) (len:Nat) (K:Nat→Nat→Prop):Prop :=
 match lo,hi with
 | none,none=>K 0 len
 | some x,none=>match x with
  | .d (.int _ n)=>0≤n∧n≤len∧K n.toNat len
  | _=>False
 | none,some y=>match y with
  | .d (.int _ m)=>0≤m∧m≤len∧K 0 m.toNat
  | _=>False
 | some x,some y=>match x,y with
  | .d (.int _ n),.d (.int _ m)=>0≤n∧n≤m∧m≤len∧K n.toNat m.toNat
  | _,_=>False
def cut {α:Type} (l:List α) (a b:Nat):List α:=(l.take b).drop a
def Zaz (T:Tab) (t:TypeId) (x:PV) (lo hi:Option PV) (K:PV→Prop):Prop:=match (T.get t).kind with
 | .string=>match x with
  | .d (.str s)=>UN lo hi s.length fun a b=>K (.d (.str (cut s a b)))
  | _=>False
 | .slice e=>match (T.get e).kind with
  | .other=>False
  | _=>match toD x with
   | some (.sl rows)=>(∀r∈rows,r.length=(T.get e).size)∧UN lo hi rows.length fun a b=>K (.d (.sl (cut rows a b)))
   | _=>False
 | .array n e=>match (T.get e).kind with
  | .other=>False
  | _=>match x,lo,hi with
   | .ptr b off,none,none=>K (.asl b off n)
   | .ptr b off,some (.d (.int _ a)),none=>0≤a∧a<n∧K (.asl b (off+a.toNat * (T.get e).size) (n - a.toNat))
   | _,_,_=>False
 | _=>False
def Zcn (T:Tab) (t:TypeId) (x:PV) (bx:List Box) (K:PV→Prop):Prop:=match x with
 | .ptr b off=>match bx[b]? with
  | some (.cells _ cs)=>match (T.get t).kind.isAgg with
   | true=>match Jt (T.get t).size (cs.drop off) with | some l=>K (.agg l) | none=>False
   | false=>match (T.get t).kind with | .other=>False | _=>match cs[off]? with | some v=>K v | none=>False
  | _=>False
 | .elem r off=>match (T.get t).kind.isAgg with
   | true=>match Jt (T.get t).size (r.drop off) with | some l=>K (.agg (l.map .d)) | none=>False
   | false=>match (T.get t).kind with | .other=>False | _=>match r[off]? with | some v=>K (.d v) | none=>False
 | _=>False
def qop (T:Tab) (o:Op) (ty:TypeId) (ρ:Operand→PV) (bx:List Box) (K:PV→Prop):Prop :=
 match o with
 | .move x | .assign x=>match ρ x with
  | .nils _=>match (T.get ty).kind with | .slice e=>K (.nils e) | _=>K (.nils 0)
  | v=>K v
 | .pick c a b=>match ρ c with | .d (.bool t)=>CondP t (K (ρ a)) (K (ρ b)) | _=>False
 | .build t ps=>match (T.get t).kind with
  | .struct fs=>YV T fs ρ ps.toList (T.get t).zero fun cs=>K (.agg cs)
  | .array n e=>match (T.get e).kind with
   | .other=>False
   | _=>match Nat.ble 1 (T.get e).size with
    | true=>YV T (ZtW (T.get e).size e n 0) ρ ps.toList (T.get t).zero fun cs=>K (.agg cs)
    | false=>False
  | _=>False
 | .load t a=>Zcn T t (ρ a) bx K
 | .nilCheck x=>match ρ x with
  | .ptr b off=>K (.ptr b off)
  | .elem r off=>K (.elem r off)
  | .func g a c=>K (.func g a c)
  | _=>False
 | .binOp op t x y _=>Zti T op t x y (ρ x) (ρ y) K
 | .unOp op _ x=>match op,ρ x with
  | .not,.d (.bool b)=>K (.d (.bool (!b)))
  | .neg,.d (.int k a)=>Zeb k (0 - a) K
  | .xor,.d (.int k a)=>K (.d (.int k (Zk .xor k (if k.signed then -1 else k.max) a)))
  | _,_=>False
 | .convert s d x=>match (T.get s).kind with
  | .other=>False
  | .slice e=>match (T.get d).kind with
   | .string=>match (T.get e).kind with
    | .int .u8=>match toD (ρ x) with
     | some (.sl rows)=>∃l:List UInt8,rows=l.map (fun b=>[.int .u8 b.toNat])∧K (.d (.str l))
     | _=>False
    | _=>False
   | _=>False
  | _=>match (T.get d).kind with
   | .int k=>match ρ x with | .d (.int _ n)=>Zeb k n K | _=>False
   | .string=>match ρ x with | .d (.str s)=>K (.d (.str s)) | .d (.int _ n)=>K (.d (.str (Utf8.encode n).data.toList)) | _=>False
   | _=>False
 | .fieldAddr s x i=>match (T.get s).kind with
  | .struct fs=>match fs[i]? with
   | some (o,_)=>match ρ x with
    | .ptr b off=>K (.ptr b (off+o))
    | .elem r off=>K (.elem r (off+o))
    | _=>False
   | none=>False
  | _=>False
 | .field s x i=>match (T.get s).kind with
  | .struct fs=>match fs[i]? with
   | some (o,t)=>match ρ x with
    | .agg cs=>match (T.get t).kind.isAgg with
     | true=>match Jt (T.get t).size (cs.drop o) with | some l=>K (.agg l) | none=>False
     | false=>match (T.get t).kind with | .other=>False | _=>match cs[o]? with | some v=>K v | none=>False
    | _=>False
   | none=>False
  | _=>False
 | .index t x i=>match ρ i with
  | .d (.int _ n)=>match (T.get t).kind with
   | .string=>match ρ x with
    | .d (.str s)=>0≤n∧n<s.length∧K (.d (.int .u8 (s.getD n.toNat 0).toNat))
    | _=>False
   | .array m e=>match ρ x with
    | .agg cs=>match (T.get e).kind.isAgg with
     | true=>match Jt (T.get e).size (cs.drop (n.toNat * (T.get e).size)) with
      | some l=>0≤n∧n<m∧K (.agg l)
      | none=>False
     | false=>match (T.get e).kind with
      | .other=>False
      | _=>match Nat.beq (T.get e).size 1 with
       | true=>match cs[n.toNat]? with | some v=>0≤n∧n<m∧K v | none=>False
       | false=>False
    | _=>False
   | _=>False
  | _=>False
 | .indexAddr t x i=>match ρ i with
  | .d (.int _ n)=>match (T.get t).kind with
   | .slice e=>match (T.get e).kind with
    | .other=>False
    | _=>match ρ x with
     | .asl b off m=>0≤n∧n<m∧K (.ptr b (off+n.toNat * (T.get e).size))
     | px=>match toD px with
      | some (.sl rows)=>∃r,0≤n∧rows[n.toNat]?=some r∧(match Nat.beq r.length (T.get e).size with | true=>K (.elem r 0) | false=>False)
      | _=>False
   | .array m e=>match (T.get e).kind with
    | .other=>False
    | _=>match ρ x with
     | .ptr b off=>0≤n∧n<m∧K (.ptr b (off+n.toNat * (T.get e).size))
     | _=>False
   | _=>False
  | _=>False
 | .slice t x lo hi none=>Zaz T t (ρ x) (lo.map ρ) (hi.map ρ) K
 | .extract x i=>match ρ x with
  | .tuple vs=>match vs[i]? with | some v=>K v | none=>False
  | _=>False
 | .makeFunc (.func g) a c=>K (.func g (a.toList.map ρ) (c.toList.map ρ))
 | .makeInterface t x=>match (T.get t).kind with
  | .iface=>False
  | .other=>False
  | _=>K (.iface t (ρ x))
 | .typeAssert x _ t true=>match (T.get t).kind with
  | .iface=>False
  | .other=>False
  | _=>match ρ x with
   | .iface t' v=>match Nat.beq t' t with
    | true=>K (.tuple [v,.d (.bool true)])
    | false=>False
   | _=>False
 | .call { callee:=.builtin b,args,argTypes }=>match b,argTypes.toList,args.toList.map ρ with
  | .len,t::_,[v]=>match (T.get t).kind with
   | .string=>match v with | .d (.str s)=>K (.d (.int .i64 s.length)) | _=>False
   | .slice _=>match v with
    | .asl _ _ n=>K (.d (.int .i64 n))
    | v=>match toD v with | some (.sl rows)=>K (.d (.int .i64 rows.length)) | _=>False
   | _=>False
  | .min,_,[.d (.int k a),.d (.int k' b)]=>match keq k k' with | true=>K (.d (.int k (min a b))) | false=>False
  | .max,_,[.d (.int k a),.d (.int k' b)]=>match keq k k' with | true=>K (.d (.int k (max a b))) | false=>False
  | _,_,_=>False
 | _=>False
def ZmO (T:Tab) (o:Op):Option Operand:=match o with
 | .convert s d x=>match (T.get s).kind with
  | .string=>match (T.get d).kind with
   | .slice e=>match (T.get e).kind with
    | .int .u8=>some x
    | _=>none
   | _=>none
  | _=>none
 | _=>none
def Zj5 (v:PV):Option (List D):=match v.cells with | some l=>ZqX l | none=>none
def Vd (w:Nat) (ρ:Operand→PV):List (Nat×Operand)→List (List D)→Option (List (List D))
 | [],rows=>some rows
 | (i,x)::ps,rows=>match Zj5 (ρ x) with
  | some r=>(match Nat.beq r.length w,Nat.ble (i+1) rows.length with | true,true=>Vd w ρ ps (rows.set i r) | _,_=>none)
  | none=>none
def Zec (zero:List D) (ρ:Operand→PV) (n:Nat) (ps:List (Nat×Operand)):Option (List (List D)):=Vd zero.length ρ ps (List.replicate n zero)
def Zh5 (T:Tab) (o:Op) (ty:TypeId) (ρ:Operand→PV) (bx:List Box) (K:PV→Prop):Prop:=match ZmO T o with
 | some x=>match ρ x with
  | .d (.str s)=>K (.d (.sl (s.map fun b=>[.int .u8 b.toNat])))
  | _=>False
 | none=>match o with
  | .buildSlice t n ps=>match (T.get t).kind with
   | .slice e=>match (T.get e).kind with
    | .other=>False
    | _=>match ZqX (T.get e).zero with
     | some zero=>match Nat.ble 1 zero.length,Nat.ble (n * zero.length) 16777216,Zec zero ρ n ps.toList with
      | true,true,some rows=>K (.d (.sl rows))
      | _,_,_=>False
     | none=>False
   | _=>False
  | .makeSlice t l c=>match (T.get t).kind with
   | .slice e=>match (T.get e).kind with
    | .other=>False
    | _=>match ZqX (T.get e).zero,ρ l,ρ c with
     | some zero,.d (.int .i64 (.ofNat n)),.d (.int .i64 (.ofNat m))=>match Nat.beq n m,Nat.ble 1 zero.length,Nat.ble (n * zero.length) 16777216,Nat.ble (n * (T.get e).bytes) 16777216 with
      | true,true,true,true=>K (.d (.sl (List.replicate n zero)))
      | _,_,_,_=>False
     | _,_,_=>False
   | _=>False
  | o=>qop T o ty ρ bx K
def St.set (σ:St) (b:Nat) (x:Box):St:={ σ with bx:=σ.bx.set b x }
def St.new (σ:St) (x:Box):St:={ σ with bx:=σ.bx++[x] }
def UO (T:Tab) (tx el:Nat) (x:PV):Option (List (List D)):=match (T.get tx).kind with
 | .string=>match (T.get el).kind with
  | .int .u8=>match x with
   | .d (.str s)=>some (s.map fun b=>[.int .u8 b.toNat])
   | _=>none
  | _=>none
 | .slice _=>match toD x with
  | some (.sl rows)=>some rows
  | _=>none
 | _=>none
def eop (T:Tab) (o:Op) (ρ:Operand→PV) (σ:St) (K:PV→St→Prop):Prop :=
 match o with
 | .alloc e=>match (T.get e).kind with | .other=>False | _=>K (.ptr σ.bx.length 0) (σ.new (.cells e (T.get e).zero))
 | .box e x=>match (ρ x).cells with | some l=>K (.ptr σ.bx.length 0) (σ.new (.cells e l)) | none=>False
 | .store t a x=>match ρ a with
  | .ptr b off=>match σ.bx[b]? with
   | some (.cells ty cs)=>match (ρ x).cells with
    | some l=>match Nat.beq l.length (T.get t).size,Nat.ble (off+l.length) cs.length,(T.get t).kind with
     | _,_,.other=>False
     | true,true,_=>K .undef (σ.set b (.cells ty (Z9 cs off l)))
     | _,_,_=>False
    | none=>False
   | _=>False
  | _=>False
 | .range t x=>match (T.get t).kind with
  | .string=>match ρ x with
   | .d (.str s)=>K (.ptr σ.bx.length 0) (σ.new (.iter s 0))
   | _=>False
  | _=>False
 | .next x true=>match ρ x with
  | .ptr b 0=>match σ.bx[b]? with
   | some (.iter s pos)=>CondP (decide (pos<s.length)) (K (.tuple [.d (.bool true),.d (.int .i64 pos),.d (.int .i32 (decodeL s pos).1)]) (σ.set b (.iter s (pos+(decodeL s pos).2)))) (K (.tuple [.d (.bool false)]) σ)
   | _=>False
  | _=>False
 | .call { callee:=.builtin .append,args,argTypes }=>match argTypes.toList,args.toList.map ρ with
  | [t,tx],[s,x]=>match (T.get t).kind with
   | .slice el=>match (T.get el).kind with
    | .other=>False
    | _=>match Nat.ble 1 (T.get el).size,UO T tx el x with
     | true,some more=>match s with
      | .nils _=>(∀r∈more,r.length=(T.get el).size)∧more.length * (T.get el).bytes≤2 ^ 47∧more.length≤2 ^ 47∧K (.sl σ.nx el more) { σ with tk:=σ.nx::σ.tk,nx:=σ.nx+1 }
      | .sl tok e2 rows=>match ZjY tok σ.tk,Nat.beq e2 el with
       | true,true=>(∀r∈more,r.length=(T.get el).size)∧(rows.length+more.length) * (T.get el).bytes≤2 ^ 47∧rows.length+more.length≤2 ^ 47 ∧
         K (.sl σ.nx el (rows++more)) { σ with tk:=σ.nx::Zbs tok σ.tk,nx:=σ.nx+1 }
       | _,_=>False
      | _=>False
     | _,_=>False
   | _=>False
  | _,_=>False
 | _=>False
def XZ:Op→Bool
 | .alloc _ | .box _ _ | .store _ _ _ | .range _ _ | .next _ _=>true
 | .call { callee:=.builtin .append,.. }=>true
 | .call { callee:=.builtin _,.. }=>false
 | .call _=>true
 | .panic _=>true
 | _=>false
mutual
def bnd (n:Nat):PV→Bool
 | .ptr b _=>Nat.ble (b+1) n
 | .asl b _ _=>Nat.ble (b+1) n
 | .func _ a c=>ZqY n a && ZqY n c
 | .iface _ v=>bnd n v
 | .agg cs=>ZqY n cs
 | .tuple vs=>ZqY n vs
 | _=>true
def ZqY (n:Nat):List PV→Bool
 | []=>true
 | v::l=>bnd n v && ZqY n l
end
mutual
def clean:PV→PV
 | .sl _ _ rows=>.d (.sl rows)
 | .nils _=>.d (.sl [])
 | .func f a c=>.func f (XR a) (XR c)
 | .iface t v=>.iface t (clean v)
 | .agg cs=>.agg (XR cs)
 | .tuple vs=>.tuple (XR vs)
 | .d x=>.d x
 | .undef=>.undef
 | .ptr b o=>.ptr b o
 | .elem r o=>.elem r o
 | .asl b o n=>.asl b o n
 | .raw v=>.raw v
def XR:List PV→List PV
 | []=>[]
 | v::l=>clean v::XR l
end
def Jk (f:Frame):Frame:=fun i=>clean (f i)
mutual
def cleanN:PV→PV
 | .sl _ _ rows=>.d (.sl rows)
 | .nils e=>.nils e
 | .func f a c=>.func f (XR a) (XR c)
 | .iface t v=>.iface t (clean v)
 | .agg cs=>.agg (cleanNL cs)
 | .tuple vs=>.tuple (XR vs)
 | .d x=>.d x
 | .undef=>.undef
 | .ptr b o=>.ptr b o
 | .elem r o=>.elem r o
 | .asl b o n=>.asl b o n
 | .raw v=>.raw v
def cleanNL:List PV→List PV
 | []=>[]
 | v::l=>cleanN v::cleanNL l
end
inductive PEnd where | ret (v:PV) | panic (v:PV)
inductive PExit where | normal | exit (id:Nat) | goto (l:Nat) | ret | panic (v:PV)
abbrev PQ:=PExit→Frame→St→Prop
structure LoopAnn where
 live:List Nat
 keep:List Nat
 I:List PV→St→Prop
 μ:List PV→St→Nat
structure Cx where
 T:Tab
 call:FuncId→List PV→St→(PEnd→St→Prop)→Prop
 raw:Value→List PV→St→(PEnd→St→Prop)→Prop
 iter:FuncId→List PV→(Value→List PV→St→(PEnd→St→Prop)→Prop)→St→(PEnd→St→Prop)→Prop
 loop:Nat→LoopAnn
 unr:Nat→Nat:=fun _=>0
 tie:Nat→Bool:=fun _=>false
 bsl:Nat→Bool:=fun _=>false
 pk:Bool:=true
 cut:Nat→Option (List Nat×(List PV→St→Prop)):=fun _=>none
 ag:Nat→Bool:=fun _=>false
def LoopAnn.tied (A:LoopAnn) (f:Frame):LoopAnn:=⟨A.live,A.keep,fun vs σ=>A.I (A.keep.map (fun i=>clean (f i))++vs) σ,fun vs σ=>A.μ (A.keep.map (fun i=>clean (f i))++vs) σ⟩
def Cx.inner (C:Cx):Cx:={ C with iter:=fun _ _ _ _ _=>False }
def Cx.calm (C:Cx):Cx:={ C with raw:=fun _ _ _ _=>False,pk:=false }
def Cx.pf (C:Cx) (f:Frame):Frame:=match C.pk with | true=>Jk f | false=>fun _=>.undef
def Zlv:List PV→(List PV→Prop)→Prop
 | [],K=>K []
 | v::l,K=>ZaR v fun v=>Zlv l fun l=>K (v::l)
def Zc8:List Box→(List Box→Prop)→Prop
 | [],K=>K []
 | .cells t cs::l,K=>Zlv cs fun cs=>Zc8 l fun l=>K (.cells t cs::l)
 | .iter s p::l,K=>Zc8 l fun l=>K (.iter s p::l)
 | .loop st pd r::l,K=>Zc8 l fun l=>K (.loop st pd r::l)
def Zed:List Nat→(List Nat→Prop)→Prop
 | [],K=>K []
 | t::l,K=>Xf t fun t=>Zed l fun l=>K (t::l)
def Jy (σ:St) (K:St→Prop):Prop:=Zc8 σ.bx fun bx=>Zed σ.tk fun tk=>Xf σ.nx fun nx=>K ⟨bx,tk,nx⟩
def Zh6 (C:Cx) (fv:PV) (args:List PV) (f:Frame) (σ:St) (K:PEnd→Frame→St→Prop):Prop:=match fv with
 | .func g first caps=>C.call g (first++args++caps) σ fun e σ=>K e f σ
 | .raw v=>C.raw v args σ fun e σ=>K e (Jk f) σ
 | _=>False
def Uf (C:Cx) (o:Oper) (f:Frame) (σ:St) (Q:PQ) (K:Frame→St→Prop):Prop :=
 match XZ o.op with
 | false=>Zh5 C.T o.op o.type (ev f) σ.bx fun v=>ZjX f o.dst v fun f=>K f σ
 | true=>match o.op with
  | .call { callee:=.value x,args,.. }=>Zh6 C (ev f x) (args.toList.map (ev f)) f σ fun e f σ'=>match e with
    | .ret v=>Jy σ' fun σ'=>ZjX f o.dst v fun f=>K f σ'
    | .panic v=>Jy σ' fun σ'=>ZaR v fun v=>Q (.panic v) (C.pf f) σ'
  | .panic x=>match ev f x with
    | .iface t v=>Q (.panic (.iface t v)) (C.pf f) σ
    | _=>False
  | op=>eop C.T op (ev f) σ fun v σ'=>Jy σ' fun σ'=>ZjX f o.dst v fun f=>K f σ'
def Ug (all:List Oper) (j:Nat):Option Nat:=match all[j]? with | some o=>o.dst | none=>none
def Zav (C:Cx) (all:List Oper) (Q:PQ) (o:Oper) (f:Frame) (σ:St) (K:Frame→St→Prop):Prop :=
 match o.guard with
 | none=>Uf C o f σ Q K
 | some (j,want)=>match Ug all j with
  | some s=>match f s with
   | .d (.bool t)=>CondP t
     (match want with | true=>Uf C o (Zay f s (.d (.bool true))) σ Q K | false=>ZjX (Zay f s (.d (.bool true))) o.dst (.raw Go.undef) fun f=>K f σ)
     (match want with | false=>Uf C o (Zay f s (.d (.bool false))) σ Q K | true=>ZjX (Zay f s (.d (.bool false))) o.dst (.raw Go.undef) fun f=>K f σ)
   | .raw (.tuple _)=>ZjX f o.dst (.raw Go.undef) fun f=>K f σ
   | _=>False
  | none=>False
def Ztj (C:Cx) (o:Oper):Bool:=match o.dst with
 | some d=>match o.guard with | none=>C.bsl d | _=>false
 | none=>false
def Zyc (T:Tab) (o:Op) (ρ:Operand→PV) (σ:St) (K:PV→St→Prop):Prop:=match o with
 | .buildSlice t n ps=>match (T.get t).kind with
   | .slice e=>match (T.get e).kind with
    | .other=>False
    | _=>match ZqX (T.get e).zero with
     | some zero=>match Nat.ble 1 zero.length,Nat.ble (n * zero.length) 16777216,Nat.ble 1 n,Zec zero ρ n ps.toList with
      | true,true,true,some rows=>K (.sl σ.nx e rows) { σ with tk:=σ.nx::σ.tk,nx:=σ.nx+1 }
      | _,_,_,_=>False
     | none=>False
   | _=>False
 | .convert s d x=>match (T.get s).kind with
   | .slice e=>match (T.get d).kind,(T.get e).kind,ρ x with
    | .string,.int .u8,.asl b off n=>match σ.bx[b]? with
     | some (.cells _ cs)=>∃l:List UInt8,l.length=n∧Jt n (cs.drop off)=some (l.map fun b=>.d (.int .u8 b.toNat))∧K (.d (.str l)) σ
     | _=>False
    | _,_,_=>False
   | _=>False
 | _=>False
def Zoa (C:Cx) (all:List Oper) (Q:PQ) (o:Oper) (f:Frame) (σ:St) (K:Frame→St→Prop):Prop:=match Ztj C o with
 | true=>Zyc C.T o.op (ev f) σ fun v σ'=>Jy σ' fun σ'=>ZjX f o.dst v fun f=>K f σ'
 | false=>Zav C all Q o f σ K
def Ztk (C:Cx) (all:List Oper) (Q:PQ):List Oper→Frame→St→Prop
 | [],f,σ=>Q .normal f σ
 | o::rest,f,σ=>Zoa C all Q o f σ (Ztk C all Q rest)
structure Ld where
 i:Nat
 b:Nat
 off:Nat
 n:Nat
def XJ (bx:List Box) (b off n:Nat):Option (List PV):=match bx[b]? with
 | some (.cells _ cs)=>some ((cs.drop off).take n)
 | _=>none
def ZaA (acc:List Nat):List Edge→Nat→Nat
 | [],s=>s
 | e::l,s=>match Region.binds .any e with
  | true=>ZaA acc l (s ||| 2 ^ e.on ||| acc.getD e.on 0)
  | false=>ZaA acc l s
def Uh:List Oper→List Nat→List Nat
 | [],acc=>acc
 | o::l,acc=>Uh l (acc++[ZaA acc o.after.toList 0])
def anc (ms:List Nat) (i j:Nat):Bool:=(ms.getD j 0).testBit i
def V5 (o:Oper) (left:List (Nat×Oper)):Bool:=match left with
 | []=>false
 | (i,_)::l=>(o.after.toList.any fun e=>Region.binds .any e && Nat.beq e.on i) || V5 o l
def ZgV:List (Nat×Oper)→List (Nat×Oper)→Option (Nat×Oper)
 | _,[]=>none
 | left,(i,o)::l=>match XZ o.op,V5 o left with
  | false,false=>some (i,o)
  | _,_=>ZgV left l
def YP (i:Nat):List (Nat×Oper)→List (Nat×Oper)
 | []=>[]
 | (j,o)::l=>match Nat.beq i j with | true=>l | false=>(j,o)::YP i l
def Jl:Nat→List (Nat×Oper)→List (Nat×Oper)
 | 0,l=>l
 | _+1,[]=>[]
 | n+1,x::l=>match ZgV (x::l) (x::l) with
  | some (i,o)=>(i,o)::Jl n (YP i (x::l))
  | none=>x::Jl n l
def ZV:Nat→List Oper→List (Nat×Oper)
 | _,[]=>[]
 | i,o::l=>(i,o)::ZV (i+1) l
def Zh7 (ops:List Oper):List (Nat×Oper):=Jl ops.length (ZV 0 ops)
def Zq7 (ms:List Nat) (j:Nat) (pre post:List Box):List Ld→Prop→Prop
 | [],X=>X
 | ⟨i,b,off,n⟩::l,X=>match anc ms i j with
  | true=>Zq7 ms j pre post l X
  | false=>XJ pre b off n=XJ post b off n∧Zq7 ms j pre post l X
def UP (T:Tab) (o:Oper) (i:Nat) (f:Frame) (ctx:List Ld):List Ld:=match o.op with
 | .load t a=>match ev f a with
  | .ptr b off=>⟨i,b,off,(T.get t).size⟩::ctx
  | _=>ctx
 | _=>ctx
def Ui (C:Cx) (all:List Oper) (ms:List Nat) (Q:PQ) (i:Nat) (o:Oper) (ctx:List Ld) (f:Frame) (σ:St) (K:List Ld→Frame→St→Prop):Prop :=
 Zav C all Q o f σ fun f' σ'=>match XZ o.op with
  | true=>Zq7 ms i σ.bx σ'.bx ctx (K ctx f' σ')
  | false=>K (UP C.T o i f ctx) f' σ'
def Uj (C:Cx) (all:List Oper) (ms:List Nat) (Q:PQ):List (Nat×Oper)→List Ld→Frame→St→Prop
 | [],_,f,σ=>Q .normal f σ
 | (i,o)::rest,ctx,f,σ=>Ui C all ms Q i o ctx f σ (Uj C all ms Q rest)
def ZmP (left:List (Nat×Oper)):List (Nat×Oper)→(Nat→Oper→Prop)→Prop
 | [],_=>True
 | (i,o)::l,X=>match V5 o left with
  | true=>ZmP left l X
  | false=>X i o∧ZmP left l X
def Uk (C:Cx) (all:List Oper) (ms:List Nat) (Q:PQ):Nat→List (Nat×Oper)→List Ld→Frame→St→Prop
 | _,[],_,f,σ=>Q .normal f σ
 | 0,_::_,_,_,_=>False
 | n+1,x::l,ctx,f,σ=>match ZgV (x::l) (x::l) with
  | some (i,o)=>Ui C all ms Q i o ctx f σ (Uk C all ms Q n (YP i (x::l)))
  | none=>ZmP (x::l) (x::l) fun i o=>Ui C all ms Q i o ctx f σ (Uk C all ms Q n (YP i (x::l)))
def Zlw (ms:List Nat):Option Nat→List (Nat×Oper)→Bool
 | _,[]=>true
 | prev,(i,o)::l=>match XZ o.op with
  | false=>Zlw ms prev l
  | true=>(match prev with | none=>true | some j=>anc ms j i) && Zlw ms (some i) l
def toks:Nat→List Nat
 | 0=>[]
 | k+1=>k::toks k
def ZtX (n:Nat) (tk:List Nat) (k:Nat) (v:PV) (K:PV→List Nat→Nat→Prop):Prop:=match v with
 | .sl t e rows=>match ZjY t tk with
  | true=>K (.sl k e rows) (Zbs t tk) (k+1)
  | false=>K (.d (.sl rows)) tk k
 | .nils e=>K (.sl k e []) tk (k+1)
 | v=>match bnd n v with
  | true=>ZaR (clean v) fun v=>K v tk k
  | false=>K .undef tk k
def ZtY (n:Nat):List PV→List Nat→Nat→(List PV→List Nat→Nat→Prop)→Prop
 | [],tk,k,K=>K [] tk k
 | v::l,tk,k,K=>ZtX n tk k v fun v tk k=>ZtY n l tk k fun l tk k=>K (v::l) tk k
def ZgW (n:Nat) (tk:List Nat) (k:Nat) (v:PV) (K:PV→List Nat→Nat→Prop):Prop:=match v with
 | .sl t e rows=>match ZjY t tk with
  | true=>K (.sl k e rows) (Zbs t tk) (k+1)
  | false=>K (.d (.sl rows)) tk k
 | .nils e=>K (.sl k e []) tk (k+1)
 | v=>match bnd n v with
  | true=>ZaR (cleanN v) fun v=>K v tk k
  | false=>K .undef tk k
def ZmQ (n:Nat):List PV→List Nat→Nat→(List PV→List Nat→Nat→Prop)→Prop
 | [],tk,k,K=>K [] tk k
 | v::l,tk,k,K=>ZgW n tk k v fun v tk k=>ZmQ n l tk k fun l tk k=>K (v::l) tk k
def ZmR (n:Nat) (tk:List Nat) (k:Nat) (v:PV) (K:PV→List Nat→Nat→Prop):Prop:=match v with
 | .agg cs=>ZmQ n cs tk k fun cs tk k=>K (.agg cs) tk k
 | v=>ZgW n tk k v K
def ZmS (n:Nat):List PV→List Nat→Nat→(List PV→List Nat→Nat→Prop)→Prop
 | [],tk,k,K=>K [] tk k
 | v::l,tk,k,K=>ZmR n tk k v fun v tk k=>ZmS n l tk k fun l tk k=>K (v::l) tk k
def Zh3 (n:Nat):Nat→List Box→List Nat→Nat→(List Box→List Nat→Nat→Prop)→Prop
 | 0,_,tk,k,K=>K [] tk k
 | _+1,[],_,_,_=>False
 | m+1,.cells t cs::l,tk,k,K=>ZtY n cs tk k fun cs tk k=>Zh3 n m l tk k fun l tk k=>K (.cells t cs::l) tk k
 | m+1,.iter s p::l,tk,k,K=>Zh3 n m l tk k fun l tk k=>K (.iter s p::l) tk k
 | m+1,.loop st pd r::l,tk,k,K=>Zh3 n m l tk k fun l tk k=>K (.loop st pd r::l) tk k
def Zq8 (n:Nat) (vs:List PV) (σ:St) (K:List PV→St→Prop):Prop :=
 ZtY n vs σ.tk 0 fun vs tk k=>Zh3 n n σ.bx tk k fun bs _ k=>K vs ⟨bs,toks k,k⟩
def Zc9 (ag:Bool) (n:Nat) (vs:List PV) (σ:St) (K:List PV→St→Prop):Prop:=match ag with
 | true=>ZmS n vs σ.tk 0 fun vs tk k=>Zh3 n n σ.bx tk k fun bs _ k=>K vs ⟨bs,toks k,k⟩
 | false=>Zq8 n vs σ K
def ZgX (f:Frame):List Nat→List PV→Frame
 | i::is,v::vs=>Zay (ZgX f is vs) i v
 | _,_=>f
def Zj6 (f:Frame):List Nat→Frame
 | []=>fun _=>.undef
 | i::is=>Zay (Zj6 f is) i (clean (f i))
def XD:List Oper→List Nat→Bool
 | [],_=>true
 | o::l,ks=>(match o.dst with | some d=>!(ZjY d ks) | none=>true) && XD l ks
def YB (ks:List Nat):Code→Bool
 | .region _ ops _=>XD ops.toList ks
 | .seq a b=>YB ks a && YB ks b
 | .cond _ a b=>YB ks a && YB ks b
 | .block _ b=>YB ks b
 | .loop b=>YB ks b
 | .rangeFunc ..=>true
 | .scope b=>YB ks b
 | _=>true
def Xp:Code→Nat
 | .region id _ _=>id
 | .seq a _=>Xp a
 | .cond _ a _=>Xp a
 | .block _ b=>Xp b
 | .loop b=>Xp b
 | .scope b=>Xp b
 | _=>0
def Zob:Frame→List Nat→List PV→Frame
 | f,i::is,v::vs=>Zob (Zay f i v) is vs
 | f,_,_=>f
def Zwm (i:Nat) (r:Loop) (st:LoopState) (pd:Option Code) (b:Bool) (σ:St) (K:PEnd→St→Prop):Prop :=
 σ.bx[i]?=some (.loop .busy none r)∧K (.ret (.d (.bool b))) (σ.set i (.loop st pd r))
def ZtZ (i l:Nat) (r:Loop) (ps:List Nat) (WA WB:PQ→Frame→St→Prop) (f:Frame) (v:Value) (args:List PV) (σ:St) (K:PEnd→St→Prop):Prop :=
 v=.func (.yield l) #[] #[]∧σ.bx[i]?=some (.loop .ready none r)∧args.length=ps.length ∧
  WA (fun e f1 σ1=>match e with
   | .normal=>σ1.bx[i]?=some (.loop .ready none r)∧WB (fun e _ σ2=>match e with
     | .normal=>Zwm i r .ready none true σ2 K
     | .ret=>Zwm i r .done (some .ret) false σ2 K
     | .exit id=>Zwm i r .done (some (.exit id)) false σ2 K
     | .goto t=>Zwm i r .done (some (.goto t)) false σ2 K
     | .panic _=>False) f1 (σ1.set i (.loop .busy none r))
   | _=>False) (Zob f ps args) σ
def Zoc (i:Nat) (r:Loop) (f:Frame) (Q:PQ) (σ:St):Option Code→Prop
 | none=>Q .normal f (σ.set i (.loop .exhausted none r))
 | some .ret=>Q .ret f (σ.set i (.loop .exhausted (some .ret) r))
 | some (.exit id)=>Q (.exit id) f (σ.set i (.loop .exhausted (some (.exit id)) r))
 | some (.goto t)=>Q (.goto t) f (σ.set i (.loop .exhausted (some (.goto t)) r))
 | _=>False
structure Hole where
 pre:List Oper
 A:Oper
 I:Oper
 S:Oper
 F:Oper
 H:Oper
def Zh8 (ops:List Oper):Option Hole:=match ops.reverse with
 | H::F::S::I::A::pre=>match A.op,I.op,S.op,F.op,H.op with
  | .call { callee:=.builtin .append,.. },.indexAddr _ _ _,.store _ _ _,.fieldAddr _ _ _,.store _ _ _=>some ⟨pre.reverse,A,I,S,F,H⟩
  | _,_,_,_,_=>none
 | _=>none
def Zt0 (T:Tab) (h:Hole) (f:Frame) (σ:St) (K:Frame→St→Prop):Prop:=match h.A.op,h.I.op,h.S.op with
 | .call { callee:=.builtin .append,args,argTypes },.indexAddr _ _ ix,.store ts _ x=>match argTypes.toList,args.toList,h.A.dst,h.I.dst with
  | [t,tx],[s,z],some da,some di=>match (T.get t).kind with
   | .slice el=>match (T.get el).kind with
    | .other=>False
    | _=>match Nat.ble 1 (T.get el).size,Nat.beq ts el,UO T tx el (ev f z),Zj5 (ev f x),ev f ix with
     | true,true,some [zr],some row,.d (.int _ n)=>match Nat.beq zr.length (T.get el).size,Nat.beq row.length (T.get el).size with
      | true,true=>match ev f s with
       | .nils _=>n=0∧1 * (T.get el).bytes≤2 ^ 47∧Jy ⟨σ.bx,(σ.nx+1)::σ.tk,σ.nx+2⟩ fun σ'=>ZjX f (some da) (.sl (σ.nx+1) el [row]) fun f=>ZjX f (some di) .undef fun f=>K f σ'
       | .sl tok e2 rows=>match ZjY tok σ.tk,Nat.beq e2 el with
        | true,true=>n=rows.length∧(rows.length+1) * (T.get el).bytes≤2 ^ 47∧rows.length+1≤2 ^ 47 ∧
          Jy ⟨σ.bx,(σ.nx+1)::Zbs tok σ.tk,σ.nx+2⟩ fun σ'=>ZjX f (some da) (.sl (σ.nx+1) el (rows++[row])) fun f=>ZjX f (some di) .undef fun f=>K f σ'
        | _,_=>False
       | _=>False
      | _,_=>False
     | _,_,_,_,_=>False
   | _=>False
  | _,_,_,_=>False
 | _,_,_=>False
def Zt1 (C:Cx) (all:List Oper) (h:Hole) (Q:PQ):PQ:=fun e f σ=>match e with
 | .normal=>Zt0 C.T h f σ fun f σ=>Zav C all Q h.F f σ fun f σ=>Zav C all Q h.H f σ fun f σ=>Q .normal f σ
 | e=>Q e f σ
def Zlx (i:Nat) (f:Frame) (Q:PQ) (e:PEnd) (σ:St):Prop:=match e with
 | .ret _=>match σ.bx[i]? with
  | some (.loop st pd r)=>match st with
   | .busy=>False
   | _=>Zoc i r f Q σ pd
  | _=>False
 | .panic v=>Q (.panic v) (fun _=>.undef) σ
def Zly (S:PQ→Frame→St→Prop) (Q:PQ):Nat→Frame→St→Prop
 | 0,_,_=>False
 | n+1,f,σ=>S (fun e f σ=>match e with | .normal=>Zly S Q n f σ | e=>Q e f σ) f σ
def W:Cx→Code→PQ→Frame→St→Prop
 | _,.skip,Q,f,σ=>Q .normal f σ
 | C,.region _ ops draw,Q,f,σ=>match draw with
  | false=>Ztk C ops.toList Q ops.toList f σ
  | true=>match Zh8 ops.toList with
   | none=>match Zlw (Uh ops.toList []) none (ZV 0 ops.toList) with
    | true=>Uj C.calm ops.toList (Uh ops.toList []) Q (Zh7 ops.toList) [] f σ
    | false=>Uk C.calm ops.toList (Uh ops.toList []) Q ops.toList.length (ZV 0 ops.toList) [] f σ
   | some h=>Uj C.calm ops.toList (Uh ops.toList []) (Zt1 C.calm ops.toList h Q) (Jl h.pre.length (ZV 0 h.pre)) [] f σ
 | C,.seq a b,Q,f,σ=>match C.cut (Xp b) with
  | none=>W C a (fun e f σ=>match e with | .normal=>W C b Q f σ | e=>Q e f σ) f σ
  | some (live,I)=>W C a (fun e f σ=>match e with | .normal=>Zq8 σ.bx.length (live.map f) σ I | e=>Q e f σ) f σ∧∀vs σ1,I vs σ1→W C b Q (ZgX (fun _=>.undef) live vs) σ1
 | C,.cond c x y,Q,f,σ=>match ev f c with | .d (.bool t)=>CondP t (W C x Q f σ) (W C y Q f σ) | _=>False
 | C,.block id b,Q,f,σ=>W C b (fun e f σ=>match e with | .exit i=>(match Nat.beq i id with | true=>Q .normal f σ | false=>Q (.exit i) f σ) | e=>Q e f σ) f σ
 | C,.scope b,Q,f,σ=>W C b (fun e f σ=>match e with | .goto _=>False | e=>Q e f σ) f σ
 | _,.exit id,Q,f,σ=>Q (.exit id) f σ
 | _,.goto l,Q,f,σ=>Q (.goto l) f σ
 | _,.label _,Q,f,σ=>Q .normal f σ
 | _,.ret,Q,f,σ=>Q .ret f σ
 | C,.loop b,Q,f,σ=>match C.unr (Xp b) with
  | n+1=>Zly (fun Q f σ=>W C b Q f σ) Q (n+1) f σ
  | 0=>match YB (C.loop (Xp b)).keep b with
   | true=>match C.tie (Xp b) with
    | false => Zc9 (C.ag (Xp b)) σ.bx.length ((C.loop (Xp b)).live.map f) σ fun vs σ0 => (C.loop (Xp b)).I vs σ0 ∧
       ∀vs σ1,(C.loop (Xp b)).I vs σ1→W C b (fun e f' σ'=>match e with
        | .normal=>Zc9 (C.ag (Xp b)) σ1.bx.length ((C.loop (Xp b)).live.map f') σ' fun vs' σ''=>(C.loop (Xp b)).I vs' σ''∧(C.loop (Xp b)).μ vs' σ''<(C.loop (Xp b)).μ vs σ1
        | e=>Q e f' σ') (ZgX (Zj6 f (C.loop (Xp b)).keep) (C.loop (Xp b)).live vs) σ1
    | true => Zc9 (C.ag (Xp b)) σ.bx.length (((C.loop (Xp b)).tied f).live.map f) σ fun vs σ0 => ((C.loop (Xp b)).tied f).I vs σ0 ∧
       ∀vs σ1,((C.loop (Xp b)).tied f).I vs σ1→W C b (fun e f' σ'=>match e with
        | .normal=>Zc9 (C.ag (Xp b)) σ1.bx.length (((C.loop (Xp b)).tied f).live.map f') σ' fun vs' σ''=>((C.loop (Xp b)).tied f).I vs' σ''∧((C.loop (Xp b)).tied f).μ vs' σ''<((C.loop (Xp b)).tied f).μ vs σ1
        | e=>Q e f' σ') (ZgX (Zj6 f ((C.loop (Xp b)).tied f).keep) ((C.loop (Xp b)).tied f).live vs) σ1
   | false=>False
 | C,.rangeFunc g ps asg body,Q,f,σ=>match ev f g with
  | .func gid first caps=>∀(l:Nat) (r:Loop),
    C.iter gid (first++.raw (.func (.yield l) #[] #[])::caps) (ZtZ σ.bx.length l r ps.toList (fun Q f σ=>W C.inner asg Q f σ) (fun Q f σ=>W C.inner body Q f σ) (Jk f)) (σ.new (.loop .ready none r))
     (Zlx σ.bx.length (Jk f) Q)
  | _=>False
 | _,_,_,_,_=>False
def pres (T:Tab) (f:Frame) (bx:List Box):List ResultVar→(List PV→Prop)→Prop
 | [],K=>K []
 | .tmp t::l,K=>ZaR (f t) fun v=>pres T f bx l fun vs=>K (v::vs)
 | .cell a t::l,K=>Zcn T t (f a) bx fun v=>ZaR v fun v=>pres T f bx l fun vs=>K (v::vs)
def Ju:List PV→PV
 | [v]=>v
 | vs=>.tuple vs
def ZaS (keep:Nat) (own:Bool) (v:PV) (σ:St) (K:PV→St→Prop):Prop :=
 match bnd keep v with
 | true=>match own with
  | true=>Zq8 keep [v] σ fun vs σ'=>match vs with | [v]=>K v σ' | _=>False
  | false=>Zh3 keep keep σ.bx [] 0 fun bs _ k=>K (clean v) ⟨bs,toks k,k⟩
 | false=>False
def Zq9 (T:Tab) (fn:Func) (keep:Nat) (own:Bool) (R:PEnd→St→Prop):PQ:=fun e f σ=>match e with
 | .normal | .ret=>pres T f σ.bx fn.results.toList fun vs=>ZaS keep own (Ju vs) σ fun v σ'=>R (.ret v) σ'
 | .panic v=>ZaS keep own v σ fun v σ'=>R (.panic v) σ'
 | _=>False
def Zee:Nat→List PV→Frame
 | _,[]=>fun _=>.undef
 | i,v::vs=>Zay (Zee (i+1) vs) i v
def Ww (fn : Func) : Code := match fn.body with | some c => c | none => .refuse ""
def WF (C:Cx) (fn:Func) (keep:Nat) (own:Bool) (args:List PV) (σ:St) (R:PEnd→St→Prop):Prop :=
 W C (Ww fn) (Zq9 C.T fn keep own R) (Zee 0 args) σ
end Go.PM
end

section
namespace Go.PM
open Go.RowKit
inductive DRel (ok:Nat→Nat→Prop) (w:World):D→Value→Prop
 | bool (b:Bool):DRel ok w (.bool b) (.bool b)
 | int (k:IntKind) (n:Int):DRel ok w (.int k n) (.int k n)
 | str (s:List UInt8):DRel ok w (.str s) (.string ⟨s.toArray⟩)
 | nilp:DRel ok w .nilp (.pointer none)
 | nilf:DRel ok w .nilf .nilFunc
 | nili:DRel ok w .nili .nilIface
 | slnil:DRel ok w (.sl []) (.slice none 0 0)
 | slz (a:Addr):DRel ok w (.sl []) (.slice (some a) 0 0)
 | sl (rows:List (List D)) (b off cap sz:Nat) (u:Nat→Nat→Value) (hcap:rows.length≤cap) (hsz:∀r∈rows,r.length=sz)
   (hc:∀i j,i<rows.length→j<sz→w.cell? ⟨b,off+i * sz+j,none⟩=some (u i j))
   (ho:∀i j,i<rows.length→j<sz→ok b (off+i * sz+j))
   (hu:∀(i j:Nat) (x:D),(rows[i]?.bind (·[j]?))=some x→DRel ok w x (u i j)):DRel ok w (.sl rows) (.slice (some ⟨b,off,none⟩) rows.length cap)
structure GE where
 P:Program
 w0:World
 nG:Nat
structure Env where
 β:Nat→Nat
 M:Nat→Option (Nat×Nat)
 X:Nat→Nat→Prop
def okc (e:Env) (σ:St) (b off:Nat):Prop :=
 ¬e.X b off∧(∀i,i<σ.bx.length→e.β i≠b)∧∀t,t∈σ.tk→∀p,e.M t=some p→p.1=b→off<p.2
def Owned (G:GE) (e:Env) (w:World) (t el:Nat) (rows:List (List D)) (v:Value):Prop :=
 (v=.slice none 0 0∧rows=[]∧e.M t=none) ∨
 ∃ sz, (G.P.info? el).map (·.size) = some sz ∧ 0 < sz ∧ (∀ r ∈ rows, r.length = sz) ∧
    ∃b off cap cs ty fz,v=.slice (some ⟨b,off,none⟩) rows.length cap∧G.nG≤b∧rows.length≤cap∧w.heap[b]?=some (.cells cs ty fz)∧(off+cap * sz≤cs.size∧off=0∧ty=el∧0<cap) ∧
     (fz.1≤fz.2∧∀o,off+rows.length * sz≤o→fz.1≤o→fz.2≤o)∧e.M t=some (b,off+rows.length * sz)
inductive VRel (G:GE) (e:Env) (σ:St) (w:World):PV→Value→Prop
 | d (x:D) (v:Value) (h:DRel (okc e σ) w x v):VRel G e σ w (.d x) v
 | undef (v:Value):VRel G e σ w .undef v
 | ptr (b off:Nat) (h:b<σ.bx.length):VRel G e σ w (.ptr b off) (.pointer (some ⟨e.β b,off,none⟩))
 | elem (r:List D) (off b o:Nat) (u:Nat→Value) (hc:∀j,j<r.length→w.cell? ⟨b,o+j,none⟩=some (u j)) (ho:∀j,j<r.length→okc e σ b (o+j))
   (hu:∀(j:Nat) (x:D),r[j]?=some x→DRel (okc e σ) w x (u j)):VRel G e σ w (.elem r off) (.pointer (some ⟨b,o+off,none⟩))
 | sl (t el:Nat) (rows:List (List D)) (v:Value) (hn:t<σ.nx) (hd:DRel (okc e σ) w (.sl rows) v) (ht:t∈σ.tk→Owned G e w t el rows v):VRel G e σ w (.sl t el rows) v
 | nils (el:Nat):VRel G e σ w (.nils el) (.slice none 0 0)
 | asl (b off n:Nat) (h:b<σ.bx.length):VRel G e σ w (.asl b off n) (.slice (some ⟨e.β b,off,none⟩) n n)
 | func (f:FuncId) (a c:List PV) (va vc:Array Value) (ha:va.size=a.length) (hc:vc.size=c.length) (h1:∀(i:Nat) (x:PV) (u:Value),a[i]?=some x→va[i]?=some u→VRel G e σ w x u)
   (h2:∀(i:Nat) (x:PV) (u:Value),c[i]?=some x→vc[i]?=some u→VRel G e σ w x u):VRel G e σ w (.func f a c) (.func (.func f) va vc)
 | iface (t:TypeId) (x:PV) (v:Value) (h:VRel G e σ w x v):VRel G e σ w (.iface t x) (.iface t v)
 | agg (cs:List PV) (vs:Array Value) (hs:vs.size=cs.length) (h:∀(i:Nat) (x:PV) (u:Value),cs[i]?=some x→vs[i]?=some u→VRel G e σ w x u) (h1:∀u∈vs,u.oneCell'=true):VRel G e σ w (.agg cs) (.agg vs)
 | tuple (cs:List PV) (vs:Array Value) (hs:vs.size=cs.length) (h:∀(i:Nat) (x:PV) (u:Value),cs[i]?=some x→vs[i]?=some u→VRel G e σ w x u):VRel G e σ w (.tuple cs) (.tuple vs)
 | raw (v:Value):VRel G e σ w (.raw v) v
theorem DRel.mono {ok ok':Nat→Nat→Prop} {w w':World} {x:D} {v:Value} (h:DRel ok w x v)
  (hp:∀b off u,w.cell? ⟨b,off,none⟩=some u→ok b off→ok' b off∧w'.cell? ⟨b,off,none⟩=some u):DRel ok' w' x v:=by
 induction h with
 | bool b=>exact .bool b
 | int k n=>exact .int k n
 | str s=>exact .str s
 | nilp=>exact .nilp
 | nilf=>exact .nilf
 | nili=>exact .nili
 | slnil=>exact .slnil
 | slz a=>exact .slz a
 | sl rows b off cap sz u hcap hsz hc ho _ ih =>
  exact .sl rows b off cap sz u hcap hsz (fun i j hi hj=>(hp _ _ _ (hc i j hi hj) (ho i j hi hj)).2) (fun i j hi hj=>(hp _ _ _ (hc i j hi hj) (ho i j hi hj)).1)
   (fun i j x hx=>ih i j x hx)
structure Later (e:Env) (σ:St) (w:World) (e':Env) (σ':St) (w':World):Prop where
 len:σ.bx.length≤σ'.bx.length
 beta:∀i,i<σ.bx.length→e'.β i=e.β i
 X:e'.X=e.X
 pres:∀b off u,w.cell? ⟨b,off,none⟩=some u→okc e σ b off→okc e' σ' b off∧w'.cell? ⟨b,off,none⟩=some u
 blocks:∀b,b<w.heap.size→(∀i,i<σ.bx.length→e.β i≠b)→(∀t,t∈σ.tk→∀p,e.M t=some p→p.1≠b)→w'.heap[b]?=w.heap[b]?
 size:w.heap.size≤w'.heap.size
 os:w'.os=w.os
 tape:w'.tape=w.tape
 output:w'.output=w.output
 fresh:∀i,σ.bx.length≤i→i<σ'.bx.length→w.heap.size≤e'.β i
 ftok:∀t,t∈σ'.tk→∀p,e'.M t=some p→w.heap.size≤p.1∨∃t0,t0∈σ.tk∧∃p0,e.M t0=some p0∧p0.1=p.1
structure Stepped (e:Env) (σ:St) (w:World) (e':Env) (σ':St) (w':World):Prop extends Later e σ w e' σ' w' where
 nx:σ.nx≤σ'.nx
 toks:∀t,t<σ.nx→t∈σ'.tk→t∈σ.tk∧e'.M t=e.M t
 own:∀t,t<σ.nx→t∈σ'.tk→∀p,e.M t=some p→p.1<w.heap.size→w'.heap[p.1]?=w.heap[p.1]?
theorem UQ {w:World} {b off:Nat} {u:Value} (h:w.cell? ⟨b,off,none⟩=some u):b<w.heap.size:=World.block_lt_of_cell? w ⟨b,off,none⟩ h
theorem DRel.later {e:Env} {σ:St} {w:World} {e':Env} {σ':St} {w':World} {x:D} {v:Value} (h:DRel (okc e σ) w x v) (hl:Later e σ w e' σ' w'):DRel (okc e' σ') w' x v :=
 h.mono fun b off u hc ho=>hl.pres b off u hc ho
theorem Later.refl (e:Env) (σ:St) (w:World):Later e σ w e σ w:=⟨Tq _,fun _ _=>rfl,rfl,fun _ _ _ hc h=>⟨h,hc⟩,fun _ _ _ _=>rfl,Tq _,rfl,rfl,rfl,fun i h1 h2=>by omega,fun t ht p hp=>.inr ⟨t,ht,p,hp,rfl⟩⟩
theorem Later.trans {e0 e1 e2:Env} {σ0 σ1 σ2:St} {w0 w1 w2:World} (h:Later e0 σ0 w0 e1 σ1 w1) (k:Later e1 σ1 w1 e2 σ2 w2):Later e0 σ0 w0 e2 σ2 w2 where
 len:=TO h.len k.len
 beta:=fun i hi=>(k.beta i (TD hi h.len)).trans (h.beta i hi)
 X:=k.X.trans h.X
 pres:=fun b off u hu ho=>let ⟨h1,h2⟩:=h.pres b off u hu ho;k.pres b off u h2 h1
 blocks:=fun b hb hn ht=>(k.blocks b (TD hb h.size) (fun i hi=>by
   by_cases hi0:i<σ0.bx.length
   ·rw [h.beta i hi0];exact hn i hi0
   ·have:=h.fresh i (by omega) hi;omega) (fun t htm p hp=>by
   rcases h.ftok t htm p hp with h1 | ⟨t0,ht0,p0,hp0,h1⟩
   ·omega
   ·rw [← h1];exact ht t0 ht0 p0 hp0)).trans (h.blocks b hb hn ht)
 size:=TO h.size k.size
 os:=k.os.trans h.os
 tape:=k.tape.trans h.tape
 output:=k.output.trans h.output
 fresh:=fun i h1 h2=>by
  by_cases hi:i<σ1.bx.length
  ·rw [k.beta i hi];exact h.fresh i h1 hi
  ·exact TO h.size (k.fresh i (by omega) h2)
 ftok:=fun t ht p hp=>by
  rcases k.ftok t ht p hp with h1 | ⟨t1,ht1,p1,hp1,h1⟩
  ·exact .inl (TO h.size h1)
  ·rcases h.ftok t1 ht1 p1 hp1 with h2 | ⟨t0,ht0,p0,hp0,h2⟩
   ·exact .inl (by rw [← h1];exact h2)
   ·exact .inr ⟨t0,ht0,p0,hp0,h2.trans h1⟩
theorem Stepped.refl (e:Env) (σ:St) (w:World):Stepped e σ w e σ w:={ Later.refl e σ w with nx:=Tq _,toks:=fun _ _ h=>⟨h,rfl⟩,own:=fun _ _ _ _ _ _=>rfl }
theorem Owned.step {G:GE} {e:Env} {σ:St} {w:World} {e':Env} {σ':St} {w':World} {t el:Nat} {rows:List (List D)} {v:Value} (h:Owned G e w t el rows v)
  (hs:Stepped e σ w e' σ' w') (hn:t<σ.nx) (ht:t∈σ'.tk):Owned G e' w' t el rows v:=by
 rcases h with ⟨rfl,hr,hm⟩ | ⟨sz,h1,h2,h3,b,off,cap,cs,ty,fz,rfl,hb,hc,hh,hsz,hfz,hm⟩
 ·exact .inl ⟨rfl,hr,(hs.toks t hn ht).2.trans hm⟩
 ·exact .inr ⟨sz,h1,h2,h3,b,off,cap,cs,ty,fz,rfl,hb,hc,(hs.own t hn ht _ hm (Tp.1 hh).1).trans hh,hsz,hfz,(hs.toks t hn ht).2.trans hm⟩
theorem VRel.step {G:GE} {e:Env} {σ:St} {w:World} {e':Env} {σ':St} {w':World} {x:PV} {v:Value} (h:VRel G e σ w x v) (hs:Stepped e σ w e' σ' w'):VRel G e' σ' w' x v:=by
 induction h with
 | d x v h=>exact .d x v (h.later hs.toLater)
 | undef v=>exact .undef v
 | ptr b off h=>rw [← hs.beta b h];exact .ptr b off (TD h hs.len)
 | elem r off b o u hc ho hu =>
  exact .elem r off b o u (fun j hj=>(hs.pres b _ _ (hc j hj) (ho j hj)).2) (fun j hj=>(hs.pres b _ _ (hc j hj) (ho j hj)).1)
   (fun j x hx=>(hu j x hx).later hs.toLater)
 | sl t el rows v hn hd ht=>exact .sl t el rows v (TD hn hs.nx) (hd.later hs.toLater) fun h=>(ht (hs.toks t hn h).1).step hs hn h
 | nils el=>exact .nils el
 | asl b off n h=>rw [← hs.beta b h];exact .asl b off n (TD h hs.len)
 | func f a c va vc ha hc _ _ ih1 ih2=>exact .func f a c va vc ha hc ih1 ih2
 | iface t x v _ ih=>exact .iface t x v ih
 | agg cs vs hs' _ h1 ih=>exact .agg cs vs hs' ih h1
 | tuple cs vs hs' _ ih=>exact .tuple cs vs hs' ih
 | raw v=>exact .raw v
def BRel (G:GE) (e:Env) (σ:St) (w:World):Box→Nat→Prop
 | .cells t cs,b=>∃vs:Array Value,w.heap[b]?=some (.cells vs t (0,0))∧vs.size=cs.length∧∀(i:Nat) (x:PV) (u:Value),cs[i]?=some x→vs[i]?=some u→VRel G e σ w x u∧u.oneCell'=true
 | .iter s pos,b=>w.heap[b]?=some (.stringIter ⟨s.toArray⟩ pos)
 | .loop st pd r,b=>w.heap[b]?=some (.loop { r with state:=st,pending:=pd })
structure SRel (G:GE) (e:Env) (σ:St) (w:World):Prop where
 inj:∀i j,i<σ.bx.length→j<σ.bx.length→e.β i=e.β j→i=j
 box:∀i x,σ.bx[i]?=some x→BRel G e σ w x (e.β i)
 low:∀i,i<σ.bx.length→G.nG≤e.β i
 tkn:∀t,t∈σ.tk→t<σ.nx
 own:∀t,t∈σ.tk→∀p,e.M t=some p→G.nG≤p.1∧(∀i,i<σ.bx.length→e.β i≠p.1)∧∃cs ty fz,w.heap[p.1]?=some (.cells cs ty fz)
 dis:∀t t',t∈σ.tk→t'∈σ.tk→t≠t'→∀p p',e.M t=some p→e.M t'=some p'→p.1≠p'.1
 xlt:∀b off,e.X b off→b<w.heap.size
 xown:∀t,t∈σ.tk→∀p,e.M t=some p→∀off,p.2≤off→¬e.X p.1 off
 glob:∀b,b<G.nG→w.heap[b]?=G.w0.heap[b]?
 big:G.nG≤w.heap.size
theorem SRel.lt {G:GE} {e:Env} {σ:St} {w:World} (h:SRel G e σ w) {i:Nat} (hi:i<σ.bx.length):e.β i<w.heap.size:=by
 have:=h.box i _ (Tg hi);generalize σ.bx[i]=x at this
 cases x with
 | cells t cs=>obtain ⟨vs,hv,_⟩:=this;exact (Tp.1 hv).1
 | iter s p=>exact (Tp.1 this).1
 | loop st pd r=>exact (Tp.1 this).1
theorem BRel.step {G:GE} {e:Env} {σ:St} {w:World} {e':Env} {σ':St} {w':World} {x:Box} {b:Nat} (h:BRel G e σ w x b) (hs:Stepped e σ w e' σ' w') (hb:w'.heap[b]?=w.heap[b]?):BRel G e' σ' w' x b:=by
 cases x with
 | cells t cs =>
  obtain ⟨vs,h1,h2,h3⟩:=h;exact ⟨vs,hb.trans h1,h2,fun i x u hx hu=>⟨(h3 i x u hx hu).1.step hs,(h3 i x u hx hu).2⟩⟩
 | iter s p=>exact Eq.trans hb h
 | loop st pd r=>exact Eq.trans hb h
def FRel (G:GE) (e:Env) (σ:St) (w:World) (f:Frame) (tmps:Array Value):Prop:=∀i,VRel G e σ w (f i) (tmps.getD i Go.undef)
theorem FRel.step {G:GE} {e:Env} {σ:St} {w:World} {e':Env} {σ':St} {w':World} {f:Frame} {tmps:Array Value} (h:FRel G e σ w f tmps) (hs:Stepped e σ w e' σ' w'):FRel G e' σ' w' f tmps :=
 fun i=>(h i).step hs
theorem YW (f:Frame) (i:Nat) (v:PV):Zay f i v i=v:=by simp [Zay]
theorem X4 (f:Frame) {i j:Nat} (v:PV) (h:i≠j):Zay f i v j=f j:=by
 have:Nat.beq i j=false:=by
  cases h':Nat.beq i j
  ·rfl
  ·exact absurd (Tm h') h
 simp [Zay,this]
def YC (f:Frame) (d:Option Nat) (v:PV):Frame:=match d with | some i=>Zay f i v | none=>f
theorem FRel.put {G:GE} {e:Env} {σ:St} {w:World} {f:Frame} {a:Act} (h:FRel G e σ w f a.tmps) {d:Option Nat} {x:PV} {v:Value} (hv:VRel G e σ w x v) (hd:∀i,d=some i→i<a.tmps.size) :
  FRel G e σ w (YC f d x) (a.put d v).tmps:=by
 cases d with
 | none=>exact h
 | some i =>
  intro j
  have hi:=hd i rfl;simp only [Act.put,YC]
  by_cases hij:i=j
  ·subst hij;rw [YW];simpa [hi] using hv
  ·rw [X4 f x hij];have:=h j;simpa [TZ,hij] using this
theorem Zda (G:GE) (e:Env) (σ:St) (w:World) (v:Value):VRel G e σ w (ZdP v) v:=by
 unfold ZdP
 split
 ·exact .d _ _ (.bool _)
 ·exact .d _ _ (.int _ _)
 ·rename_i s;exact .d _ _ (.str _)
 ·exact .d _ _ .nilp
 ·exact .nils 0
 ·exact .d _ _ .nilf
 ·exact .d _ _ .nili
 ·exact .raw _
theorem Zod {v:Value} (h:Zyb v=true):v.oneCell'=true:=by cases v <;> first | rfl | (simp [Zyb] at h)
theorem Zj7 (G:GE) (e:Env) (σ:St) (w:World) (v:Value):VRel G e σ w (Zj4 v) v:=by
 unfold Zj4
 split
 ·rename_i cs
  split
  ·rename_i h
   refine .agg _ cs (by simp) (fun i x u hx hu=>?_) fun u hu=>Zod (Tv.1 h u (Array.mem_toList_iff.2 hu))
   rw [TL,Tx,hu] at hx
   cases hx
   exact Zda G e σ w u
  ·exact .raw _
 ·exact Zda G e σ w v
theorem ZaB {G:GE} {e:Env} {σ:St} {w:World} {f:Frame} {a:Act} (h:FRel G e σ w f a.tmps) (x:Operand):VRel G e σ w (ev f x) (a.eval x):=by
 cases x with
 | tmp t=>exact h t
 | const v=>exact Zj7 G e σ w v
 | global g=>exact .undef _
 | func g=>exact .func g [] [] #[] #[] rfl rfl (fun i x u hx=>by simp at hx) (fun i x u hx=>by simp at hx)
end Go.PM
end

section
namespace Go.PM
def Zoe:D→Value→Bool
 | .bool a,.bool b=>a == b
 | .int k a,.int k' b=>keq k k' && (a == b)
 | .str s,.string t=>s == t.data.toList
 | .nilp,.pointer none=>true
 | .nilf,.nilFunc=>true
 | .nili,.nilIface=>true
 | _,_=>false
def Zt2:PV→Value→Bool
 | .d x,v=>Zoe x v
 | .nils _,.slice none 0 0=>true
 | _,_=>false
def Zof:List PV→List Value→Bool
 | [],[]=>true
 | x::l,v::m=>Zt2 x v && Zof l m
 | _,_=>false
def ZgY (P:Program):List (Nat×Nat)→List Field→Bool
 | [],[]=>true
 | (o,t)::l,f::m=>Nat.beq o f.offset && Nat.beq t f.type && (match P.info? t with | some i=>Nat.ble 1 i.size | none=>false) && ZgY P l m
 | _,_=>false
def Zt3 (P:Program):TK→TypeDesc→Bool
 | .int k,.int k'=>keq k k'
 | .bool,.bool=>true
 | .string,.string=>true
 | .ptr e,.pointer e'=>Nat.beq e e'
 | .slice e,.slice e'=>Nat.beq e e'
 | .array n e,.array n' e'=>Nat.beq n n' && Nat.beq e e'
 | .struct fs,.struct gs=>ZgY P fs gs.toList
 | .func,.func _ _ _=>true
 | .iface,.interface _=>true
 | _,_=>false
def eqB (P:Program) (t:Nat) (d:TypeDesc):Bool:=match d with
 | .struct gs => gs.toList.all (fun f => f.name != "_") && !P.stoodInHeld t && !P.eqGuardType P.depth t
 | .int _=>match P.info? t with | some i=>i.comparable | none=>false
 | _=>false
def Zog (P:Program) (t:Nat) (v:TI):Bool:=match v.kind with
 | .other=>true
 | k=>match P.info? t,P.underlying t with
  | some i,some d=>Nat.beq i.size v.size && Nat.beq i.bytes v.bytes && Zt3 P k d && Nat.beq v.zero.length v.size && (k.isAgg || Nat.beq v.size 1) && (!v.eqok || eqB P t d) && (match i.zero with | some z=>Zof v.zero z.cells.toList | none=>false)
  | _,_=>false
def Tab.all (p:Nat→TI→Bool):Tab→Bool
 | .leaf=>true
 | .node l k v r=>p k v && (l.all p && r.all p)
theorem ZAu {p:Nat→TI→Bool}:∀{T:Tab},T.all p=true→∀t,T.get t=TI.no∨p t (T.get t)=true:=by
 intro T
 induction T with
 | leaf=>exact fun _ _=>.inl rfl
 | node l k v r ihl ihr =>
  intro h t
  simp only [Tab.all,Tl] at h;unfold Tab.get
  split
  ·rename_i hb
   have:t=k:=Tm hb;subst this;exact .inr h.1
  ·split
   ·exact ihl h.2.1 t
   ·exact ihr h.2.2 t
theorem Zef {a b:IntKind} (h:keq a b=true):a=b:=by cases a <;> cases b <;> first | rfl | cases h
inductive FieldsOK (P:Program):List (Nat×Nat)→List Field→Prop
 | nil:FieldsOK P [] []
 | cons (o t:Nat) (l) (f:Field) (m) (i:TypeInfo) (ho:f.offset=o) (ht:f.type=t) (hi:P.info? t=some i) (hs:1≤i.size) (h:FieldsOK P l m):FieldsOK P ((o,t)::l) (f::m)
theorem Zgb {P:Program}:∀{l:List (Nat×Nat)} {m:List Field},ZgY P l m=true→FieldsOK P l m
 | [],[],_=>.nil
 | (o,t)::l,f::m,h=>by
  simp only [ZgY,Tl] at h;obtain ⟨⟨⟨h1,h2⟩,h3⟩,h4⟩:=h
  cases hi:P.info? t with
  | none=>rw [hi] at h3;cases h3
  | some i =>
   rw [hi] at h3;exact .cons o t l f m i (Tm h1).symm (Tm h2).symm hi (Ta h3) (Zgb h4)
 | [],_::_,h=>by cases h
 | _::_,[],h=>by cases h
theorem FieldsOK.get {P:Program} {l:List (Nat×Nat)} {m:List Field} (h:FieldsOK P l m):∀{i o t:Nat},l[i]?=some (o,t)→∃f j,m[i]?=some f∧f.offset=o∧f.type=t∧P.info? t=some j∧1≤j.size:=by
 induction h with
 | nil=>intro i o t h;simp at h
 | cons o t l f m j ho ht hi hs _ ih =>
  intro i o' t' h'
  cases i with
  | zero=>simp at h';obtain ⟨rfl,rfl⟩:=h';exact ⟨f,j,rfl,ho,ht,hi,hs⟩
  | succ i=>simpa using ih (by simpa using h')
def KindOK (P:Program):TK→TypeDesc→Prop
 | .int k,d=>d=.int k
 | .bool,d=>d=.bool
 | .string,d=>d=.string
 | .ptr e,d=>d=.pointer e
 | .slice e,d=>d=.slice e
 | .array n e,d=>d=.array n e
 | .struct fs,d=>∃gs,d=.struct gs∧FieldsOK P fs gs.toList
 | .func,d=>∃a b c,d=.func a b c
 | .iface,d=>∃ms,d=.interface ms
 | .other,_=>False
theorem Zra {P:Program} {k:TK} {d:TypeDesc} (h:Zt3 P k d=true):KindOK P k d:=by
 cases k <;> cases d <;> simp only [Zt3,Tl] at h <;> first
  | (cases h;done)
  | rfl
  | (have:=Zef h;subst this;rfl)
  | (have:=Tm h;subst this;rfl)
  | (have h1:=Tm h.1;have h2:=Tm h.2;subst h1;subst h2;rfl)
  | exact ⟨_,rfl,Zgb h⟩
  | exact ⟨_,_,_,rfl⟩
  | exact ⟨_,rfl⟩
structure TIOK (P:Program) (t:Nat) (v:TI):Prop where
 ex:∃i d z,P.info? t=some i∧P.underlying t=some d∧i.size=v.size∧i.bytes=v.bytes∧KindOK P v.kind d∧i.zero=some z∧Zof v.zero z.cells.toList=true∧v.zero.length=v.size∧(v.kind.isAgg=true∨v.size=1)∧(v.eqok=true→eqB P t d=true)
def TabOK (T:Tab) (P:Program):Prop:=T.all (Zog P)=true
theorem TabOK.get {T:Tab} {P:Program} (h:TabOK T P) {t:Nat} (hk:(T.get t).kind≠.other):TIOK P t (T.get t):=by
 rcases ZAu h t with h1 | h1
 ·rw [h1] at hk;exact absurd rfl hk
 ·refine ⟨?_⟩;unfold Zog at h1
  split at h1
  ·rename_i h2;exact absurd h2 hk
  ·split at h1
   ·rename_i i d hi hd
    simp only [Tl] at h1;obtain ⟨⟨⟨⟨⟨⟨h2,h3⟩,h4⟩,h6⟩,h7⟩,h8⟩,h5⟩:=h1;split at h5
    ·rename_i z hz
     exact ⟨i,d,z,hi,hd,Tm h2,Tm h3,Zra h4,hz,h5,Tm h6,by
      rw [T9] at h7;exact h7.imp id Tm,fun he=>by
      rw [he] at h8;simpa using h8⟩
    ·cases h5
   ·cases h1
theorem TabOK.one {T:Tab} {P:Program} (h:TabOK T P) {t:Nat} (hk:(T.get t).kind≠.other) (ha:(T.get t).kind.isAgg=false):(T.get t).size=1:=by
 obtain ⟨i,d,z,_,_,_,_,_,_,_,_,h1,_⟩:=(h.get hk).ex;exact h1.resolve_left (by rw [ha];simp)
theorem Zh9 {ok:Nat→Nat→Prop} {w:World} {x:D} {v:Value} (h:Zoe x v=true):DRel ok w x v∧v.oneCell'=true:=by
 cases x <;> cases v <;> try (first | (cases h;done) | (rename_i a;cases a <;> first | (cases h;done) | exact ⟨.nilp,rfl⟩))
 ·rename_i a b;have:a=b:=by simpa [Zoe] using h
  subst this;exact ⟨.bool _,rfl⟩
 ·rename_i k a k' b
  simp only [Zoe,Tl] at h;have h1:=Zef h.1;have h2:a=b:=by simpa using h.2
  subst h1;subst h2;exact ⟨.int _ _,rfl⟩
 ·rename_i s t
  have:s=t.data.toList:=by simpa [Zoe] using h
  subst this;exact ⟨.str _,rfl⟩
 ·exact ⟨.nilf,rfl⟩
 ·exact ⟨.nili,rfl⟩
theorem Zoh {G:GE} {e:Env} {σ:St} {w:World} {x:PV} {v:Value} (h:Zt2 x v=true):VRel G e σ w x v∧v.oneCell'=true:=by
 cases x with
 | d x=>exact ⟨.d _ _ (Zh9 h).1,(Zh9 (ok:=okc e σ) (w:=w) h).2⟩
 | nils el =>
  unfold Zt2 at h
  split at h <;> first | (cases h;done) | skip
  ·rename_i heq;cases heq
  ·exact ⟨.nils _,rfl⟩
 | _=>cases h
theorem Vo {G:GE} {e:Env} {σ:St} {w:World}:∀{l:List PV} {m:List Value},Zof l m=true→m.length=l.length∧∀(i:Nat) (x:PV) (u:Value),l[i]?=some x→m[i]?=some u→VRel G e σ w x u∧u.oneCell'=true
 | [],[],_=>⟨rfl,fun i x u h=>by simp at h⟩
 | x::l,v::m,h=>by
  simp only [Zof,Tl] at h;obtain ⟨h1,h2⟩:=Vo (G:=G) (e:=e) (σ:=σ) (w:=w) h.2;refine ⟨by simp [h1],fun i x' u hx hu=>?_⟩
  cases i with
  | zero=>simp at hx hu;subst hx;subst hu;exact Zoh h.1
  | succ i=>exact h2 i x' u (by simpa using hx) (by simpa using hu)
 | [],_::_,h=>by cases h
 | _::_,[],h=>by cases h
end Go.PM
end

section
namespace Go.PM
section inv
variable {G:GE} {e:Env} {σ:St} {w:World} {v:Value}
theorem DRel.one {ok:Nat→Nat→Prop} {x:D} (h:DRel ok w x v):v.oneCell'=true:=by cases h <;> rfl
theorem VRel.dint {k:IntKind} {n:Int} (h:VRel G e σ w (.d (.int k n)) v):v=.int k n:=by cases h with | d _ _ h=>cases h;rfl
theorem VRel.dbool {b:Bool} (h:VRel G e σ w (.d (.bool b)) v):v=.bool b:=by cases h with | d _ _ h=>cases h;rfl
theorem VRel.dstr {s:List UInt8} (h:VRel G e σ w (.d (.str s)) v):v=.string ⟨s.toArray⟩:=by cases h with | d _ _ h=>cases h;rfl
theorem VRel.mkint {k:IntKind} {n:Int}:VRel G e σ w (.d (.int k n)) (.int k n):=.d _ _ (.int _ _)
theorem VRel.mkbool {b:Bool}:VRel G e σ w (.d (.bool b)) (.bool b):=.d _ _ (.bool _)
theorem VRel.mkstr {s:List UInt8}:VRel G e σ w (.d (.str s)) (.string ⟨s.toArray⟩):=.d _ _ (.str _)
theorem UR {x:PV} {y:D} (hy:toD x=some y) (h:VRel G e σ w x v):DRel (okc e σ) w y v:=by
 cases h with
 | d x v h=>cases hy;exact h
 | sl t el rows v hn hd _=>cases hy;exact hd
 | nils el=>cases hy;exact .slnil
 | _=>cases hy
theorem DRel.sl_inv {ok:Nat→Nat→Prop} {rows:List (List D)} (h:DRel ok w (.sl rows) v):∃a cap,v=.slice a rows.length cap∧rows.length≤cap:=by
 cases h with
 | slnil=>exact ⟨none,0,rfl,Tq _⟩
 | slz a=>exact ⟨some a,0,rfl,Tq _⟩
 | sl rows b off cap sz u hcap hsz hc ho hu=>exact ⟨some ⟨b,off,none⟩,cap,rfl,hcap⟩
end inv
theorem Yt {P:Program} {t:TypeId} {i:TypeInfo} (h:P.info? t=some i) (w:World):(typeInfo t).run P w=.ok i w:=by simp [typeInfo,h]
theorem ZB {P:Program} {t:TypeId} {i:TypeInfo} (h:P.info? t=some i) (w:World):(sizeOf t).run P w=.ok i.size w:=by simp [sizeOf,Yt h]
theorem Zc {P:Program} {t:TypeId} {d:TypeDesc} (h:P.underlying t=some d) (w:World):(underlying t).run P w=.ok d w:=by simp [underlying,h]
theorem J3 {P:Program} {k:TK} {d:TypeDesc} (h:KindOK P k d) {t:TypeId} (hd:P.underlying t=some d) (w:World):(isAgg t).run P w=.ok k.isAgg w:=by
 unfold isAgg
 simp only [Sem.run_bind,Zc hd,Result.andThen]
 cases k with
 | struct fs=>obtain ⟨gs,rfl,_⟩:=h;rfl
 | func=>obtain ⟨a,b,c,rfl⟩:=h;rfl
 | iface=>obtain ⟨ms,rfl⟩:=h;rfl
 | other=>cases h
 | _=>cases h;rfl
theorem Ul {α:Type}:∀{n:Nat} {l r:List α},Jt n l=some r→r.length=n∧∀i,i<n→l[i]?=r[i]?
 | 0,l,r,h=>by simp [Jt] at h;subst h;exact ⟨rfl,fun i hi=>by omega⟩
 | n+1,[],r,h=>by simp [Jt] at h
 | n+1,x::l,r,h=>by
  simp only [Jt] at h;split at h
  ·rename_i r' hr
   cases h
   obtain ⟨h1,h2⟩:=Ul hr;refine ⟨by simp [h1],fun i hi=>?_⟩
   cases i with
   | zero=>rfl
   | succ i=>simpa using h2 i (by omega)
  ·cases h
theorem Yf (b o i:Nat):(⟨b,o,none⟩:Addr).add i=⟨b,o+i,none⟩:=by
 unfold Addr.add
 split
 ·subst_vars;rfl
 ·rfl
theorem VK {P:Program} {t:TypeId} {i:TypeInfo} {d:TypeDesc} {k:TK} (hi:P.info? t=some i) (hd:P.underlying t=some d) (hk:KindOK P k d) (w:World) (b o:Nat) (g:Nat→Value)
  (hc:∀j,j<(if k.isAgg then i.size else 1)→w.cell? ⟨b,o+j,none⟩=some (g j)) :
  (loadVar t ⟨b,o,none⟩).run P w=.ok (if k.isAgg then .agg ((List.range i.size).map g).toArray else g 0) w:=by
 unfold loadVar
 simp only [Sem.run_bind,J3 hk hd,Result.andThen]
 cases hka:k.isAgg with
 | true =>
  simp only [if_true,Sem.run_bind,ZB hi,Result.andThen];rw [run_loadCells w ⟨b,o,none⟩ i.size g (fun j hj=>by rw [Yf];exact hc j (by simp [hka,hj]))];rfl
 | false =>
  simp only [Tr,if_false,run_load];have:=hc 0 (by simp [hka]);simp only [Sa] at this;rw [this]
section
variable {G:GE} {e:Env} {σ:St} {w:World}
theorem BRel.cell {t:TypeId} {cs:List PV} {b:Nat} (h:BRel G e σ w (.cells t cs) b) {o:Nat} {x:PV} (hx:cs[o]?=some x):∃u,w.cell? ⟨b,o,none⟩=some u∧VRel G e σ w x u∧u.oneCell'=true:=by
 obtain ⟨vs,h1,h2,h3⟩:=h;have ho:o<vs.size:=by rw [h2];exact (Th.1 hx).1
 have hv:vs[o]?=some vs[o]:=TA ho;exact ⟨vs[o],by simp [World.cell?,h1,hv],(h3 o x _ hx hv).1,(h3 o x _ hx hv).2⟩
theorem Zgc {T:Tab} {K:PV→Prop} (hT:TabOK T G.P) (hS:SRel G e σ w) {t:TypeId} {x:PV} {v:Value} (hv:VRel G e σ w x v)
  (h:Zcn T t x σ.bx K):∃pv u,K pv∧VRel G e σ w pv u∧(Instr.loadAt t v).run G.P w=.ok u w:=by
 cases hv with
 | ptr b off hb =>
  simp only [Zcn] at h;split at h
  ·rename_i ty cs hbx
   have hB:=hS.box b _ hbx;split at h
   ·rename_i hk
    obtain ⟨i,d,z,hi,hd,hs,hby,hkd,hz,hz2,_⟩:=(hT.get (t:=t) (by intro h0;rw [h0] at hk;cases hk)).ex;split at h
    ·rename_i l hl
     obtain ⟨hll,hlg⟩:=Ul hl;have hcell:∀j,j<i.size→∃u x,l[j]?=some x∧w.cell? ⟨e.β b,off+j,none⟩=some u∧VRel G e σ w x u∧u.oneCell'=true:=fun j hj=>by
      have h1:j<l.length:=by omega
      have h2:=hlg j (by omega);rw [Tg h1,Sv] at h2;obtain ⟨u,hu1,hu2,hu3⟩:=hB.cell h2;exact ⟨u,l[j],Tg h1,hu1,hu2,hu3⟩
     have hrun:=VK hi hd hkd w (e.β b) off (fun j=>(w.cell? ⟨e.β b,off+j,none⟩).getD undef) (fun j hj=>by
      rw [hk] at hj;obtain ⟨u,x,_,hu,_⟩:=hcell j hj;rw [hu];rfl)
     rw [hk] at hrun;refine ⟨_,_,h,?_,by simp only [Instr.loadAt,Instr.sureAddr,Sem.run_bind,Sem.run_pure,Result.andThen];exact hrun⟩;refine .agg _ _ (by simp [hll,hs]) (fun j x u hx hu=>?_) (fun u hu=>?_)
     ·have hj:j<i.size:=by have:=(Th.1 hx).1;omega
      obtain ⟨u',x',hx',hu',hr,_⟩:=hcell j hj;simp [hj,hu'] at hu;rw [hx'] at hx;cases hx;subst hu;exact hr
     ·simp only [List.mem_toArray,Sy,List.mem_range] at hu;obtain ⟨j,hj,rfl⟩:=hu;obtain ⟨u',x',hx',hu',hr,h1⟩:=hcell j hj;rw [hu'];exact h1
    ·exact h.elim
   ·rename_i hk
    split at h
    ·exact h.elim
    ·rename_i hk2
     obtain ⟨i,d,z,hi,hd,hs,hby,hkd,hz,hz2,_⟩:=(hT.get (t:=t) (fun h0=>hk2 h0)).ex;split at h
     ·rename_i y hy
      obtain ⟨u,hu1,hu2,hu3⟩:=hB.cell hy;have hrun:=VK hi hd hkd w (e.β b) off (fun _=>u) (fun j hj=>by
       rw [hk] at hj;have:j=0:=by simpa using hj
       subst this;simpa using hu1)
      rw [hk] at hrun;exact ⟨_,_,h,hu2,by simp only [Instr.loadAt,Instr.sureAddr,Sem.run_bind,Sem.run_pure,Result.andThen];exact hrun⟩
     ·exact h.elim
  ·exact h.elim
 | elem r off b o u hc ho hu =>
  simp only [Zcn] at h;split at h
  ·rename_i hk
   obtain ⟨i,d,z,hi,hd,hs,hby,hkd,hz,hz2,_⟩:=(hT.get (t:=t) (by intro h0;rw [h0] at hk;cases hk)).ex;split at h
   ·rename_i l hl
    obtain ⟨hll,hlg⟩:=Ul hl;have hrj:∀j,j<i.size→off+j<r.length∧r[off+j]?=l[j]?:=fun j hj=>by
     have h1:j<l.length:=by omega
     have h2:=hlg j (by omega);rw [Sv] at h2;refine ⟨?_,h2⟩;rw [Tg h1] at h2;exact (Th.1 h2).1
    have hrun:=VK hi hd hkd w b (o+off) (fun j=>u (off+j)) (fun j hj=>by
     rw [hk] at hj;have:=hc _ (hrj j hj).1
     rwa [← Sb] at this)
    rw [hk] at hrun;refine ⟨_,_,h,?_,by simp only [Instr.loadAt,Instr.sureAddr,Sem.run_bind,Sem.run_pure,Result.andThen];exact hrun⟩;have hrel:∀j x,j<i.size→l[j]?=some x→DRel (okc e σ) w x (u (off+j)):=fun j x hj hx=>hu (off+j) x (by rw [(hrj j hj).2];exact hx)
    refine .agg _ _ (by simp [hll,hs]) (fun j x v hx hv=>?_) (fun v hv=>?_)
    ·rw [TL] at hx
     cases hlj:l[j]? with
     | none=>rw [hlj] at hx;cases hx
     | some y =>
      rw [hlj] at hx;cases hx;have hj:j<i.size:=by have:=(Th.1 hlj).1;omega
      simp [hj] at hv;subst hv;exact .d _ _ (hrel j y hj hlj)
    ·simp only [List.mem_toArray,Sy,List.mem_range] at hv;obtain ⟨j,hj,rfl⟩:=hv;have h1:j<l.length:=by omega
     exact (hrel j _ hj (Tg h1)).one
   ·exact h.elim
  ·rename_i hk
   split at h
   ·exact h.elim
   ·rename_i hk2
    obtain ⟨i,d,z,hi,hd,hs,hby,hkd,hz,hz2,_⟩:=(hT.get (t:=t) (fun h0=>hk2 h0)).ex;split at h
    ·rename_i y hy
     have hlt:=(Th.1 hy).1;have hrun:=VK hi hd hkd w b (o+off) (fun _=>u off) (fun j hj=>by
      rw [hk] at hj;have:j=0:=by simpa using hj
      subst this;simpa using hc off hlt)
     rw [hk] at hrun;exact ⟨_,_,h,.d _ _ (hu off y hy),by simp only [Instr.loadAt,Instr.sureAddr,Sem.run_bind,Sem.run_pure,Result.andThen];exact hrun⟩
    ·exact h.elim
 | _=>exact h.elim
theorem Zbt {P:Program} (op:BinOp) (k:IntKind) (a b:Int) (w:World) (h:op=.and∨op=.or∨op=.xor∨op=.andNot):(Op.intBits op k a b).run P w=.ok (.int k (Zk op k a b)) w:=by
 rw [Ys];rcases h with rfl | rfl | rfl | rfl <;> rfl
theorem ZaT {k:IntKind} {n:Int} {K:PV→Prop} (h:Zeb k n K):∃pv,K pv∧VRel G e σ w pv (.int k (k.wrap n)):=by
 rcases h with ⟨h1,h2⟩ | h
 ·exact ⟨_,h2,by rw [show k.wrap n=n from h1];exact .mkint⟩
 ·exact ⟨_,h,.mkint⟩
theorem Jz {k:IntKind} {n:Int} {K:PV→Prop} (h:Zeb k n K) {s:Sem Value} {P:Program} (hs:s.run P w=.ok (.int k (k.wrap n)) w):∃pv u,K pv∧VRel G e σ w pv u∧s.run P w=.ok u w:=by
 obtain ⟨pv,h1,h2⟩:=ZaT (G:=G) (e:=e) (σ:=σ) (w:=w) h;exact ⟨pv,_,h1,h2,hs⟩
theorem ZmT {op:BinOp} {k:IntKind} {a b:Int} {K:PV→Prop} (h:Zwa op k a b K) (t:TypeId) (x y:Operand) :
  ∃pv u,K pv∧VRel G e σ w pv u∧(do eqGuard op t x y (.int k a) (.int k b);binOp op t (.int k a) (.int k b):Sem Value).run G.P w=.ok u w:=by
 have hg:(eqGuard op t x y (.int k a) (.int k b)).run G.P w=.ok () w:=by cases op <;> rfl
 cases op <;> simp only [Zwa] at h <;> simp only [Sem.run_bind,hg,Result.andThen]
 case add=>exact Jz h (by simp [binOp,Op.intArith])
 case sub=>exact Jz h (by simp [binOp,Op.intArith])
 case mul=>exact Jz h (by simp [binOp,Op.intArith])
 case quo=>exact Jz h.2 (by simp [binOp,Op.intDiv,h.1])
 case rem=>exact ⟨_,_,h.2,.mkint,by simp [binOp,Op.intDiv,h.1]⟩
 case and=>exact ⟨_,_,h,.mkint,by simp [binOp,Zbt]⟩
 case or=>exact ⟨_,_,h,.mkint,by simp [binOp,Zbt]⟩
 case xor=>exact ⟨_,_,h,.mkint,by simp [binOp,Zbt]⟩
 case andNot=>exact ⟨_,_,h,.mkint,by simp [binOp,Zbt]⟩
 case eql=>exact ⟨_,_,h,.mkbool,by simp [binOp,Op.intCmp];rfl⟩
 case neq=>exact ⟨_,_,h,.mkbool,by simp [binOp,Op.intCmp,bne];rfl⟩
 case lss=>exact ⟨_,_,h,.mkbool,by simp [binOp,Op.intCmp]⟩
 case leq=>exact ⟨_,_,h,.mkbool,by simp [binOp,Op.intCmp]⟩
 case gtr=>exact ⟨_,_,h,.mkbool,by simp [binOp,Op.intCmp]⟩
 case geq=>exact ⟨_,_,h,.mkbool,by simp [binOp,Op.intCmp]⟩
theorem toList_mk (s:List UInt8):(⟨s.toArray⟩:ByteArray).toList=s:=ByteArray.toList_mk s
theorem Zco {α:Type} [BEq α] [LawfulBEq α] [DecidableEq α] (a b:α):(a == b)=decide (a=b):=by rw [Bool.eq_iff_iff];simp
theorem ZaC {T : Tab} (hT : TabOK T G.P) (d : Nat) {xs ys : Array Value} : ∀ {fs : List (Nat × Nat)} {gs : List Field} {i : Nat} {px py : List PV} {K : Bool → Prop}, FieldsOK G.P fs gs → gs.all (fun f => f.name != "_") = true →
  (∀(j:Nat) (x:PV),px[j]?=some x→∃u,xs[i+j]?=some u∧VRel G e σ w x u)→(∀(j:Nat) (x:PV),py[j]?=some x→∃u,ys[i+j]?=some u∧VRel G e σ w x u)→Xo T i fs px py K →
  ∃r,K r∧(Op.eqFields (d+1) xs ys gs).run G.P w=.ok r w
 | [],gs,i,px,py,K,hf,hn,hx,hy,h=>by
  cases hf
  cases px <;> cases py <;> first | exact ⟨_,h,rfl⟩ | exact h.elim
 | (o',t')::fs',gs,i',px,py,K,hf,hn,hx,hy,h=>by
  cases hf with
  | cons _ _ _ f gs info ho ht hi hs hf =>
   simp only [List.all_cons,Tl] at hn
   cases px with
   | nil=>exact h.elim
   | cons x xs' =>
   cases py with
   | nil=>exact h.elim
   | cons y ys' =>
    obtain ⟨u,hu,hxu⟩:=hx 0 x rfl;obtain ⟨v,hv,hyv⟩:=hy 0 y rfl;simp only [Sa] at hu hv;have hx':∀(j:Nat) (z:PV),xs'[j]?=some z→∃u,xs[i'+1+j]?=some u∧VRel G e σ w z u:=fun j z hz=>by have:=hx (j+1) z (by simpa using hz);rwa [show i'+(j+1)=i'+1+j by omega] at this
    have hy':∀(j:Nat) (z:PV),ys'[j]?=some z→∃u,ys[i'+1+j]?=some u∧VRel G e σ w z u:=fun j z hz=>by have:=hy (j+1) z (by simpa using hz);rwa [show i'+(j+1)=i'+1+j by omega] at this
    have hname : f.name ≠ "_" := by simpa using hn.1
    have fin:∀(b:Bool) (K1:Bool→Prop),o'=i'→(T.get t').kind≠.other→(T.get t').kind.isAgg=false→(Op.equalIn (d+1) t' u v).run G.P w=.ok b w→(Xo T (i'+1) fs' xs' ys' fun r=>K1 (b && r)) →
      ∃r,K1 r∧(Op.eqFields (d+1) xs ys (f::gs)).run G.P w=.ok r w:=fun b K1 hoi hko hka he hk=>by
     obtain ⟨r,h1,h2⟩:=ZaC hT d hf hn.2 hx' hy' hk;obtain ⟨i2,d2,z2,hi2,hd2,hs2,hby2,hkd2,_⟩:=(hT.get hko).ex;have hpx:∀(zs:Array Value) (q:Value),zs[i']?=some q→(part t' zs f.offset).run G.P w=.ok q w:=fun zs q hq=>by
      unfold part
      simp only [Sem.run_bind,J3 hkd2 hd2,Result.andThen,hka];simp [ho,hoi,hq]
     refine ⟨_,h1,?_⟩;simp only [Op.eqFields];rw [Tf hname];simp only [Sem.run_bind,ht,hpx xs u hu,hpx ys v hv,he,Result.andThen]
     cases b with
     | true=>simp only [Bool.not_true,Tr,if_false,TE];exact h2
     | false=>simp
    have tk:∀(k:TK),(T.get t').kind=k→k≠.other→∃dd,G.P.underlying t'=some dd∧KindOK G.P k dd:=fun k hk hko=>by
     obtain ⟨i2,d2,z2,hi2,hd2,hs2,hby2,hkd2,_⟩:=(hT.get (t:=t') (by rw [hk];exact hko)).ex;exact ⟨d2,hd2,by rw [← hk];exact hkd2⟩
    simp only [Xo] at h;split at h
    ·rename_i k0 k a k' b hoi hkind
     obtain ⟨dd,hd1,hd2⟩:=tk _ hkind (by simp)
     cases hxu.dint;cases hyv.dint
     split at h
     ·rename_i hk
      cases Zef hk
      refine fin (decide (a=b)) K (Tm hoi) (by rw [hkind];simp) (by rw [hkind];rfl) ?_ h;rw [run_equalIn_int w d _ k k0 a b (by rw [hd1];exact congrArg some hd2),Zco]
     ·exact h.elim
    ·rename_i a b hoi hkind
     obtain ⟨dd,hd1,hd2⟩:=tk _ hkind (by simp)
     cases hxu.dstr;cases hyv.dstr
     refine fin (decide (a=b)) K (Tm hoi) (by rw [hkind];simp) (by rw [hkind];rfl) ?_ h;rw [run_equalIn_string w d _ _ _ (by rw [hd1];exact congrArg some hd2),toList_mk,toList_mk,Zco]
    ·rename_i a b hoi hkind
     obtain ⟨dd,hd1,hd2⟩:=tk _ hkind (by simp)
     cases hxu.dbool;cases hyv.dbool
     refine fin (decide (a=b)) K (Tm hoi) (by rw [hkind];simp) (by rw [hkind];rfl) ?_ h;rw [run_equalIn_bool w d _ a b (by rw [hd1];exact congrArg some hd2),Zco]
    ·exact h.elim
def Zoi:Value→Bool
 | .int _ _=>false | .string _=>false | .float _ _=>false | .complex _ _ _=>false | _=>true
theorem Zoj {t:TypeId} {vx vy:Value} (h:Zoi vx=true):binOp .eql t vx vy=(do pure (.bool (← Op.equal t vx vy))):=by
 cases vx <;> first | (cases h;done) | (cases vy <;> rfl)
theorem Zok {t:TypeId} {vx vy:Value} (h:Zoi vx=true):binOp .neq t vx vy=(do pure (.bool (!(← Op.equal t vx vy)))):=by
 cases vx <;> first | (cases h;done) | (cases vy <;> rfl)
theorem Yd {P:Program} {op:BinOp} {t:TypeId} {x y:Operand} {vx vy:Value} (h:(match vx with | .nilIface=>false | .agg _=>false | _=>true)=true):(eqGuard op t x y vx vy).run P w=.ok () w:=by
 cases op <;> first | rfl | (cases vx <;> first | (cases h;done) | rfl)
theorem Yz (t:TypeId) (x y:Value):Op.equal t x y=Op.equalIn (9999+1) t x y:=rfl
theorem Zia {T:Tab} (hT:TabOK T G.P) {t:TypeId} {x y:Operand} {px py:PV} {vx vy:Value} {K:Bool→Prop} (hx:VRel G e σ w px vx) (hy:VRel G e σ w py vy) (h:peq T t x y px py K) (op:BinOp) :
  ∃b,K b∧(Op.equal t vx vy).run G.P w=.ok b w∧(eqGuard op t x y vx vy).run G.P w=.ok () w∧Zoi vx=true:=by
 have tk:∀(k:TK),(T.get t).kind=k→k≠.other→∃dd,G.P.underlying t=some dd∧KindOK G.P k dd∧((T.get t).eqok=true→eqB G.P t dd=true):=fun k hk hko=>by
  obtain ⟨i2,d2,z2,hi2,hd2,hs2,hby2,hkd2,_,_,_,_,h8⟩:=(hT.get (t:=t) (by rw [hk];exact hko)).ex;exact ⟨d2,hd2,by rw [← hk];exact hkd2,h8⟩
 have dn:∀{v:Value},VRel G e σ w (.d .nilp) v→v=.pointer none:=fun h=>by cases h with | d _ _ h=>cases h;rfl
 have df:∀{v:Value},VRel G e σ w (.d .nilf) v→v=.nilFunc:=fun h=>by cases h with | d _ _ h=>cases h;rfl
 have di:∀{v:Value},VRel G e σ w (.d .nili) v→v=.nilIface:=fun h=>by cases h with | d _ _ h=>cases h;rfl
 unfold peq at h
 split at h
 ·rename_i hkind
  obtain ⟨dd,hd1,hd2,_⟩:=tk _ hkind (by simp);split at h
  ·rename_i a b
   cases hx.dbool;cases hy.dbool
   exact ⟨_,h,by rw [run_equal_bool w t a b (by rw [hd1];exact congrArg some hd2),Zco],Yd rfl,rfl⟩
  ·exact h.elim
 ·rename_i el hkind
  obtain ⟨dd,hd1,hd2,_⟩:=tk _ hkind (by simp);obtain rfl:dd=.pointer el:=hd2;split at h
  ·cases dn hx;cases dn hy
   exact m44
  ·cases dn hx;cases hy
   exact m44
  ·cases dn hx;cases hy
   exact m44
  ·cases dn hy;cases hx
   exact m44
  ·cases dn hy;cases hx
   exact m44
  ·exact h.elim
 ·rename_i hkind
  obtain ⟨dd,hd1,⟨q1,q2,q3,rfl⟩,_⟩:=tk _ hkind (by simp);split at h
  ·cases df hx;cases df hy
   exact m44
  ·cases df hx;cases hy
   exact m44
  ·cases df hy;cases hx
   exact m44
  ·exact h.elim
 ·rename_i hkind
  obtain ⟨dd,hd1,⟨q1,rfl⟩,_⟩:=tk _ hkind (by simp);split at h
  ·cases di hx;cases di hy
   split at h
   ·rename_i hc
    refine ⟨_,h,by rw [Yz,Op.equalIn];simp [Zc hd1],?_,rfl⟩
    cases op <;> first | rfl | (unfold eqGuard;cases x <;> cases y <;> first | rfl | (cases hc;done))
   ·exact h.elim
  ·cases di hx;cases hy
   exact ⟨_,h,by rw [Yz,Op.equalIn];simp [Zc hd1],by cases op <;> rfl,rfl⟩
  ·cases di hy;cases hx
   exact ⟨_,h,by rw [Yz,Op.equalIn];simp [Zc hd1],by cases op <;> rfl,rfl⟩
  ·rename_i t1 k a t2 k' b
   cases hx with
   | iface _ _ u hu =>
   cases hy with
   | iface _ _ v hv =>
   cases hu.dint;cases hv.dint
   split at h
   ·rename_i kk hb hkk hek
    cases Tm hb
    split at h
    ·rename_i hkq
     cases Zef hkq
     obtain ⟨i2,d2,z2,hi2,hd2,hs2,hby2,hkd2,_,_,_,_,h8⟩:=(hT.get (t:=t1) (by rw [hkk];simp)).ex;rw [hkk] at hkd2;obtain rfl:d2=.int kk:=hkd2;have hc:=h8 hek;simp only [eqB,hi2] at hc;refine ⟨_,h,?_,by cases op <;> rfl,rfl⟩;rw [Yz,Op.equalIn];simp only [Sem.run_bind,Zc hd1,Result.andThen,ne_eq,not_true,if_false,Yt hi2,hc,Bool.not_true,Tr];rw [run_equalIn_int w 9998 t1 k kk a b hd2,Zco]
    ·exact h.elim
   ·rename_i hb
    have hne:t1≠t2:=fun e=>by subst e;simp at hb
    refine ⟨_,h,?_,by cases op <;> rfl,rfl⟩;rw [Yz,Op.equalIn];simp [Zc hd1,hne]
   ·exact h.elim
  ·exact h.elim
 ·rename_i el hkind
  obtain ⟨dd,hd1,hd2,_⟩:=tk _ hkind (by simp);obtain rfl:dd=.slice el:=hd2;split at h
  ·cases hx;cases hy
   exact m44
  ·cases hy
   cases hx with
   | d _ _ hx=>cases hx with
    | sl=>exact ⟨_,h,by rw [Yz,Op.equalIn];simp [Zc hd1],Yd rfl,rfl⟩
  ·cases hy
   cases hx with
   | sl _ _ _ _ _ hx _=>cases hx with
    | sl=>exact ⟨_,h,by rw [Yz,Op.equalIn];simp [Zc hd1],Yd rfl,rfl⟩
  ·exact h.elim
 ·rename_i fs hkind
  obtain ⟨dd,hd1,⟨gs,rfl,hf⟩,h8⟩:=tk _ hkind (by simp);split at h
  ·rename_i hek
   have hB:=h8 hek;simp only [eqB,Tl,TV] at hB;split at h
   ·rename_i xs ys
    cases hx with
    | agg _ vxs hxs hxr _ =>
    cases hy with
    | agg _ vys hys hyr _ =>
    have hfo:G.P.fieldsOf t=gs:=by simp [Program.fieldsOf,hd1]
    have conv:∀{l:List PV} {vs:Array Value},vs.size=l.length→(∀(i:Nat) (x:PV) (u:Value),l[i]?=some x→vs[i]?=some u→VRel G e σ w x u)→∀(j:Nat) (x:PV),l[j]?=some x→∃u,vs[0+j]?=some u∧VRel G e σ w x u:=fun {l vs} hs hr j x hx=>by
     have hj:=(Th.1 hx).1;refine ⟨vs[j],by rw [T7];exact TA (by omega),hr j x _ hx (TA (by omega))⟩
    obtain ⟨r,hK,hrun⟩:=ZaC hT 9998 hf hB.1.1 (conv hxs hxr) (conv hys hyr) h;refine ⟨r,hK,?_,run_eqGuard_agg w op t x y _ _ hB.2,rfl⟩;have:=run_equalIn_struct w 9999 t vxs vys (by rw [hfo];exact hd1) hB.1.2;rw [hfo] at this;exact this.trans hrun
   ·exact h.elim
  ·exact h.elim
 ·exact h.elim
theorem ZmU {T:Tab} (hT:TabOK T G.P) {op:BinOp} {px py:PV} {vx vy:Value} {K:PV→Prop} {t:TypeId} {x y:Operand} (hx:VRel G e σ w px vx) (hy:VRel G e σ w py vy) (h:Zti T op t x y px py K) :
  ∃pv u,K pv∧VRel G e σ w pv u∧(do eqGuard op t x y vx vy;binOp op t vx vy:Sem Value).run G.P w=.ok u w:=by
 unfold Zti at h
 split at h
 ·rename_i k a k' b
  cases hx.dint;cases hy.dint
  split at h
  ·have hg:(eqGuard .shl t x y (.int k a) (.int k' b)).run G.P w=.ok () w:=rfl;have:¬b<0:=by omega
   exact Jz h.2 (by simp [hg,binOp,Op.shift,this])
  ·refine ⟨_,_,h.2,.mkint,?_⟩;have hg:(eqGuard .shr t x y (.int k a) (.int k' b)).run G.P w=.ok () w:=rfl;have:¬b<0:=by omega
   simp [hg,binOp,Op.shift,this]
  ·split at h
   ·rename_i hk
    cases Zef hk
    exact ZmT h t x y
   ·exact h.elim
 ·rename_i a b
  cases hx.dstr;cases hy.dstr
  have hg:(eqGuard op t x y (.string ⟨a.toArray⟩) (.string ⟨b.toArray⟩)).run G.P w=.ok () w:=by cases op <;> rfl
  cases op <;> simp only at h <;> simp only [Sem.run_bind,hg,Result.andThen]
  case add =>
   refine ⟨_,_,h.2,.mkstr,?_⟩;have h1:¬((a.length:Int)+(b.length:Int)>IntKind.i64.max):=by
    have:IntKind.i64.max=2 ^ 63 - 1:=rfl;rw [this];have:=h.1;omega
   have h2:(⟨a.toArray⟩:ByteArray)++⟨b.toArray⟩=⟨(a++b).toArray⟩:=by
    apply ByteArray.ext;simp [ByteArray.data_append]
   have h3:(⟨a.toArray⟩:ByteArray).size=a.length:=rfl;have h4:(⟨b.toArray⟩:ByteArray).size=b.length:=rfl;simp only [binOp,Op.stringOp,h3,h4,Int.natCast_add];rw [Tc h1,h2];rfl
  all_goals refine ⟨_,_,h,.mkbool,?_⟩
  all_goals simp only [binOp,Op.stringOp,toList_mk,← Zco,Sem.run_pure]
 ·rename_i px' py' hno1 hno2
  cases op <;> simp only at h <;> first | exact h.elim | skip
  ·obtain ⟨b,hK,h1,h2,n1⟩:=Zia hT hx hy h .eql;refine ⟨_,_,hK,.mkbool,?_⟩;simp only [Sem.run_bind,h2,Result.andThen,Zoj n1,h1,Sem.run_pure]
  ·obtain ⟨b,hK,h1,h2,n1⟩:=Zia hT hx hy h .neq;refine ⟨_,_,hK,.mkbool,?_⟩;simp only [Sem.run_bind,h2,Result.andThen,Zok n1,h1,Sem.run_pure]
theorem X5 {α:Type}:∀(l:List α) (o:Nat) (vs:List α),(Z9 l o vs).length=l.length
 | [],_,[]=>rfl
 | _::_,_,[]=>rfl
 | [],_,_::_=>rfl
 | _::l,0,_::vs=>by simp [Z9,X5 l 0 vs]
 | _::l,o+1,v::vs=>by simp [Z9,X5 l o (v::vs)]
theorem VL {α:Type}:∀(l:List α) (o:Nat) (vs:List α) (i:Nat),(Z9 l o vs)[i]?=if o≤i∧i<o+vs.length∧i<l.length then vs[i - o]? else l[i]?
 | l,o,[],i=>by
  have:Z9 l o []=l:=by cases l <;> rfl
  rw [this,Tc];simp;omega
 | [],o,v::vs,i=>by simp [Z9]
 | x::l,0,v::vs,i=>by
  cases i with
  | zero=>simp [Z9]
  | succ i =>
   have:=VL l 0 vs i;simp only [Z9,T1,this,T3,true_and,T7,Td,Nat.sub_zero]
   by_cases h:i<vs.length∧i<l.length
   ·rw [Tf h,Tf ⟨by omega,by omega⟩]
   ·rw [Tc h,Tc];omega
 | x::l,o+1,v::vs,i=>by
  cases i with
  | zero=>simp [Z9]
  | succ i =>
   have:=VL l o (v::vs) i;simp only [Z9,T1,this,Td]
   by_cases h:o≤i∧i<o+(vs.length+1)∧i<l.length
   ·rw [Tf h,Tf ⟨by omega,by omega,by omega⟩];congr 1;omega
   ·rw [Tc h,Tc];omega
theorem Zdb (vs:Array Value) (off:Nat):∀(l:List Value) (j:Nat) (cs:Array Value),((l.zipIdx j).foldl (fun cs (p:Value×Nat)=>cs.setIfInBounds (off+p.2) p.1) cs).size=cs.size:=by
 intro l
 induction l with
 | nil=>intro j cs;rfl
 | cons v l ih=>intro j cs;simp only [List.zipIdx_cons,List.foldl_cons];rw [ih];simp
theorem Zeg (off:Nat):∀(l:List Value) (j:Nat) (cs:Array Value) (i:Nat),
  ((l.zipIdx j).foldl (fun cs (p:Value×Nat)=>cs.setIfInBounds (off+p.2) p.1) cs)[i]?=if off+j≤i∧i<off+j+l.length∧i<cs.size then l[i - (off+j)]? else cs[i]?:=by
 intro l
 induction l with
 | nil=>intro j cs i;rw [Tc];rfl;simp;omega
 | cons v l ih =>
  intro j cs i
  simp only [List.zipIdx_cons,List.foldl_cons];rw [ih];simp only [Array.size_setIfInBounds,Td,TZ]
  by_cases h:off+(j+1)≤i∧i<off+(j+1)+l.length∧i<cs.size
  ·rw [Tf h,Tf ⟨by omega,by omega,by omega⟩];rw [show i - (off+j)=(i - (off+(j+1)))+1 by omega,T1]
  ·rw [Tc h]
   by_cases h2:off+j=i
   ·subst h2;simp only [if_true]
    by_cases h3:off+j<cs.size
    ·rw [Tf h3,Tf ⟨by omega,by omega,h3⟩];simp
    ·rw [Tc h3,Tc (by omega)];simp [h3]
   ·rw [Tc h2,Tc (by omega)]
theorem Um {x:PV} {v:Value} {l:List PV} (h:VRel G e σ w x v) (hl:x.cells=some l):v.cells.size=l.length∧∀(i:Nat) (y:PV) (u:Value),l[i]?=some y→v.cells[i]?=some u→VRel G e σ w y u∧u.oneCell'=true:=by
 have plain:∀(x:PV) (v:Value),VRel G e σ w x v→v.oneCell'=true→x.cells=some [x]→v.cells=#[v]→x.cells=some l→v.cells.size=l.length∧∀(i:Nat) (y:PV) (u:Value),l[i]?=some y→v.cells[i]?=some u→VRel G e σ w y u∧u.oneCell'=true:=by
  intro x v h h1 hx hv hl
  rw [hx] at hl;cases hl;rw [hv];refine ⟨rfl,fun i y u hy hu=>?_⟩
  cases i with
  | zero=>simp at hy hu;subst hy;subst hu;exact ⟨h,h1⟩
  | succ i=>simp at hy
 cases h with
 | agg cs vs hs h h1 =>
  cases hl
  exact ⟨hs,fun i y u hy hu=>⟨h i y u hy hu,h1 u (T8 hu)⟩⟩
 | undef v=>cases hl
 | d x v h=>exact plain _ _ (.d _ _ h) h.one rfl (by cases h <;> rfl) hl
 | sl t el rows v hn hd ht=>exact plain _ _ (.sl _ _ _ _ hn hd ht) hd.one rfl (by cases hd <;> rfl) hl
 | ptr b off h=>exact plain _ _ (.ptr _ _ h) rfl rfl rfl hl
 | asl b off n h=>exact plain _ _ (.asl _ _ _ h) rfl rfl rfl hl
 | elem r off b o u hc ho hu=>exact plain _ _ (.elem _ _ _ _ u hc ho hu) rfl rfl rfl hl
 | nils el=>exact plain _ _ (.nils _) rfl rfl rfl hl
 | func f a c va vc ha hc h1 h2=>exact plain _ _ (.func _ _ _ _ _ ha hc h1 h2) rfl rfl rfl hl
 | iface t x v h=>exact plain _ _ (.iface _ _ _ h) rfl rfl rfl hl
 | tuple cs vs hs h=>cases hl
 | raw v =>
  cases v with
  | func f a c=>exact plain _ _ (.raw _) rfl rfl rfl hl
  | _=>cases hl
theorem Zol (off:Nat) (vs cells:Array Value):Array.foldl (fun cs (x:Value×Nat)=>cs.setIfInBounds (off+x.2) x.1) vs cells.zipIdx=List.foldl (fun cs (x:Value×Nat)=>cs.setIfInBounds (off+x.2) x.1) vs (cells.toList.zipIdx 0):=by
 rw [← Array.foldl_toList,Array.toList_zipIdx]
theorem FieldsOK.length {P:Program} {l:List (Nat×Nat)} {m:List Field} (h:FieldsOK P l m):m.length=l.length:=by
 induction h with
 | nil=>rfl
 | cons _ _ _ _ _ _ _ _ _ _ _ ih=>simp [ih]
theorem Zcp {T:Tab} (hT:TabOK T G.P) {fs:List (Nat×Nat)} {gs:List Field} (hf:FieldsOK G.P fs gs) {ρ:Operand→PV} {ρ':Operand→Value} (hρ:∀x,VRel G e σ w (ρ x) (ρ' x)) {K:List PV→Prop}
  (places:Nat→Option (Nat×Nat)) (hp:∀i f j,gs[i]?=some f→G.P.info? f.type=some j→places i=some (f.offset,j.size)) :
  ∀(ps:List (Nat×Operand)) (cs:List PV) (vs:Array Value),vs.size=cs.length→(∀(i:Nat) (x:PV) (u:Value),cs[i]?=some x→vs[i]?=some u→VRel G e σ w x u∧u.oneCell'=true) →
   YV T fs ρ ps cs K→∃cs' vs',K cs'∧Instr.fill places vs (ps.map fun p=>(p.1,ρ' p.2))=some vs'∧vs'.size=cs'.length∧(∀(i:Nat) (x:PV) (u:Value),cs'[i]?=some x→vs'[i]?=some u→VRel G e σ w x u∧u.oneCell'=true)
 | [],cs,vs,hs,hr,h=>⟨cs,vs,h,rfl,hs,hr⟩
 | (i,x)::ps,cs,vs,hs,hr,h=>by
  simp only [YV] at h;split at h
  ·rename_i o t l hfi hl
   split at h
   ·exact h.elim
   ·rename_i h1 h2 hk
    obtain ⟨f,j,hg,ho,ht,hi,hj⟩:=hf.get hfi;obtain ⟨i2,d,z,hi2,hd,hs2,hby,hkd,hz,hz2,_⟩:=(hT.get (t:=t) (fun h0=>hk h0)).ex;rw [hi] at hi2;cases hi2;have e1:=Tm h1;have e2:=Ta h2;obtain ⟨hc1,hc2⟩:=Um (hρ x) hl;have hpl:=hp i f j hg (by rw [ht];exact hi);simp only [TJ,Instr.fill,hpl];have hsz:(ρ' x).cells.size=j.size:=by rw [hc1,e1,hs2]
    rw [Tc (by rw [hsz,hs,ho];simp;omega)];refine Zcp hT hf hρ places hp ps _ _ ?_ ?_ h
    ·rw [X5,← hs];rw [Zol];exact Zdb vs f.offset (ρ' x).cells.toList 0 vs
    ·intro k y u hy hu
     rw [VL] at hy;have hu':(((ρ' x).cells.toList.zipIdx 0).foldl (fun cs (p:Value×Nat)=>cs.setIfInBounds (f.offset+p.2) p.1) vs)[k]?=some u:=by
      rw [← Zol];exact hu
     rw [Zeg] at hu';simp only [Sa,Sf] at hu'
     by_cases hin:o≤k∧k<o+l.length∧k<cs.length
     ·rw [Tf hin] at hy;rw [Tf ⟨by omega,by omega,by omega⟩,ho] at hu';exact hc2 (k - o) y u hy (by simpa using hu')
     ·rw [Tc hin] at hy;rw [Tc (by omega)] at hu';exact hr k y u hy hu'
   ·exact h.elim
  ·exact h.elim
theorem ZAv {rows:List (List D)} {v:Value} (h:DRel (okc e σ) w (.sl rows) v) {n:Nat} {r:List D} (hr:rows[n]?=some r) :
  ∃(b off cap:Nat) (u:Nat→Value),v=.slice (some ⟨b,off,none⟩) rows.length cap∧n<rows.length∧(∀j,j<r.length→w.cell? ⟨b,off+n * r.length+j,none⟩=some (u j))∧(∀j,j<r.length→okc e σ b (off+n * r.length+j)) ∧
   ∀(j:Nat) (x:D),r[j]?=some x→DRel (okc e σ) w x (u j):=by
 cases h with
 | slnil=>simp at hr
 | slz a=>simp at hr
 | sl rows b off cap sz u hcap hsz hc ho hu =>
  have hn:=(Th.1 hr).1;have hlen:r.length=sz:=hsz r (T5 hr);refine ⟨b,off,cap,u n,rfl,hn,fun j hj=>?_,fun j hj=>?_,fun j x hx=>hu n j x (by rw [hr];exact hx)⟩
  ·rw [hlen] at hj ⊢;exact hc n j hn hj
  ·rw [hlen] at hj ⊢;exact ho n j hn hj
theorem Wx (P:Program) (k:IntKind) (n:Int) (w:World):(asIntOf (.int k n)).run P w=.ok (k,n) w:=rfl
theorem J4 (P:Program) (k:IntKind) (n:Int) (y:Nat) (c:BoundsCode) (w:World) (h0:0≤n) (h:n≤y):(Instr.sliceBound (.int k n) y c).run P w=.ok n.toNat w:=by
 simp [Instr.sliceBound,Wx,h0,h]
theorem ZaD {P:Program} {lo hi:Option PV} {vlo vhi:Option Value} (isS:Bool) {len cap:Nat} (hcap:len≤cap) (hlo:∀v,vlo=some v→∃x,lo=some x∧VRel G e σ w x v) (hlo':vlo=none→lo=none)
  (hhi:∀v,vhi=some v→∃x,hi=some x∧VRel G e σ w x v) (hhi':vhi=none→hi=none) {K:Nat→Nat→Prop} (h:UN lo hi len K) :
  ∃l u,K l u∧l≤u∧u≤len∧(Instr.sliceBounds isS len cap vlo vhi none).run P w=.ok (l,u,cap) w:=by
 unfold UN at h
 cases vlo with
 | none =>
  rw [hlo' rfl] at h
  cases vhi with
  | none =>
   rw [hhi' rfl] at h;exact ⟨0,len,h,T3 _,Tq _,by simp [Instr.sliceBounds]⟩
  | some v =>
   obtain ⟨x,hx,hr⟩:=hhi v rfl;rw [hx] at h;simp only at h;split at h
   ·cases hr.dint
    refine ⟨0,_,h.2.2,T3 _,by omega,?_⟩;simp only [Instr.sliceBounds,Sem.run_bind,Sem.run_pure,Result.andThen];rw [J4 P _ _ cap _ w h.1 (by omega)]
   ·exact h.elim
 | some v =>
  obtain ⟨x,hx,hr⟩:=hlo v rfl;rw [hx] at h
  cases vhi with
  | none =>
   rw [hhi' rfl] at h;simp only at h;split at h
   ·cases hr.dint
    refine ⟨_,len,h.2.2,by omega,Tq _,?_⟩;simp only [Instr.sliceBounds,Sem.run_bind,Sem.run_pure,Result.andThen];rw [J4 P _ _ len _ w h.1 h.2.1]
   ·exact h.elim
  | some v2 =>
   obtain ⟨y,hy,hr2⟩:=hhi v2 rfl;rw [hy] at h;simp only at h;split at h
   ·cases hr.dint;cases hr2.dint
    refine ⟨_,_,h.2.2.2,by omega,by omega,?_⟩;simp only [Instr.sliceBounds,Sem.run_bind,Sem.run_pure,Result.andThen];rw [J4 P _ _ cap _ w (by omega) (by omega)];simp only [];rw [J4 P _ _ _ _ w h.1 (by omega)]
   ·exact h.elim
end
end Go.PM
end

section
namespace Go.PM
section
variable {G:GE} {e:Env} {σ:St} {w:World} {T:Tab}
theorem KindOK.slice {P:Program} {e:Nat} {d:TypeDesc} (h:KindOK P (.slice e) d):d=.slice e:=h
theorem Zrb {rows:List (List D)} {v:Value} {a b sz:Nat} (h:DRel (okc e σ) w (.sl rows) v) (hsz:∀r∈rows,r.length=sz) (hab:a≤b) (hb:b≤rows.length) :
  ∃ad cap,v=.slice ad rows.length cap∧rows.length≤cap∧DRel (okc e σ) w (.sl (cut rows a b)) (.slice (if cap=a then ad else ad.map (·.add (a * sz))) (b - a) (cap - a)):=by
 have hlen:(cut rows a b).length=b - a:=by simp [cut];omega
 cases h with
 | slnil =>
  refine ⟨none,0,rfl,Tq _,?_⟩;have h1:b=0:=by simpa using hb
  have h2:a=0:=by omega
  subst h1;subst h2;exact .slnil
 | slz ad =>
  refine ⟨some ad,0,rfl,Tq _,?_⟩;have h1:b=0:=by simpa using hb
  have h2:a=0:=by omega
  subst h1;subst h2;exact .slz ad
 | sl rows bk off cap sz' u hcap hsz' hc ho hu =>
  refine ⟨some ⟨bk,off,none⟩,cap,rfl,hcap,?_⟩
  by_cases hr:rows=[]
  ·subst hr;have h1:b=0:=by simpa using hb
   have h2:a=0:=by omega
   subst h1;subst h2;have hh:DRel (okc e σ) w (.sl (cut ([]:List (List D)) 0 0)) (.slice (some ⟨bk,off,none⟩) ([]:List (List D)).length cap):=.sl [] bk off cap sz' u (T3 _) (fun r h=>by cases h) (fun i j h=>by cases h) (fun i j h=>by cases h) (fun i j x h=>by simp at h);split
   ·exact hh
   ·simpa [Yf] using hh
  ·have hss:sz'=sz:=by
    cases rows with
    | nil=>exact absurd rfl hr
    | cons r l=>rw [← hsz' r (by simp),hsz r (by simp)]
   subst hss;have hg:∀i,i<b - a→(cut rows a b)[i]?=rows[a+i]?:=fun i hi=>by
    simp only [cut,Sv,List.getElem?_take];rw [Tf (by omega)]
   have main:DRel (okc e σ) w (.sl (cut rows a b)) (.slice (some ⟨bk,off+a * sz',none⟩) (cut rows a b).length (cap - a)):=by
    refine .sl _ bk (off+a * sz') (cap - a) sz' (fun i j=>u (a+i) j) (by rw [hlen];omega) (fun r hr=>hsz' r (List.mem_of_mem_take (List.mem_of_mem_drop hr))) ?_ ?_ ?_
    ·intro i j hi hj
     rw [hlen] at hi;have:=hc (a+i) j (by omega) hj;rw [Sd] at this
     rwa [show off+a * sz'+i * sz'+j=off+(a * sz'+i * sz')+j by omega]
    ·intro i j hi hj
     rw [hlen] at hi;have:=ho (a+i) j (by omega) hj;rw [Sd] at this
     rwa [show off+a * sz'+i * sz'+j=off+(a * sz'+i * sz')+j by omega]
    ·intro i j x hx
     by_cases hi:i<b - a
     ·rw [hg i hi] at hx;exact hu (a+i) j x hx
     ·rw [Sg (by rw [hlen];omega)] at hx;cases hx
   rw [hlen] at main;split
   ·rename_i hca
    have hba:b=a:=by omega
    subst hba;have:cut rows b b=[]:=by simp [cut]
    rw [this,Nat.sub_self];exact .sl [] bk off (cap - b) sz' u (T3 _) (fun r h=>by cases h) (fun i j h=>by cases h) (fun i j h=>by cases h) (fun i j x h=>by simp at h)
   ·simpa [Yf] using main
theorem JA {ρ:Operand→PV} {ρ':Operand→Value} (hρ:∀x,VRel G e σ w (ρ x) (ρ' x)) (lo:Option Operand):(∀v,lo.map ρ'=some v→∃x,lo.map ρ=some x∧VRel G e σ w x v)∧(lo.map ρ'=none→lo.map ρ=none):=by
 cases lo with
 | none=>exact ⟨fun v h=>by simp at h,fun _=>rfl⟩
 | some x=>exact ⟨fun v h=>by simp at h;subst h;exact ⟨ρ x,rfl,hρ x⟩,fun h=>by simp at h⟩
theorem Zj8 (hT:TabOK T G.P) {K:PV→Prop} {t:TypeId} {px:PV} {vx:Value} (hx:VRel G e σ w px vx) {ρ:Operand→PV} {ρ':Operand→Value} (hρ:∀x,VRel G e σ w (ρ x) (ρ' x)) {lo hi:Option Operand}
  (h:Zaz T t px (lo.map ρ) (hi.map ρ) K):∃pv u,K pv∧VRel G e σ w pv u∧(Instr.sliceAt t vx (lo.map ρ') (hi.map ρ') none).run G.P w=.ok u w:=by
 unfold Zaz at h
 split at h
 ·rename_i hk
  obtain ⟨i,d,z,hi',hd,hs,hby,hkd,hz,hz2,_⟩:=(hT.get (t:=t) (by rw [hk];simp)).ex;rw [hk] at hkd;cases hkd;split at h
  ·rename_i s
   cases hx.dstr
   obtain ⟨l,u,hK,hlu,hul,hrun⟩:=ZaD (G:=G) (e:=e) (σ:=σ) (w:=w) (P:=G.P) false (Tq s.length) (JA hρ lo).1 (JA hρ lo).2 (JA hρ hi).1 (JA hρ hi).2 h;refine ⟨_,_,hK,.mkstr,?_⟩;have hsz:(⟨s.toArray⟩:ByteArray).size=s.length:=rfl;simp only [Instr.sliceAt,Instr.slice,Sem.run_bind,Zc hd,Result.andThen,Option.isSome_none,Tr,if_false,hsz,hrun,Sem.run_pure]
   congr 2
   apply ByteArray.ext
   apply Array.ext'
   simp [cut,ByteArray.data_extract,List.drop_take]
  ·exact h.elim
 ·rename_i el hk
  split at h
  ·exact h.elim
  ·rename_i hk2
   split at h
   ·rename_i rows hrows
    obtain ⟨i,d,z,hi',hd,hs,hby,hkd,hz,hz2,_⟩:=(hT.get (t:=t) (by rw [hk];simp)).ex;rw [hk] at hkd;cases hkd;have hD:=UR hrows hx;obtain ⟨hsz,h⟩:=h;obtain ⟨ad,cap,rfl,hcap⟩:=hD.sl_inv;obtain ⟨l,u,hK,hlu,hul,hrun⟩:=ZaD (G:=G) (e:=e) (σ:=σ) (w:=w) (P:=G.P) true hcap (JA hρ lo).1 (JA hρ lo).2 (JA hρ hi).1 (JA hρ hi).2 h;obtain ⟨ad',cap',hv,_,hR⟩:=Zrb hD hsz hlu hul
    cases hv
    obtain ⟨i2,d2,z2,hi2,hd2,hs2,_,_,_,_,_⟩:=(hT.get (t:=el) (fun h0=>hk2 h0)).ex;refine ⟨_,_,hK,.d _ _ hR,?_⟩;simp only [Instr.sliceAt,Instr.slice,Sem.run_bind,Zc hd,Result.andThen,hrun,ZB hi2,Sem.run_pure,hs2]
   ·exact h.elim
 ·rename_i n el hk
  split at h
  ·exact h.elim
  ·rename_i hk2
   obtain ⟨i2,d2,z2,hi2,hd2,hs2,_,_,_,_,_⟩:=(hT.get (t:=el) (fun h0=>hk2 h0)).ex;obtain ⟨i,d,z,hi',hd,hs,hby,hkd,hz,hz2,_⟩:=(hT.get (t:=t) (by rw [hk];simp)).ex;rw [hk] at hkd;cases hkd;split at h
   ·rename_i b off hlo hhi
    cases hx with
    | ptr _ _ hb =>
     have e1:lo=none:=by cases lo <;> simp_all
     have e2:hi=none:=by cases hi <;> simp_all
     subst e1;subst e2;refine ⟨_,_,h,.asl b off n hb,?_⟩;simp only [Instr.sliceAt,Instr.sureAddr,Instr.sliceBounds,Option.map_none,Sem.run_bind,Zc hd,Result.andThen,Sem.run_pure,ZB hi2]
     by_cases hn:n=0
     ·subst hn;simp
     ·simp [hn,Yf]
   ·rename_i b off kk a hlo hhi
    obtain ⟨ha0,han,hK⟩:=h
    cases hx with
    | ptr _ _ hb =>
     have e2:hi=none:=by cases hi <;> simp_all
     subst e2
     cases lo with
     | none=>simp at hlo
     | some x0 =>
      have hx0:=hρ x0;simp only [Ss,Option.some.injEq] at hlo;rw [hlo] at hx0;refine ⟨_,_,hK,.asl b _ _ hb,?_⟩;have hle:a≤(n:Int):=by omega
      have hne:¬n=a.toNat:=by omega
      simp [Instr.sliceAt,Instr.sureAddr,Instr.sliceBounds,Instr.sliceBound,asIntOf,hx0.dint,Sem.run_bind,Zc hd,Result.andThen,Sem.run_pure,ZB hi2,ha0,hle,hne,hs2,Yf]
   ·exact h.elim
 ·exact h.elim
theorem ZaU:∀(l acc:List UInt8),(l.map (fun b:UInt8=>(b.toNat:Int))).foldl (fun r n=>r.push (UInt8.ofNat n.toNat)) (⟨acc.toArray⟩:ByteArray)=⟨(acc++l).toArray⟩
 | [],acc=>by simp
 | b::l,acc=>by
  simp only [TJ,List.foldl_cons,Tj,UInt8.ofNat_toNat];have:(⟨acc.toArray⟩:ByteArray).push b=⟨(acc++[b]).toArray⟩:=by
   apply ByteArray.ext;simp [ByteArray.push]
  rw [this,ZaU l (acc++[b])];simp
theorem Zj9 {l:List UInt8} {v:Value} (h:DRel (okc e σ) w (.sl (l.map (fun b=>[.int .u8 b.toNat]))) v):(Conv.bytesToString v).run G.P w=.ok (.string ⟨l.toArray⟩) w:=by
 generalize hr:l.map (fun b:UInt8=>[D.int .u8 b.toNat])=rows at h
 cases h with
 | slnil =>
  have:l=[]:=by simpa using hr
  subst this;rfl
 | slz ad =>
  have:l=[]:=by simpa using hr
  subst this;exact run_bytesToString (P:=G.P) w ad 0 0 [] (run_loadCells_list (P:=G.P) w ad [] (fun j x hx=>by simp at hx))
 | sl rows b off cap sz u hcap hsz hc ho hu =>
  subst hr;have hl:=run_bytesToString (P:=G.P) w ⟨b,off,none⟩ (l.map (fun b=>[D.int .u8 b.toNat])).length cap (l.map (fun b:UInt8=>(b.toNat:Int))) ?_
  ·rw [hl]
   congr 2
   exact (ZaU l []).trans (by simp)
  ·have:=run_loadCells_list (P:=G.P) w ⟨b,off,none⟩ ((l.map (fun b:UInt8=>(b.toNat:Int))).map (Value.int .u8)) (fun j x hx=>?_)
   ·simpa using this
   ·rw [Yf];simp only [List.map_map,TL] at hx
    cases hj:l[j]? with
    | none=>rw [hj] at hx;cases hx
    | some y =>
     rw [hj] at hx
     cases hx
     have hjl:=(Th.1 hj).1;have h1:(l.map (fun b:UInt8=>[D.int .u8 b.toNat]))[j]?=some [.int .u8 y.toNat]:=by rw [TL,hj];rfl
     have hs1:sz=1:=(hsz _ (T5 h1)).symm;subst hs1;have h2:=hc j 0 (by simpa using hjl) (by omega);have h3:=hu j 0 (.int .u8 y.toNat) (by rw [h1];rfl)
     cases h3v:u j 0 <;> rw [h3v] at h3 <;> cases h3
     rw [h3v] at h2;simpa using h2
theorem Zib {α:Type}:∀{n:Nat} {l r:List α},Jt n l=some r→∀(j:Nat) (x:α),r[j]?=some x→l[j]?=some x
 | 0,l,r,h,j,x,hx=>by simp only [Jt] at h;cases h;simp at hx
 | n+1,[],r,h,j,x,hx=>by simp [Jt] at h
 | n+1,y::l,r,h,j,x,hx=>by
  simp only [Jt] at h;split at h
  ·rename_i r' hr'
   cases h
   cases j with
   | zero=>simpa using hx
   | succ j=>simp only [T1] at hx ⊢;exact Zib hr' j x hx
  ·cases h
theorem Zom {b off n:Nat} {tb:TypeId} {cs:List PV} {l:List UInt8} (hb:BRel G e σ w (.cells tb cs) (e.β b)) (htk:Jt n (cs.drop off)=some (l.map fun b=>.d (.int .u8 b.toNat))) (hln:l.length=n) :
  (Conv.bytesToString (.slice (some ⟨e.β b,off,none⟩) n n)).run G.P w=.ok (.string ⟨l.toArray⟩) w:=by
 obtain ⟨vs,hv1,hv2,hv3⟩:=hb;have hl:=run_bytesToString (P:=G.P) w ⟨e.β b,off,none⟩ n n (l.map (fun b:UInt8=>(b.toNat:Int))) ?_
 ·rw [hl]
  congr 2
  exact (ZaU l []).trans (by simp)
 ·have:=run_loadCells_list (P:=G.P) w ⟨e.β b,off,none⟩ ((l.map (fun b:UInt8=>(b.toNat:Int))).map (Value.int .u8)) (fun j x hx=>?_)
  ·rw [← hln];simpa using this
  ·rw [Yf];simp only [List.map_map,TL] at hx
   cases hj:l[j]? with
   | none=>rw [hj] at hx;cases hx
   | some y =>
    rw [hj] at hx
    cases hx
    have h1:=Zib htk j (.d (.int .u8 y.toNat)) (by rw [TL,hj];rfl);rw [Sv] at h1;have hlt:off+j<vs.size:=by
     have:=(Th.1 h1).1;rw [hv2];exact this
    have hvj:=TA hlt;have h2:=(hv3 (off+j) _ _ h1 hvj).1;have h3:=h2.dint;simp only [World.cell?,hv1,hvj,h3];rfl
theorem Zon (hT:TabOK T G.P) (hS:SRel G e σ w) {K:PV→Prop} {ρ:Operand→PV} {ρ':Operand→Value} (hρ:∀x,VRel G e σ w (ρ x) (ρ' x)) (o:Oper) (h:qop T o.op o.type ρ σ.bx K) :
  ∃pv v,K pv∧VRel G e σ w pv v∧(execOp ρ' o).run G.P w=.ok (.value v) w:=by
 have mv:∀x:Operand,(match ρ x with
  | .nils _=>match (T.get o.type).kind with | .slice e=>K (.nils e) | _=>K (.nils 0)
  | v=>K v)→∃pv,K pv∧VRel G e σ w pv (ρ' x):=by
  intro x hx
  have hr:=hρ x;split at hx
  ·rename_i el heq
   rw [heq] at hr;generalize ρ' x=v at hr ⊢
   cases hr
   split at hx
   ·exact ⟨_,hx,.nils _⟩
   ·exact ⟨_,hx,.nils _⟩
  ·exact ⟨_,hx,hr⟩
 unfold execOp
 unfold qop at h
 split at h
 ·rename_i x ho
  obtain ⟨pv,hK,hr⟩:=mv x h;exact ⟨pv,_,hK,hr,by simp only [ho,Sem.run_pure]⟩
 ·rename_i x ho
  obtain ⟨pv,hK,hr⟩:=mv x h;exact ⟨pv,_,hK,hr,by simp only [ho,Sem.run_pure]⟩
 ·rename_i c a b ho
  have hc:=hρ c;split at h
  ·rename_i t heq
   rw [heq] at hc;have hcb:=hc.dbool
   cases t with
   | true=>exact ⟨_,_,h,hρ a,by simp [ho,hcb,asBool]⟩
   | false=>exact ⟨_,_,h,hρ b,by simp [ho,hcb,asBool]⟩
  ·exact h.elim
 ·rename_i t ps ho
  split at h
  ·rename_i fs hk
   obtain ⟨i,d,z,hi,hd,hs,hby,hkd,hz,hz2,_⟩:=(hT.get (t:=t) (by rw [hk];simp)).ex;rw [hk] at hkd;obtain ⟨gs,rfl,hf⟩:=hkd;obtain ⟨hzl,hzr⟩:=Vo (G:=G) (e:=e) (σ:=σ) (w:=w) hz2;have hplaces:∀(l:List Field) (m:List (Nat×Nat)),FieldsOK G.P m l→∃pl:List (Nat×Nat),(l.mapM fun f=>(do pure (f.offset,← sizeOf f.type):Sem (Nat×Nat))).run G.P w=.ok pl w∧∀(i:Nat) (f:Field) (j:TypeInfo),l[i]?=some f→G.P.info? f.type=some j→pl[i]?=some (f.offset,j.size):=by
    intro l m hm
    induction hm with
    | nil=>exact ⟨[],rfl,fun i f j h=>by simp at h⟩
    | cons o t l f m i' ho ht hi' hs' _ ih =>
     obtain ⟨pl,h1,h2⟩:=ih;have hft:G.P.info? f.type=some i':=by rw [ht];exact hi'
     refine ⟨(f.offset,i'.size)::pl,?_,fun k g j hg hj=>?_⟩
     ·simp only [List.mapM_cons,Sem.run_bind,ZB hft,Result.andThen,Sem.run_pure,h1]
     ·cases k with
      | zero=>simp at hg;subst hg;rw [hft] at hj;cases hj;rfl
      | succ k=>simpa using h2 k g j (by simpa using hg) hj
   obtain ⟨pl,hpl1,hpl2⟩:=hplaces gs.toList fs hf;obtain ⟨cs',vs',hK,hfill,hs',hr'⟩:=Zcp hT hf hρ (fun i=>pl[i]?) hpl2 ps.toList (T.get t).zero z.cells (by simpa using hzl) (fun i x u hx hu=>hzr i x u hx (by simpa using hu)) h;refine ⟨_,_,hK,.agg _ vs' hs' (fun i x u hx hu=>(hr' i x u hx hu).1) (fun u hu=>?_),?_⟩
   ·exact m148
   ·have hm:(gs.mapM fun f=>(do pure (f.offset,← sizeOf f.type):Sem (Nat×Nat))).run G.P w=.ok pl.toArray w:=by
     rw [Array.mapM_eq_mapM_toList];simp only [Sem.run_map,hpl1,Result.andThen]
    simp only [ho,Instr.build,zeroValue,Sem.run_bind,Yt hi,Result.andThen,hz,Sem.run_pure,Zc hd];rw [hm];have hfill':Instr.fill (pl.toArray[·]?) z.cells ((ps.map fun p=>(p.1,ρ' p.2)).toList)=some vs':=by
     rw [← hfill];simp
    simp only [Result.andThen];exact m159
  ·rename_i n el hk
   obtain ⟨i,d,z,hi,hd,hs,hby,hkd,hz,hz2,_⟩:=(hT.get (t:=t) (by rw [hk];simp)).ex;rw [hk] at hkd
   cases hkd
   split at h
   ·exact h.elim
   ·rename_i hk2
    split at h
    ·rename_i hb1
     have hb1:=Ta hb1;obtain ⟨ie,de,ze,hie,hde,hse,_⟩:=(hT.get (t:=el) (fun h0=>hk2 h0)).ex;obtain ⟨hzl,hzr⟩:=Vo (G:=G) (e:=e) (σ:=σ) (w:=w) hz2;have hgs:∀m i0,FieldsOK G.P (ZtW (T.get el).size el m i0) ((List.range' i0 m).map fun k=>({ (default:Field) with type:=el,offset:=k * (T.get el).size }:Field)):=by
      intro m
      induction m with
      | zero=>exact fun _=>.nil
      | succ m ih=>exact fun i0=>.cons _ _ _ _ _ ie rfl rfl hie (by rw [hse];exact hb1) (ih (i0+1))
     have hpl:∀(i:Nat) (f:Field) (j:TypeInfo),((List.range' 0 n).map fun k=>({ (default:Field) with type:=el,offset:=k * (T.get el).size }:Field))[i]?=some f→G.P.info? f.type=some j→(fun i=>some (i * ie.size,ie.size)) i=some (f.offset,j.size):=by
      intro i f j hf hj
      have hil:i<n:=by have:=(Th.1 hf).1;simpa using this
      simp [List.getElem?_range',hil] at hf;subst hf;simp only at hj;rw [hie] at hj;cases hj;simp [hse]
     obtain ⟨cs',vs',hK,hfill,hs',hr'⟩:=Zcp hT (hgs n 0) hρ (fun i=>some (i * ie.size,ie.size)) hpl ps.toList (T.get t).zero z.cells (by simpa using hzl) (fun i x u hx hu=>hzr i x u hx (by simpa using hu)) h;refine ⟨_,_,hK,.agg _ vs' hs' (fun i x u hx hu=>(hr' i x u hx hu).1) (fun u hu=>?_),?_⟩
     ·exact m148
     ·simp only [ho,Instr.build,zeroValue,Sem.run_bind,Yt hi,Result.andThen,hz,Sem.run_pure,Zc hd,ZB hie];have hfill':Instr.fill (fun i=>some (i * ie.size,ie.size)) z.cells ((ps.map fun p=>(p.1,ρ' p.2)).toList)=some vs':=by
       rw [← hfill];simp
      exact m159
    ·exact h.elim
  ·exact h.elim
 ·rename_i t a ho
  obtain ⟨pv,u,hK,hr,hrun⟩:=Zgc hT hS (hρ a) h;exact ⟨pv,u,hK,hr,by simp only [ho,Sem.run_bind,hrun,Result.andThen,Sem.run_pure]⟩
 ·rename_i x ho
  have hx:=hρ x;split at h
  ·rename_i b off heq;rw [heq] at hx
   exact m132
  ·rename_i r off heq;rw [heq] at hx
   exact m132
  ·rename_i g a c heq;rw [heq] at hx
   exact m132
  ·exact h.elim
 ·rename_i op t x y yt ho
  obtain ⟨pv,u,hK,hr,hrun⟩:=ZmU hT (hρ x) (hρ y) h;exact ⟨pv,u,hK,hr,by simp only [ho];rw [Sem.run_bind,hrun];rfl⟩
 ·rename_i op t x ho
  have hx:=hρ x;split at h
  ·rename_i b heq;rw [heq] at hx
   exact ⟨_,_,h,.mkbool,by simp [ho,hx.dbool,Op.unary]⟩
  ·rename_i k a heq;rw [heq] at hx
   obtain ⟨pv,h1,h2⟩:=ZaT (G:=G) (e:=e) (σ:=σ) (w:=w) h;exact ⟨_,_,h1,h2,by simp [ho,hx.dint,Op.unary,Op.intArith]⟩
  ·rename_i k a heq;rw [heq] at hx
   exact ⟨_,_,h,.mkint,by simp [ho,hx.dint,Op.unary,Zbt]⟩
  ·exact h.elim
 ·rename_i s d x ho
  have hx:=hρ x;split at h
  ·exact h.elim
  ·rename_i el hk
   obtain ⟨i,ds,z,hi,hd,hs,hby,hkd,hz,hz2,_⟩:=(hT.get (t:=s) (by rw [hk];simp)).ex;rw [hk] at hkd;cases hkd;split at h
   ·rename_i hk2
    obtain ⟨i2,dd,z2,hi2,hd2,hs2,hby2,hkd2,hz2,hz22,_⟩:=(hT.get (t:=d) (by rw [hk2];simp)).ex;rw [hk2] at hkd2;cases hkd2;split at h
    ·rename_i hk3
     obtain ⟨i3,de,z3,hi3,hd3,hs3,hby3,hkd3,hz3,hz33,_⟩:=(hT.get (t:=el) (by rw [hk3];simp)).ex;rw [hk3] at hkd3;cases hkd3;split at h
     ·rename_i rows hrows
      obtain ⟨l,rfl,hK⟩:=h;have hD:=UR hrows hx;have hb:=Zj9 (G:=G) hD;refine ⟨_,_,hK,.mkstr,?_⟩;obtain ⟨a,cap,hv,_⟩:=hD.sl_inv;simp only [ho,convert,Sem.run_bind,Zc hd,Zc hd2,Result.andThen];rw [hv] at hb ⊢;simp only [Zc hd3,Sem.run_bind,Result.andThen,hb,Sem.run_pure]
     ·exact h.elim
    ·exact h.elim
   ·exact h.elim
  ·rename_i hk1 hk2
   obtain ⟨i,ds,z,hi,hd,hs,hby,hkd,hz,hz2,_⟩:=(hT.get (t:=s) (fun h0=>hk1 h0)).ex;split at h
   ·rename_i k hkk
    obtain ⟨i2,dd,z2,hi2,hd2,hs2,hby2,hkd2,hz2,hz22,_⟩:=(hT.get (t:=d) (by rw [hkk];simp)).ex;rw [hkk] at hkd2;cases hkd2;split at h
    ·rename_i k' n heq;rw [heq] at hx
     obtain ⟨pv,h1,h2⟩:=ZaT (G:=G) (e:=e) (σ:=σ) (w:=w) h;refine ⟨_,_,h1,h2,?_⟩;simp only [ho,hx.dint,convert,Sem.run_bind,Zc hd,Zc hd2,Result.andThen];rfl
    ·exact h.elim
   ·rename_i hkk
    obtain ⟨i2,dd,z2,hi2,hd2,hs2,hby2,hkd2,hz2,hz22,_⟩:=(hT.get (t:=d) (by rw [hkk];simp)).ex;rw [hkk] at hkd2;cases hkd2;split at h
    ·rename_i s' heq;rw [heq] at hx
     refine ⟨_,_,h,.mkstr,?_⟩;simp only [ho,hx.dstr,convert,Sem.run_bind,Zc hd,Zc hd2,Result.andThen];rfl
    ·rename_i k' n heq;rw [heq] at hx
     refine ⟨_,_,h,.mkstr,?_⟩;simp only [ho,hx.dint,convert,Sem.run_bind,Zc hd,Zc hd2,Result.andThen];simp [Conv.intToString]
    ·exact h.elim
   ·exact h.elim
 ·rename_i s x i ho
  have hx:=hρ x;split at h
  ·rename_i fs hk
   obtain ⟨ti,d,z,hi,hd,hs,hby,hkd,hz,hz2,_⟩:=(hT.get (t:=s) (by rw [hk];simp)).ex;rw [hk] at hkd;obtain ⟨gs,rfl,hf⟩:=hkd;split at h
   ·rename_i off t hfi
    obtain ⟨f,j,hg,ho',ht,hj,hjs⟩:=hf.get hfi;have hg':gs[i]?=some f:=by simpa using hg
    have hfp:∀(b oo:Nat),(fieldPlace ⟨b,oo,none⟩ f).run G.P w=.ok ⟨b,oo+off,none⟩ w:=fun b oo=>by
     exact m157
    split at h
    ·rename_i b oo heq;rw [heq] at hx
     generalize hv:ρ' x=v at hx
     cases hx with
     | ptr b oo hb =>
      refine ⟨_,_,h,.ptr b (oo+off) hb,?_⟩;simp [ho,hv,Instr.fieldAt,Zc hd,hg',Instr.sureAddr,hfp]
    ·rename_i r oo heq;rw [heq] at hx
     generalize hv:ρ' x=v at hx
     cases hx with
     | elem r oo b o2 u hc hok hu =>
      refine ⟨_,_,h,.elem r (oo+off) b o2 u hc hok hu,?_⟩;simp [ho,hv,Instr.fieldAt,Zc hd,hg',Instr.sureAddr,hfp,Sb]
    ·exact h.elim
   ·exact h.elim
  ·exact h.elim
 ·rename_i s x i ho
  have hx:=hρ x;split at h
  ·rename_i fs hk
   obtain ⟨ti,d,z,hi,hd,hs,hby,hkd,hz,hz2,_⟩:=(hT.get (t:=s) (by rw [hk];simp)).ex;rw [hk] at hkd;obtain ⟨gs,rfl,hf⟩:=hkd;split at h
   ·rename_i off t hfi
    obtain ⟨f,j,hg,ho',ht,hj,hjs⟩:=hf.get hfi;have hg':gs[i]?=some f:=by simpa using hg
    split at h
    ·rename_i cs heq;rw [heq] at hx
     generalize hv:ρ' x=v at hx
     cases hx with
     | agg cs vs hsz hr h1 =>
      split at h
      ·rename_i hka
       obtain ⟨i2,d2,z2,hi2,hd2,hs2,_,hkd2,_,_,_⟩:=(hT.get (t:=t) (by intro h0;rw [h0] at hka;cases hka)).ex;split at h
       ·rename_i l hl
        obtain ⟨hll,hlg⟩:=Ul hl;have hb:∀k,k<l.length→off+k<vs.size∧cs[off+k]?=l[k]?:=fun k hk=>by
         exact m168
        refine ⟨_,.agg (vs.extract off (off+j.size)),h,.agg l _ ?_ ?_ ?_,?_⟩
        ·have hj2:j.size=l.length:=by rw [hj] at hi2;cases hi2;omega
         simp only [Array.size_extract,hj2]
         by_cases hl0:l.length=0
         ·omega
         ·have:=(hb (l.length - 1) (by omega)).1;omega
        ·intro k y u hy hu
         exact m146
        ·intro u hu
         exact m177
        ·have hia:=J3 hkd2 hd2 w;rw [hka] at hia;subst ht;simp [ho,hv,Instr.field,Zc hd,hg',asAgg,part,hia,ZB hj,ho']
       ·exact h.elim
      ·rename_i hka
       split at h
       ·exact h.elim
       ·rename_i hk2
        obtain ⟨i2,d2,z2,hi2,hd2,hs2,_,hkd2,_,_,_⟩:=(hT.get (t:=t) (fun h0=>hk2 h0)).ex;split at h
        ·rename_i y hy
         have hlt:off<vs.size:=by rw [hsz];exact (Th.1 hy).1
         have hvo:vs[off]?=some vs[off]:=TA hlt;have hia:=J3 hkd2 hd2 w;rw [hka] at hia;subst ht;exact ⟨_,vs[off],h,hr off y _ hy hvo,by simp [ho,hv,Instr.field,Zc hd,hg',asAgg,part,hia,ho',hvo]⟩
        ·exact h.elim
    ·exact h.elim
   ·exact h.elim
  ·exact h.elim
 ·rename_i t x i ho
  have hx:=hρ x;have hi:=hρ i;split at h
  ·rename_i k n heq;rw [heq] at hi
   have hiv:=hi.dint;split at h
   ·rename_i hk
    obtain ⟨ti,d,z,hti,hd,hs,hby,hkd,hz,hz2,_⟩:=(hT.get (t:=t) (by rw [hk];simp)).ex;rw [hk] at hkd;cases hkd;split at h
    ·rename_i s heq2;rw [heq2] at hx
     have hxv:=hx.dstr;obtain ⟨h0,h1,hK⟩:=h;have hlt:n.toNat<s.length:=by omega
     have hb:(⟨s.toArray⟩:ByteArray)[n.toNat]?=some (s[n.toNat]):=by
      rw [getElem?_pos (h:=(by show n.toNat<s.length;exact hlt))];rfl
     refine ⟨_,_,hK,.mkint,?_⟩;simp [ho,hxv,hiv,Instr.index,Wx,Zc hd,h0,hb,List.getD,Tg hlt]
    ·exact h.elim
   ·rename_i m el hk
    obtain ⟨ti,d,z,hti,hd,hs,hby,hkd,hz,hz2,_⟩:=(hT.get (t:=t) (by rw [hk];simp)).ex;rw [hk] at hkd;cases hkd;split at h
    ·rename_i cs heq2;rw [heq2] at hx
     generalize hv:ρ' x=v at hx
     cases hx with
     | agg cs vs hsz hr h1 =>
      split at h
      ·rename_i hka
       obtain ⟨i2,d2,z2,hi2,hd2,hs2,_,hkd2,_,_,_⟩:=(hT.get (t:=el) (by intro h0;rw [h0] at hka;cases hka)).ex;split at h
       ·rename_i l hl
        obtain ⟨g0,g1,h⟩:=h;obtain ⟨hll,hlg⟩:=Ul hl;obtain ⟨off,hoff⟩:∃off,off=n.toNat * (T.get el).size:=⟨_,rfl⟩
        rw [← hoff] at hlg;have hb:∀k,k<l.length→off+k<vs.size∧cs[off+k]?=l[k]?:=fun k hk=>by
         exact m168
        refine ⟨_,.agg (vs.extract off (off+i2.size)),h,.agg l _ ?_ ?_ ?_,?_⟩
        ·have hj2:i2.size=l.length:=by omega
         simp only [Array.size_extract,hj2]
         by_cases hl0:l.length=0
         ·have:=hs2;have hsz1:1≤l.length∨l.length=0:=by omega
          have hle:off≤vs.size∨vs.size<off:=by omega
          omega
         ·have:=(hb (l.length - 1) (by omega)).1;omega
        ·intro k y u hy hu
         exact m146
        ·intro u hu
         exact m177
        ·have hia:=J3 hkd2 hd2 w;rw [hka] at hia;simp [ho,hv,hiv,Instr.index,Wx,Zc hd,g0,g1,part,hia,ZB hi2,hoff,hs2]
       ·exact h.elim
      ·rename_i hka
       split at h
       ·exact h.elim
       ·rename_i hk2
        obtain ⟨i2,d2,z2,hi2,hd2,hs2,_,hkd2,_,_,_⟩:=(hT.get (t:=el) (fun h0=>hk2 h0)).ex;split at h
        ·rename_i hsz1
         have hs1:=Tm hsz1;split at h
         ·rename_i y hy
          obtain ⟨h0,hm,hK⟩:=h;have hlt:n.toNat<vs.size:=by rw [hsz];exact (Th.1 hy).1
          have hvo:vs[n.toNat]?=some vs[n.toNat]:=TA hlt;have hia:=J3 hkd2 hd2 w;rw [hka] at hia;have hi1:i2.size=1:=by omega
          exact ⟨_,vs[n.toNat],hK,hr n.toNat y _ hy hvo,by simp [ho,hv,hiv,Instr.index,Wx,Zc hd,h0,hm,part,hia,ZB hi2,hi1,hvo]⟩
         ·exact h.elim
        ·exact h.elim
    ·exact h.elim
   ·exact h.elim
  ·exact h.elim
 ·rename_i t x i ho
  have hx:=hρ x;have hi:=hρ i;split at h
  ·rename_i k n heq;rw [heq] at hi
   have hiv:=hi.dint;split at h
   ·rename_i el hk
    obtain ⟨ti,d,z,hti,hd,hs,hby,hkd,hz,hz2,_⟩:=(hT.get (t:=t) (by rw [hk];simp)).ex;rw [hk] at hkd;cases hkd;split at h
    ·exact h.elim
    ·rename_i hk2
     obtain ⟨i2,d2,z2,hi2,hd2,hs2,_,hkd2,_,_,_⟩:=(hT.get (t:=el) (fun h0=>hk2 h0)).ex;split at h
     ·rename_i b off m heqx
      obtain ⟨h0,hn',hK⟩:=h;rw [heqx] at hx;generalize hv:ρ' x=vx at hx
      cases hx with
      | asl _ _ _ hb =>
       refine ⟨_,_,hK,.ptr b (off+n.toNat * (T.get el).size) hb,?_⟩;simp [ho,hv,hiv,Instr.indexAt,Wx,Zc hd,h0,hn',ZB hi2,Yf,hs2]
     split at h
     ·rename_i rows hrows
      obtain ⟨r,h0,hr,hK⟩:=h;split at hK
      ·rename_i hlen
       have hl:=Tm hlen;obtain ⟨b,off,cap,u,hv,hn,hc,hok,hu⟩:=ZAv (UR hrows hx) hr;refine ⟨_,_,hK,.elem r 0 b (off+n.toNat * r.length) u hc hok hu,?_⟩;have hn':n<(rows.length:Int):=by omega
       simp [ho,hv,hiv,Instr.indexAt,Wx,Zc hd,h0,hn',ZB hi2,Yf,hs2,hl]
      ·exact hK.elim
     ·exact h.elim
   ·rename_i m el hk
    obtain ⟨ti,d,z,hti,hd,hs,hby,hkd,hz,hz2,_⟩:=(hT.get (t:=t) (by rw [hk];simp)).ex;rw [hk] at hkd;cases hkd;split at h
    ·exact h.elim
    ·rename_i hk2
     obtain ⟨i2,d2,z2,hi2,hd2,hs2,_,hkd2,_,_,_⟩:=(hT.get (t:=el) (fun h0=>hk2 h0)).ex;split at h
     ·rename_i b off heqx
      obtain ⟨h0,hn',hK⟩:=h;rw [heqx] at hx;generalize hv:ρ' x=vx at hx
      cases hx with
      | ptr _ _ hb =>
       refine ⟨_,_,hK,.ptr b (off+n.toNat * (T.get el).size) hb,?_⟩;simp [ho,hv,hiv,Instr.indexAt,Instr.sureAddr,Wx,Zc hd,h0,hn',ZB hi2,Yf,hs2]
     ·exact h.elim
   ·exact h.elim
  ·exact h.elim
 ·rename_i t x lo hi ho
  obtain ⟨pv,u,hK,hr,hrun⟩:=Zj8 hT (hρ x) hρ h;exact ⟨pv,u,hK,hr,by simp only [ho,Option.map_none,Sem.run_bind,hrun,Result.andThen,Sem.run_pure]⟩
 ·rename_i x i ho
  have hx:=hρ x;split at h
  ·rename_i cs heq;rw [heq] at hx
   generalize hv:ρ' x=v at hx
   cases hx with
   | tuple cs vs hsz hr =>
    split at h
    ·rename_i y hy
     have hlt:i<vs.size:=by rw [hsz];exact (Th.1 hy).1
     have hvo:vs[i]?=some vs[i]:=TA hlt;exact ⟨_,vs[i],h,hr i y _ hy hvo,by simp [ho,hv,Instr.extract,hvo]⟩
    ·exact h.elim
  ·exact h.elim
 ·rename_i g a c ho
  refine ⟨_,_,h,.func g _ _ (a.map ρ') (c.map ρ') (by simp) (by simp) ?_ ?_,by simp [ho,Instr.makeFunc]⟩
  ·intro i x u hx hu
   rw [TL] at hx;rw [Array.getElem?_map] at hu
   cases hq:a[i]? with
   | none=>rw [hq] at hu;cases hu
   | some q =>
    exact m174
  ·intro i x u hx hu
   rw [TL] at hx;rw [Array.getElem?_map] at hu
   cases hq:c[i]? with
   | none=>rw [hq] at hu;cases hu
   | some q =>
    exact m174
 ·rename_i t x ho
  split at h
  ·exact h.elim
  ·exact h.elim
  ·rename_i hk1 hk2
   obtain ⟨ti,d,z,hti,hd,hs,hby,hkd,hz,hz2,_⟩:=(hT.get (t:=t) (fun h0=>hk2 h0)).ex;refine ⟨_,_,h,.iface t _ _ (hρ x),?_⟩;have:∀ms,d≠.interface ms:=fun ms h0=>by
    exact m119
   simp only [ho,Instr.makeInterface,Sem.run_bind,Zc hd,Result.andThen]
   cases d <;> first | rfl | exact absurd rfl (this _)
 ·rename_i x xt t ho
  split at h
  ·exact h.elim
  ·exact h.elim
  ·rename_i hk1 hk2
   obtain ⟨ti,d,z,hti,hd,hs,hby,hkd,hz,hz2,_⟩:=(hT.get (t:=t) (fun h0=>hk2 h0)).ex;have this:∀ms,d≠.interface ms:=fun ms h0=>by
    exact m119
   have hx:=hρ x;split at h
   ·rename_i t' pv heq
    split at h
    ·rename_i hb
     cases Tm hb
     rw [heq] at hx;generalize hv:ρ' x=vv at hx
     cases hx with
     | iface _ _ u hu =>
      refine ⟨_,.tuple #[u,.bool true],h,.tuple _ _ rfl (fun i p q hp hq=>?_),?_⟩
      ·match i with
       | 0=>cases hp;cases hq;exact hu
       | 1=>cases hp;cases hq;exact .mkbool
       | n+2=>simp at hp
      ·simp only [ho,hv,Instr.typeAssert,Sem.run_bind,Zc hd,Result.andThen]
       cases d <;> first | exact absurd rfl (this _) | simp
    ·exact h.elim
   ·exact h.elim
 ·rename_i b args argTypes ho
  have hargs:∀vs,args.toList.map ρ=vs→∃us:List Value,(args.map ρ').toList=us∧us.length=vs.length∧∀(i:Nat) (x:PV) (u:Value),vs[i]?=some x→us[i]?=some u→VRel G e σ w x u:=fun vs hvs=>by
   refine ⟨_,rfl,by rw [← hvs];simp,fun i x u hx hu=>?_⟩;rw [← hvs,TL] at hx;rw [Array.toList_map,TL] at hu
   cases hq:args.toList[i]? with
   | none=>rw [hq] at hx;cases hx
   | some q=>rw [hq] at hx hu;cases hx;cases hu;exact hρ q
  split at h
  ·rename_i t ts v hts hvs
   obtain ⟨us,hus,hlen,hr⟩:=hargs _ hvs;have hat:argTypes[0]?=some t:=by rw [← Tx,hts];rfl
   cases us with
   | nil=>cases hlen
   | cons u us2 =>
    cases us2 with
    | cons _ _=>simp at hlen
    | nil =>
     have hu:=hr 0 v u rfl rfl;have ha0:(args.map ρ')[0]?=some u:=by rw [← Tx,hus];rfl
     split at h
     ·rename_i hk
      obtain ⟨ti,d,z,hti,hd,hs,hby,hkd,hz,hz2,_⟩:=(hT.get (t:=t) (by rw [hk];simp)).ex;rw [hk] at hkd;cases hkd;split at h
      ·rename_i s
       have hus:=hu.dstr;subst hus;exact m81
      ·exact h.elim
     ·rename_i el hk
      obtain ⟨ti,d,z,hti,hd,hs,hby,hkd,hz,hz2,_⟩:=(hT.get (t:=t) (by rw [hk];simp)).ex;rw [hk] at hkd;cases hkd;split at h
      ·rename_i b off m
       cases hu with
       | asl _ _ _ hb =>
        exact m81
      split at h
      ·rename_i rows hrows
       obtain ⟨a,cap,hv,_⟩:=(UR hrows hu).sl_inv;subst hv;exact m81
      ·exact h.elim
     ·exact h.elim
  ·rename_i k a k' b hvs
   obtain ⟨us,hus,hlen,hr⟩:=hargs _ hvs;split at h
   ·rename_i hkk
    cases Zef hkk
    match us,hlen with
    | [u1,u2],_ =>
     have h1:=(hr 0 _ u1 rfl rfl).dint;have h2:=(hr 1 _ u2 rfl rfl).dint;subst h1;subst h2;refine ⟨_,_,h,.mkint,?_⟩;simp only [ho,resolve,invoke,builtin,Sem.run_bind,Sem.run_pure,Result.andThen,Builtin.min_,hus];have:min a b=(if b<a then b else a):=by split <;> omega
     rw [this];rfl
   ·exact h.elim
  ·rename_i k a k' b hvs
   obtain ⟨us,hus,hlen,hr⟩:=hargs _ hvs;split at h
   ·rename_i hkk
    cases Zef hkk
    match us,hlen with
    | [u1,u2],_ =>
     have h1:=(hr 0 _ u1 rfl rfl).dint;have h2:=(hr 1 _ u2 rfl rfl).dint;subst h1;subst h2;refine ⟨_,_,h,.mkint,?_⟩;simp only [ho,resolve,invoke,builtin,Sem.run_bind,Sem.run_pure,Result.andThen,Builtin.max_,hus];have:max a b=(if b>a then b else a):=by split <;> omega
     rw [this];rfl
   ·exact h.elim
  ·exact h.elim
 ·exact h.elim
end
end Go.PM
end
