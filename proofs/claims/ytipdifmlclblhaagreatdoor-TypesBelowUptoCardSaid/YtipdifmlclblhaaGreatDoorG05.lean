/- A part of the proof: plain logic, contracts and laws over the given program. -/
import Derived.Test.YtipdifmlclblhaaGreatDoorG04
set_option linter.unusedVariables false
set_option linter.unusedSimpArgs false
set_option linter.all false
set_option maxRecDepth 100000
set_option maxHeartbeats 16000000
section
namespace Go.PM
def JZ (lo hi:Option PV) (len:Nat):Option (Nat×Nat) :=
 match lo,hi with
 | none,none=>some (0,len)
 | some x,none=>match x with
  | .d (.int _ (.ofNat n))=>match Nat.ble n len with | true=>some (n,len) | false=>none
  | _=>none
 | none,some y=>match y with
  | .d (.int _ (.ofNat m))=>match Nat.ble m len with | true=>some (0,m) | false=>none
  | _=>none
 | some x,some y=>match x,y with
  | .d (.int _ (.ofNat n)),.d (.int _ (.ofNat m))=>match Nat.ble n m,Nat.ble m len with | true,true=>some (n,m) | _,_=>none
  | _,_=>none
theorem Zbw {lo hi:Option PV} {len:Nat} {a b:Nat} {K:Nat->Nat->Prop} (h:JZ lo hi len=some (a,b)) (hK:K a b):X0 lo hi len K:=by
 unfold JZ at h
 unfold X0
 split at h
 ·cases h;exact hK
 ·exact m117
 ·exact m117
 split at h
 ·split at h
  ·rename_i cj fy;cases h;have:=Ta cj;have h2:=Ta fy;exact ⟨Int.natCast_nonneg _,Int.ofNat_le.2 this,Int.ofNat_le.2 h2,hK⟩
  cases h
 cases h
def Zhc (sz:Nat):List (List D)->Bool
 | []=>true
 | r::l=>match Nat.beq r.length sz with | true=>Zhc sz l | false=>false
theorem J0 {sz:Nat}:∀{l:List (List D)},Zhc sz l=true->∀r∈l,r.length=sz
 | [],_,r,hr=>by cases hr
 | x::l,h,r,hr=>by
  simp only [Zhc] at h;split at h
  ·rename_i hb
   rcases Tr.1 hr with rfl | hr
   ·exact Ti hb
   exact J0 h r hr
  cases h
def Yh:TK->Bool | .other=>true | _=>false
def Zke (x:PV) (lo hi:Option PV):Option PV:=match x with
 | .d (.str s)=>match JZ lo hi s.length with | some (a,b)=>some (.d (.str (cut s a b))) | none=>none
 | _=>none
def Zn4 (sz:Nat) (x:PV) (lo hi:Option PV):Option PV:=match toD x with
 | some (.sl rows)=>match Zhc sz rows,JZ lo hi rows.length with | true,some (a,b)=>some (.d (.sl (cut rows a b))) | _,_=>none
 | _=>none
def Zkf (sz n:Nat) (x:PV) (lo hi:Option PV):Option PV:=match x,lo,hi with
 | .ptr b off,none,none=>some (.asl b off n)
 | .ptr b off,some (.d (.int _ (.ofNat a))),none=>match Nat.ble (a+1) n with | true=>some (.asl b (off+a * sz) (n - a)) | false=>none
 | _,_,_=>none
def ZiV (T:Tab) (t:TypeId) (x:PV) (lo hi:Option PV):Option PV:=match (T.get t).kind with
 | .string=>Zke x lo hi
 | .slice e=>match Yh (T.get e).kind with | true=>none | false=>Zn4 (T.get e).size x lo hi
 | .array n e=>match Yh (T.get e).kind with | true=>none | false=>Zkf (T.get e).size n x lo hi
 | _=>none
theorem Yb {k:TK} (h:Yh k=false) {X:Prop}:X->(match (generalizing:=false) k with | .other=>False | _=>X):=fun x=>by
 cases k <;> first | exact x | (cases h;done)
theorem Zl5 {T:Tab} {t:TypeId} {x:PV} {lo hi:Option PV} {v:PV} {K:PV->Prop} (h:ZiV T t x lo hi=some v) (hK:K v):VQ T t x lo hi K:=by
 unfold ZiV at h
 unfold VQ
 split at h <;> rename_i hk <;> simp only [hk]
 ·unfold Zke at h
  split at h
  ·split at h
   ·rename_i hb;cases h;exact Zbw hb hK
   cases h
  cases h
 ·split at h
  ·cases h
  rename_i ho
  refine Yb ho ?_;unfold Zn4 at h
  split at h
  ·rename_i hx
   split at h
   ·rename_i h1 h2;cases h;rw [hx];exact ⟨J0 h1,Zbw h2 hK⟩
   cases h
  cases h
 ·split at h
  ·cases h
  rename_i ho
  refine Yb ho ?_;unfold Zkf at h
  split at h
  ·cases h;exact hK
  ·split at h
   ·rename_i n e bj _ _ b off q a hb
    cases h
    have:=Ta hb;refine ⟨Int.natCast_nonneg _,Int.ofNat_lt.2 this,?_⟩;exact hK
   cases h
  cases h
 cases h
def Zx4 (T:Tab) (t:TypeId) (cs:List PV) (off:Nat):Option PV:=match (T.get t).kind.isAgg with
 | true=>match WE (T.get t).size (cs.drop off) with | some l=>some (.agg l) | none=>none
 | false=>match Yh (T.get t).kind with | true=>none | false=>cs[off]?
def Zx5 (T:Tab) (t:TypeId) (r:List D) (off:Nat):Option PV:=match (T.get t).kind.isAgg with
 | true=>match WE (T.get t).size (r.drop off) with | some l=>some (.agg (l.map .d)) | none=>none
 | false=>match Yh (T.get t).kind with | true=>none | false=>match r[off]? with | some v=>some (.d v) | none=>none
def Zhd (T:Tab) (t:TypeId) (x:PV) (bx:List Box):Option PV:=match x with
 | .ptr b off=>match bx[b]? with
  | some (.cells _ cs)=>Zx4 T t cs off
  | _=>none
 | .elem r off=>Zx5 T t r off
 | _=>none
theorem Zhe {T:Tab} {t:TypeId} {x:PV} {bx:List Box} {v:PV} {K:PV->Prop} (h:Zhd T t x bx=some v) (hK:K v):Je T t x bx K:=by
 unfold Zhd at h
 unfold Je
 split at h
 ·split at h
  ·rename_i hb
   simp only [hb];unfold Zx4 at h
   split at h <;> rename_i hk <;> simp only [hk]
   ·split at h
    ·rename_i h1;cases h;simp only [h1];exact hK
    cases h
   split at h
   ·cases h
   rename_i ho;refine Yb ho ?_;rw [h];exact hK
  cases h
 ·unfold Zx5 at h
  split at h <;> rename_i hk <;> simp only [hk]
  ·split at h
   ·rename_i h1;cases h;simp only [h1];exact hK
   cases h
  split at h
  ·cases h
  rename_i ho
  refine Yb ho ?_;split at h
  ·rename_i h1;cases h;rw [h1];exact hK
  cases h
 cases h
def Wc (T:Tab) (fs:List (Nat×Nat)) (ρ:Operand->PV):List (Nat×Operand)->List PV->Option (List PV)
 | [],cs=>some cs
 | (i,x)::ps,cs=>match fs[i]?,(ρ x).cells with
  | some (o,t),some l=>match Nat.beq l.length (T.get t).size,Nat.ble (o+l.length) cs.length,Yh (T.get t).kind with
   | true,true,false=>Wc T fs ρ ps (ZJ cs o l)
   | _,_,_=>none
  | _,_=>none
theorem VA {T:Tab} {fs:List (Nat×Nat)} {ρ:Operand->PV}:∀{ps:List (Nat×Operand)} {cs r:List PV} {K:List PV->Prop},Wc T fs ρ ps cs=some r->K r->Z3 T fs ρ ps cs K
 | [],cs,r,K,h,hK=>by simp only [Wc,Option.some.injEq] at h;subst h;exact hK
 | (i,x)::ps,cs,r,K,h,hK=>by
  unfold Wc at h
  unfold Z3
  split at h
  ·rename_i o t l h1 h2
   simp only [h1,h2];split at h
   ·rename_i h3 h4 h5
    simp only [h3,h4];split
    ·rename_i he;rw [he] at h5;cases h5
    ·exact VA h hK
    rename_i hn _;exact (hn rfl rfl).elim
   cases h
  cases h
def ZcU:List (List D)->Option (List UInt8)
 | []=>some []
 | [.int .u8 (.ofNat n)]::l=>match Nat.ble n 255,ZcU l with | true,some r=>some (UInt8.ofNat n::r) | _,_=>none
 | _=>none
theorem ZeP:∀{rows:List (List D)} {l:List UInt8},ZcU rows=some l->rows=l.map (fun b=>[.int .u8 b.toNat])
 | [],l,h=>by simp only [ZcU,Option.some.injEq] at h;subst h;rfl
 | r::rows,l,h=>by
  unfold ZcU at h
  split at h
  ·rename_i he;cases he
  ·rename_i n rest he
   cases he
   split at h
   ·rename_i h1 h2
    cases h
    have h1:=Ta h1;rw [TC,<- ZeP h2];have:((UInt8.ofNat n).toNat:Int)=Int.ofNat n:=by
     rw [UInt8.toNat_ofNat_of_lt' (show n<256 by omega)];rfl
    rw [this]
   cases h
  cases h
end Go.PM
end

section
namespace Go.PM
def Zl6 (T:Tab) (ty:TypeId) (v:PV):Option PV:=match v with
 | .nils _=>match (T.get ty).kind with | .slice e=>some (.nils e) | _=>some (.nils 0)
 | v=>some v
theorem Zkg {T:Tab} {ty:TypeId} {v u:PV} {K:PV->Prop} (h:Zl6 T ty v=some u) (hK:K u):(match (generalizing:=false) v with | .nils _=>(match (T.get ty).kind with | .slice e=>K (.nils e) | _=>K (.nils 0)) | v=>K v):=by
 cases v <;> simp only [Zl6] at h |- <;> first
  | (cases h;exact hK)
  | (cases hk:(T.get ty).kind <;> rw [hk] at h <;> cases h <;> exact hK)
def ZuU (c a b:PV):Option PV:=match c with | .d (.bool true)=>some a | .d (.bool false)=>some b | _=>none
def ZtK (T:Tab) (t:TypeId) (ρ:Operand->PV) (ps:List (Nat×Operand)):Option PV:=match (T.get t).kind with
 | .struct fs=>match Wc T fs ρ ps (T.get t).zero with | some cs=>some (.agg cs) | none=>none
 | .array n e=>match Yh (T.get e).kind,Nat.ble 1 (T.get e).size with
  | false,true=>(match Wc T (ZrA (T.get e).size e n 0) ρ ps (T.get t).zero with | some cs=>some (.agg cs) | none=>none)
  | _,_=>none
 | _=>none
def Zhf (v:PV):Option PV:=match v with
 | .ptr b off=>some (.ptr b off)
 | .elem r off=>some (.elem r off)
 | .func g a c=>some (.func g a c)
 | _=>none
def unR (op:UnOp) (v:PV):Option PV:=match op,v with
 | .not,.d (.bool b)=>some (.d (.bool (!b)))
 | .neg,.d (.int k a)=>some (.d (.int k (ZcT k (0 - a))))
 | .xor,.d (.int k a)=>some (.d (.int k (WT .xor k (if k.signed then -1 else k.max) a)))
 | _,_=>none
def Zx6 (T:Tab) (s d:TypeId) (v:PV):Option PV:=match (T.get s).kind with
 | .other=>none
 | .slice e=>match (T.get d).kind,(T.get e).kind,toD v with
  | .string,.int .u8,some (.sl rows)=>(match ZcU rows with | some l=>some (.d (.str l)) | none=>none)
  | _,_,_=>none
 | _=>match (T.get d).kind,v with
  | .int k,.d (.int _ n)=>some (.d (.int k (ZcT k n)))
  | .string,.d (.str s)=>some (.d (.str s))
  | .string,.d (.int _ n)=>some (.d (.str (Utf8.encode n).data.toList))
  | _,_=>none
def ZaM (T:Tab) (s:TypeId) (v:PV) (i:Nat):Option PV:=match (T.get s).kind with
 | .struct fs=>match fs[i]?,v with
  | some (o,_),.ptr b off=>some (.ptr b (off+o))
  | some (o,_),.elem r off=>some (.elem r (off+o))
  | _,_=>none
 | _=>none
def ZtL (T:Tab) (s:TypeId) (v:PV) (i:Nat):Option PV:=match (T.get s).kind,v with
 | .struct fs,.agg cs=>match fs[i]? with
  | some (o,t)=>match (T.get t).kind.isAgg with
   | true=>(match WE (T.get t).size (cs.drop o) with | some l=>some (.agg l) | none=>none)
   | false=>(match Yh (T.get t).kind with | true=>none | false=>cs[o]?)
  | none=>none
 | _,_=>none
def Zn5 (T:Tab) (t:TypeId) (v i:PV):Option PV:=match i with
 | .d (.int _ (.ofNat n))=>match (T.get t).kind,v with
  | .string,.d (.str s)=>(match s[n]? with | some b=>some (.d (.int .u8 b.toNat)) | none=>none)
  | .array m e,.agg cs=>(match Nat.ble (n+1) m,(T.get e).kind.isAgg,Yh (T.get e).kind with
   | true,true,_=>(match WE (T.get e).size (cs.drop (n * (T.get e).size)) with | some l=>some (.agg l) | none=>none)
   | true,false,false=>(match Nat.beq (T.get e).size 1,cs[n]? with | true,some v=>some v | _,_=>none)
   | _,_,_=>none)
  | _,_=>none
 | _=>none
def ZeQ (T:Tab) (t:TypeId) (v i:PV):Option PV:=match i with
 | .d (.int _ (.ofNat n))=>match (T.get t).kind with
  | .slice e=>match Yh (T.get e).kind with
   | true=>none
   | false=>match v with
    | .asl b off m=>(match Nat.ble (n+1) m with | true=>some (.ptr b (off+n * (T.get e).size)) | false=>none)
    | .d (.sl rows)=>(match rows[n]? with | some r=>(match Nat.beq r.length (T.get e).size with | true=>some (.elem r 0) | false=>none) | none=>none)
    | .sl _ _ rows=>(match rows[n]? with | some r=>(match Nat.beq r.length (T.get e).size with | true=>some (.elem r 0) | false=>none) | none=>none)
    | _=>none
  | .array m e=>match Yh (T.get e).kind,v,Nat.ble (n+1) m with
   | false,.ptr b off,true=>some (.ptr b (off+n * (T.get e).size))
   | _,_,_=>none
  | _=>none
 | _=>none
def ZfP (v:PV) (i:Nat):Option PV:=match v with
 | .tuple vs=>vs[i]?
 | _=>none
def ZtM (T:Tab) (t:TypeId) (v:PV):Option PV:=match (T.get t).kind with
 | .iface=>none
 | .other=>none
 | _=>some (.iface t v)
def Zn6 (T:Tab) (t:TypeId) (v:PV):Option PV:=match (T.get t).kind with
 | .iface=>none
 | .other=>none
 | _=>match v with
  | .iface t' v=>(match Nat.beq t' t with | true=>some (.tuple [v,.d (.bool true)]) | false=>none)
  | _=>none
def ZrY (key:List UInt8):List PV->Option PV
 | .d (.str k)::v::l=>(match Ub key k with | true=>some v | false=>ZrY key l)
 | _=>none
theorem ZfQ {key:List UInt8}:∀(l:List PV),ZrY key l=findM key l
 | .d (.str k)::v::l=>by simp only [ZrY,findM,XC,ZfQ l];cases decide (key=k) <;> rfl
 | []=>rfl
 | [.d (.str k)]=>rfl
 | .d (.bool _)::_ | .d (.int _ _)::_ | .d (.sl _)::_ | .d .nilp::_ | .d .nilf::_ | .d .nili::_=>rfl
 | .undef::_ | .ptr _ _::_ | .elem _ _::_ | .sl _ _ _::_ | .nils _::_ | .asl _ _ _::_ | .func _ _ _::_ | .iface _ _::_ | .agg _::_ | .tuple _::_ | .raw _::_ | .mp _::_ | .nilm::_=>rfl
def lkR {α:Type} (k:List UInt8):List (List UInt8×α)->Option α
 | []=>none
 | (x,v)::l=>(match Ub k x with | true=>some v | false=>lkR k l)
theorem Zn7 {α:Type} {k:List UInt8}:∀l:List (List UInt8×α),lkR k l=lkM k l
 | []=>rfl
 | (x,v)::l=>by simp only [lkR,lkM,XC,Zn7 l];cases decide (k=x) <;> rfl
def ZcV (ok b:Bool) (v:PV):PV:=match ok with | true=>.tuple [v,.d (.bool b)] | false=>v
def ZiW (T:Tab) (t:TypeId) (m key:PV) (ok:Bool) (bx:List Box):Option PV:=match (T.get t).kind with
 | .map _ e=>(match Yh (T.get e).kind,ZjZ (T.get e),key with
  | false,some z,.d (.str k)=>(match m with
   | .nilm=>some (ZcV ok false z)
   | .mp b=>(match bx[b]? with
    | some (.map cs _ _)=>(match ZrY k cs with
     | some v=>some (ZcV ok true v)
     | none=>some (ZcV ok false z))
    | some (.dmap l)=>(match lkR k l with
     | some v=>some (ZcV ok true v.pv)
     | none=>some (ZcV ok false z))
    | _=>none)
   | _=>none)
  | _,_,_=>none)
 | _=>none
theorem Zl7 {T:Tab} {t:TypeId} {m key:PV} {ok:Bool} {bx:List Box} {v:PV} {K:PV->Prop} (h:ZiW T t m key ok bx=some v) (hK:K v):YW T t m key ok bx K:=by
 unfold ZiW at h
 unfold YW
 split at h
 ·rename_i hk
  simp only [hk];split at h
  ·rename_i ho hz
   refine Yb ho ?_;simp only [hz];split at h
   ·cases h;cases ok <;> exact hK
   ·split at h
    ·rename_i hb
     simp only [hb];split at h
     ·rename_i hf;rw [ZfQ] at hf;cases h;simp only [hf];cases ok <;> exact hK
     rename_i hf;rw [ZfQ] at hf;cases h;simp only [hf];cases ok <;> exact hK
    ·rename_i hb
     simp only [hb];split at h
     ·rename_i hf;rw [Zn7] at hf;cases h;refine .yes hf ?_;cases ok <;> exact hK
     rename_i hf;rw [Zn7] at hf;cases h;refine .no hf ?_;cases ok <;> exact hK
    cases h
   cases h
  cases h
 cases h
def ZBW (T:Tab) (t:TypeId) (v:PV) (bx:List Box):Option PV:=match (T.get t).kind with
 | .string=>(match v with | .d (.str s)=>some (.d (.int .i64 s.length)) | _=>none)
 | .slice _=>match v with
  | .asl _ _ n=>some (.d (.int .i64 n))
  | v=>(match toD v with | some (.sl rows)=>some (.d (.int .i64 rows.length)) | _=>none)
 | .map _ _=>(match v with
  | .nilm=>some (.d (.int .i64 (0:Nat)))
  | .mp b=>(match bx[b]? with | some (.map cs _ _)=>some (.d (.int .i64 (Nat.div cs.length 2:Nat))) | some (.dmap l)=>some (.d (.int .i64 l.length)) | _=>none)
  | _=>none)
 | _=>none
def ZBX (a b:PV):Option PV:=match a,b with
 | .d (.int k a),.d (.int k' b)=>(match keq k k',ilt b a with | true,true=>some (.d (.int k b)) | true,false=>some (.d (.int k a)) | _,_=>none)
 | _,_=>none
def ZBY (a b:PV):Option PV:=match a,b with
 | .d (.int k a),.d (.int k' b)=>(match keq k k',ilt a b with | true,true=>some (.d (.int k b)) | true,false=>some (.d (.int k a)) | _,_=>none)
 | _,_=>none
def Zkh (T:Tab) (b:Builtin) (ts:List TypeId) (vs:List PV) (bx:List Box):Option PV:=match b,ts,vs with
 | .len,t::_,[v]=>ZBW T t v bx
 | .min,_,[a,b]=>ZBX a b
 | .max,_,[a,b]=>ZBY a b
 | _,_,_=>none
def ZtN (T:Tab) (ρ:Operand->PV) (bx:List Box) (c:Call):Option PV:=match c with
 | { callee:=.builtin b,args,argTypes }=>Zkh T b argTypes.toList (args.toList.map ρ) bx
 | _=>none
def Zn8 (g:Fn) (a c:List PV):Option PV:=match g with | .func g=>some (.func g a c) | _=>none
def ZAh (T:Tab) (o:Op) (ty:TypeId) (ρ:Operand->PV) (bx:List Box):Option PV:=match o with
 | .move x=>Zl6 T ty (ρ x)
 | .assign x=>Zl6 T ty (ρ x)
 | .pick c a b=>ZuU (ρ c) (ρ a) (ρ b)
 | .build t ps=>ZtK T t ρ ps.toList
 | .load t a=>Zhd T t (ρ a) bx
 | .nilCheck x=>Zhf (ρ x)
 | .binOp op t x y _=>Zhb T op t x y (ρ x) (ρ y)
 | .unOp op _ x=>unR op (ρ x)
 | .convert s d x=>Zx6 T s d (ρ x)
 | .fieldAddr s x i=>ZaM T s (ρ x) i
 | .field s x i=>ZtL T s (ρ x) i
 | .index t x i=>Zn5 T t (ρ x) (ρ i)
 | .indexAddr t x i=>ZeQ T t (ρ x) (ρ i)
 | .slice t x lo hi none=>ZiV T t (ρ x) (lo.map ρ) (hi.map ρ)
 | .extract x i=>ZfP (ρ x) i
 | .makeFunc g a c=>Zn8 g (a.toList.map ρ) (c.toList.map ρ)
 | .makeInterface t x=>ZtM T t (ρ x)
 | .typeAssert x _ t true=>Zn6 T t (ρ x)
 | .call c=>ZtN T ρ bx c
 | .lookup t m x ok=>ZiW T t (ρ m) (ρ x) ok bx
 | _=>none
theorem ZuV {T:Tab} {o:Op} {ty:TypeId} {ρ:Operand->PV} {bx:List Box} {v:PV} {K:PV->Prop} (h:ZAh T o ty ρ bx=some v) (hK:K v):qop T o ty ρ bx K:=by
 unfold ZAh at h
 split at h
 ·exact Zkg h hK
 ·exact Zkg h hK
 ·unfold ZuU at h
  exact m142
 ·unfold ZtK at h
  simp only [qop];split at h <;> rename_i hk <;> simp only [hk]
  ·split at h
   ·rename_i h1;cases h;exact VA h1 hK
   cases h
  ·split at h
   ·rename_i ho h1
    refine Yb ho ?_;simp only [h1];split at h
    ·rename_i h1;cases h;exact VA h1 hK
    cases h
   cases h
  cases h
 ·exact Zhe h hK
 ·unfold Zhf at h
  exact m142
 ·exact ZrX h hK
 ·unfold unR at h
  simp only [qop];split at h
  ·rename_i hx;cases h;simp only [hx];exact hK
  ·rename_i hx;cases h;simp only [hx];exact .inr (by rw [<- Zb6];exact hK)
  ·rename_i hx;cases h;simp only [hx,Z2];exact hK
  cases h
 ·unfold Zx6 at h
  simp only [qop];split at h
  ·cases h
  ·rename_i hk
   simp only [hk];split at h
   ·rename_i h1 h2 h3
    simp only [h1,h2,h3];split at h
    ·rename_i h4;cases h;exact ⟨_,ZeP h4,hK⟩
    cases h
   cases h
  rename_i eo gy
  split
  ·rename_i hk;exact (eo hk).elim
  ·rename_i hk;exact (gy _ hk).elim
  split at h
  ·rename_i h1 h2;cases h;simp only [h1,h2];exact .inr (by rw [<- Zb6];exact hK)
  ·exact m113
  ·exact m113
  cases h
 ·unfold ZaM at h
  simp only [qop];split at h
  ·rename_i hk
   simp only [hk];split at h
   ·exact m113
   ·exact m113
   cases h
  cases h
 ·unfold ZtL at h
  simp only [qop];split at h
  ·rename_i h1 h2
   simp only [h1,h2];split at h
   ·rename_i h3
    simp only [h3];split at h
    ·rename_i h4
     simp only [h4];split at h
     ·rename_i h5;cases h;simp only [h5];exact hK
     cases h
    rename_i h4
    simp only [h4];split at h
    ·cases h
    rename_i ho;refine Yb ho ?_;rw [h];exact hK
   cases h
  cases h
 ·unfold Zn5 at h
  simp only [qop];split at h
  ·rename_i n hi
   simp only [hi];split at h
   ·rename_i s h1 h2
    simp only [h1,h2];split at h
    ·rename_i b hb
     cases h
     have ai:=(Th.1 hb).1;refine ⟨Int.natCast_nonneg _,Int.ofNat_lt.2 ai,?_⟩;have:List.getD s (Int.ofNat n).toNat 0=b:=by show List.getD s n 0=b;rw [T9,hb];rfl
     rw [this];exact hK
    cases h
   ·rename_i h1 h2
    simp only [h1,h2];split at h
    ·rename_i h3 h4
     simp only [h4];split at h
     ·rename_i h5
      cases h
      rw [show (Int.ofNat n).toNat=n from rfl,h5];exact ⟨Int.natCast_nonneg _,Int.ofNat_lt.2 (Ta h3),hK⟩
     cases h
    ·rename_i h3 h4 ho
     simp only [h4];refine Yb ho ?_;split at h
     ·rename_i h5 h6
      cases h
      rw [h5,show (Int.ofNat n).toNat=n from rfl,h6];exact ⟨Int.natCast_nonneg _,Int.ofNat_lt.2 (Ta h3),hK⟩
     cases h
    cases h
   cases h
  cases h
 ·unfold ZeQ at h
  simp only [qop];split at h
  ·rename_i n hi
   simp only [hi];split at h
   ·rename_i hk
    simp only [hk];split at h
    ·cases h
    rename_i ho
    refine Yb ho ?_;split at h
    ·rename_i hx
     simp only [hx];split at h
     ·rename_i hb;cases h;exact ⟨Int.natCast_nonneg _,Int.ofNat_lt.2 (Ta hb),hK⟩
     cases h
    ·exact m95
    ·exact m95
    cases h
   ·rename_i hk
    simp only [hk];split at h
    ·rename_i ho hx hb
     cases h
     refine Yb ho ?_;simp only [hx];exact ⟨Int.natCast_nonneg _,Int.ofNat_lt.2 (Ta hb),hK⟩
    cases h
   cases h
  cases h
 ·exact Zl5 h hK
 ·unfold ZfP at h
  simp only [qop];split at h
  ·rename_i hx;simp only [hx,h];exact hK
  cases h
 ·unfold Zn8 at h
  split at h
  ·cases h;exact hK
  cases h
 ·unfold ZtM at h
  simp only [qop];split at h
  ·cases h
  ·cases h
  rename_i h1 h2
  cases h
  split
  ·rename_i he;exact (h1 he).elim
  ·rename_i he;exact (h2 he).elim
  exact hK
 ·unfold Zn6 at h
  simp only [qop];split at h
  ·cases h
  ·cases h
  rename_i h1 h2
  split
  ·rename_i he;exact (h1 he).elim
  ·rename_i he;exact (h2 he).elim
  split at h
  ·rename_i hx
   simp only [hx];split at h
   ·rename_i hb;cases h;simp only [hb];exact hK
   cases h
  cases h
 ·unfold ZtN at h
  split at h
  ·unfold Zkh at h
   simp only [qop];split at h
   ·rename_i h1 h2
    simp only [h1,h2];unfold ZBW at h
    split at h
    ·rename_i hk;simp only [hk];split at h
     ·cases h;exact hK
     cases h
    ·rename_i hk
     simp only [hk];split at h
     ·cases h;exact hK
     rename_i hn
     split at h
     ·rename_i hd
      cases h
      split
      ·exact (hn _ _ _ rfl).elim
      simp only [hd];exact hK
     cases h
    ·rename_i hk
     simp only [hk];split at h
     ·cases h;exact hK
     ·split at h
      ·rename_i hb;cases h;simp only [hb];exact hK
      ·rename_i hb;cases h;simp only [hb];exact hK
      cases h
     cases h
    cases h
   ·rename_i h1
    simp only [h1];unfold ZBX at h
    split at h
    ·split at h
     ·rename_i hq hl
      cases h
      simp only [hq];rw [ZcS] at hl;have hl:=Sd hl;rw [Int.min_eq_right oM];exact hK
     ·rename_i hq hl
      cases h
      simp only [hq];rw [ZcS] at hl;have hl:=of_decide_eq_false hl;rw [Int.min_eq_left oM];exact hK
     cases h
    cases h
   ·rename_i h1
    simp only [h1];unfold ZBY at h
    split at h
    ·split at h
     ·rename_i hq hl
      cases h
      simp only [hq];rw [ZcS] at hl;have hl:=Sd hl;rw [Int.max_eq_right oM];exact hK
     ·rename_i hq hl
      cases h
      simp only [hq];rw [ZcS] at hl;have hl:=of_decide_eq_false hl;rw [Int.max_eq_left oM];exact hK
     cases h
    cases h
   cases h
  cases h
 ·exact Zl7 h hK
 cases h
end Go.PM
end

section
namespace Go.PM
def Zki (T:Tab) (e:Nat):Option (List D):=match Yh (T.get e).kind,ZlC (T.get e).zero with
 | false,some z=>(match Nat.ble 1 z.length with | true=>some z | false=>none)
 | _,_=>none
theorem ZcW {T:Tab} {e:Nat} {z:List D} (h:Zki T e=some z):Yh (T.get e).kind=false/\ZlC (T.get e).zero=some z/\Nat.ble 1 z.length=true:=by
 unfold Zki at h
 split at h
 ·rename_i h1 h2
  split at h
  ·rename_i h3;cases h;exact ⟨h1,h2,h3⟩
  cases h
 cases h
def Zb7 (T:Tab) (t:TypeId) (n:Nat) (ρ:Operand->PV) (ps:List (Nat×Operand)):Option (Nat×List (List D)):=match (T.get t).kind with
 | .slice e=>match Zki T e with
  | some z=>(match Nat.ble (n * z.length) 16777216,Zat z ρ n ps with | true,some rows=>some (e,rows) | _,_=>none)
  | none=>none
 | _=>none
def Zn9 (T:Tab) (t:TypeId) (l c:PV):Option PV:=match (T.get t).kind with
 | .slice e=>match Zki T e,l,c with
  | some z,.d (.int .i64 (.ofNat n)),.d (.int .i64 (.ofNat m))=>(match Nat.beq n m,Nat.ble (n * z.length) 16777216,Nat.ble (n * (T.get e).bytes) 16777216 with
   | true,true,true=>some (.d (.sl (List.replicate n z)))
   | _,_,_=>none)
  | _,_,_=>none
 | _=>none
def ZBZ (v:PV):Option PV:=match v with
 | .d (.str s)=>some (.d (.sl (s.map fun b=>[.int .u8 b.toNat])))
 | _=>none
def Zhg (T:Tab) (o:Op) (ty:TypeId) (ρ:Operand->PV) (bx:List Box):Option PV:=match ZgJ T o with
 | some x=>ZBZ (ρ x)
 | none=>match o with
  | .buildSlice t n ps=>(match Zb7 T t n ρ ps.toList with | some (_,rows)=>some (.d (.sl rows)) | none=>none)
  | .makeSlice t l c=>Zn9 T t (ρ l) (ρ c)
  | o=>ZAh T o ty ρ bx
theorem ZrZ {T:Tab} {o:Op} {ty:TypeId} {ρ:Operand->PV} {bx:List Box} {v:PV} {K:PV->Prop} (h:Zhg T o ty ρ bx=some v) (hK:K v):Zfr T o ty ρ bx K:=by
 unfold Zhg at h
 unfold Zfr
 split at h
 ·rename_i x hx
  simp only [hx];unfold ZBZ at h
  split at h
  ·rename_i hs;cases h;simp only [hs];exact hK
  cases h
 rename_i hx
 simp only [hx];split at h
 ·rename_i t n ps _
  simp only;split at h
  ·rename_i rows hb
   cases h
   unfold Zb7 at hb
   split at hb
   ·rename_i hk
    simp only [hk];split at hb
    ·rename_i z hz
     obtain ⟨h1,h2,h3⟩:=ZcW hz;refine Yb h1 ?_;simp only [h2];split at hb
     ·rename_i h4 h5;cases hb;simp only [h3,h4,h5];exact hK
     cases hb
    cases hb
   cases hb
  cases h
 ·rename_i t l c _
  simp only;unfold Zn9 at h
  split at h
  ·rename_i hk
   simp only [hk];split at h
   ·rename_i z n m hz hl hc
    obtain ⟨h1,h2,h3⟩:=ZcW hz;refine Yb h1 ?_;simp only [h2,hl,hc];split at h
    ·rename_i h4 h5 h6;cases h;simp only [h3,h4,h5,h6];exact hK
    cases h
   cases h
  cases h
 rename_i eo gy
 have:=ZuV h hK;split
 ·exact (eo _ _ _ rfl).elim
 ·exact (gy _ _ _ rfl).elim
 exact this
def ZtO (T:Tab) (e:Nat) (σ:St):Option (PV×St):=match Yh (T.get e).kind with
 | true=>none
 | false=>some (.ptr σ.bx.length 0,σ.new (.cells e (T.get e).zero))
def ZB0 (e:Nat) (v:PV) (σ:St):Option (PV×St):=match v.cells with
 | some l=>some (.ptr σ.bx.length 0,σ.new (.cells e l))
 | none=>none
def Zkj (T:Tab) (t:TypeId) (a v:PV) (σ:St):Option (PV×St):=match a with
 | .ptr b off=>match σ.bx[b]?,v.cells with
  | some (.cells ty cs),some l=>(match Nat.beq l.length (T.get t).size,Nat.ble (off+l.length) cs.length,Yh (T.get t).kind with
   | true,true,false=>some (.undef,σ.set b (.cells ty (ZJ cs off l)))
   | _,_,_=>none)
  | _,_=>none
 | _=>none
def ZtP (T:Tab) (t:TypeId) (v:PV) (σ:St):Option (PV×St):=match (T.get t).kind,v with
 | .string,.d (.str s)=>some (.ptr σ.bx.length 0,σ.new (.iter s 0))
 | _,_=>none
def Zx7 (v:PV) (σ:St):Option (PV×St):=match v with
 | .ptr b 0=>match σ.bx[b]? with
  | some (.iter s pos)=>(match Nat.ble (pos+1) s.length with
   | true=>some (.tuple [.d (.bool true),.d (.int .i64 pos),.d (.int .i32 (decodeL s pos).1)],σ.set b (.iter s (pos+(decodeL s pos).2)))
   | false=>some (.tuple [.d (.bool false)],σ))
  | _=>none
 | _=>none
def ZB1 (T:Tab) (el:Nat) (s:PV) (more:List (List D)) (σ:St):Option (PV×St):=match Yh (T.get el).kind,Nat.ble 1 (T.get el).size,Zhc (T.get el).size more with
 | false,true,true=>match s with
  | .nils _=>(match Nat.ble (more.length * (T.get el).bytes) 140737488355328,Nat.ble more.length 140737488355328 with
   | true,true=>some (.sl σ.nx el more,{ σ with tk:=σ.nx::σ.tk,nx:=σ.nx+1 })
   | _,_=>none)
  | .sl tok e2 rows=>(match ZdU tok σ.tk,Nat.beq e2 el,Nat.ble ((rows.length+more.length) * (T.get el).bytes) 140737488355328,Nat.ble (rows.length+more.length) 140737488355328 with
   | true,true,true,true=>some (.sl σ.nx el (rows++more),{ σ with tk:=σ.nx::UV tok σ.tk,nx:=σ.nx+1 })
   | _,_,_,_=>none)
  | _=>none
 | _,_,_=>none
def Zoa (T:Tab) (ts:List TypeId) (vs:List PV) (σ:St):Option (PV×St):=match ts,vs with
 | [t,tx],[s,x]=>match (T.get t).kind with
  | .slice el=>(match X2 T tx el x with | some more=>ZB1 T el s more σ | none=>none)
  | _=>none
 | _,_=>none
def ZAi (key:List UInt8) (v:PV):List PV->Option (List PV)
 | .d (.str k)::u::l=>(match Ub key k with
  | true=>some (.d (.str k)::v::l)
  | false=>(match ZAi key v l with | some l=>some (.d (.str k)::u::l) | none=>none))
 | _=>none
theorem ZiX {key:List UInt8} {v:PV}:∀(l:List PV),ZAi key v l=Zm7 key v l
 | .d (.str k)::u::l=>by simp only [ZAi,Zm7,XC,ZiX l];cases decide (key=k) <;> rfl
 | []=>rfl
 | [.d (.str k)]=>rfl
 | .d (.bool _)::_ | .d (.int _ _)::_ | .d (.sl _)::_ | .d .nilp::_ | .d .nilf::_ | .d .nili::_=>rfl
 | .undef::_ | .ptr _ _::_ | .elem _ _::_ | .sl _ _ _::_ | .nils _::_ | .asl _ _ _::_ | .func _ _ _::_ | .iface _ _::_ | .agg _::_ | .tuple _::_ | .raw _::_ | .mp _::_ | .nilm::_=>rfl
def ZAj {α:Type} (k:List UInt8) (v:α):List (List UInt8×α)->List (List UInt8×α)
 | []=>[(k,v)]
 | (x,u)::l=>(match Ub k x with | true=>(x,v)::l | false=>(x,u)::ZAj k v l)
theorem Zob {α:Type} {k:List UInt8} {v:α}:∀l:List (List UInt8×α),ZAj k v l=Uv k v l
 | []=>rfl
 | (x,u)::l=>by simp only [ZAj,Uv,XC,Zob l];cases decide (k=x) <;> rfl
def Zkk (T:Tab) (t:TypeId) (m key v:PV) (σ:St):Option (PV×St):=match (T.get t).kind,key,m with
 | .map _ _,.d (.str k),.mp b=>(match σ.bx[b]? with
  | some (.map cs bn ck)=>(match ZAi k v cs with
   | some cs=>some (.undef,σ.set b (.map cs bn ck))
   | none=>some (.undef,σ.set b (.map (cs++[.d (.str k),v]) (bn++[ck]) (ck+1))))
  | some (.dmap l)=>(match ZAd v with
   | some x=>some (.undef,σ.set b (.dmap (ZAj k x l)))
   | none=>none)
  | _=>none)
 | _,_,_=>none
theorem Zhh {T:Tab} {t:TypeId} {m key v u:PV} {σ σ':St} {K:PV->St->Prop} (h:Zkk T t m key v σ=some (u,σ')) (hK:K u σ'):JM T t m key v σ K:=by
 unfold Zkk at h
 unfold JM
 split at h
 ·rename_i hk
  simp only [hk];split at h
  ·rename_i hb
   simp only [hb];split at h
   ·rename_i hs;rw [ZiX] at hs;cases h;simp only [hs];exact hK
   rename_i hs;rw [ZiX] at hs;cases h;simp only [hs];exact hK
  ·rename_i hb
   simp only [hb];split at h
   ·rename_i hs;rw [Zob] at h;cases h;simp only [hs];exact hK
   cases h
  cases h
 cases h
def Zkl (T:Tab) (t:TypeId) (σ:St):Option (PV×St):=match (T.get t).kind with
 | .map _ e=>(match (T.get e).kind with
  | .slice _=>some (.mp σ.bx.length,σ.new (.map [] [] 0))
  | .map _ _=>some (.mp σ.bx.length,σ.new (.map [] [] 0))
  | _=>some (.mp σ.bx.length,σ.new (.dmap [])))
 | _=>none
def Zx8 (T:Tab) (o:Op) (ρ:Operand->PV) (σ:St):Option (PV×St):=match o with
 | .alloc e=>ZtO T e σ
 | .box e x=>ZB0 e (ρ x) σ
 | .store t a x=>Zkj T t (ρ a) (ρ x) σ
 | .range t x=>ZtP T t (ρ x) σ
 | .next x true=>Zx7 (ρ x) σ
 | .makeMap t none=>Zkl T t σ
 | .mapUpdate t m x v=>Zkk T t (ρ m) (ρ x) (ρ v) σ
 | .insert t m x v=>Zkk T t (ρ m) (ρ x) (ρ v) σ
 | .call { callee:=.builtin .append,args,argTypes }=>Zoa T argTypes.toList (args.toList.map ρ) σ
 | _=>none
theorem ZuW {T:Tab} {o:Op} {ρ:Operand->PV} {σ σ':St} {v:PV} {K:PV->St->Prop} (h:Zx8 T o ρ σ=some (v,σ')) (hK:K v σ'):eop T o ρ σ K:=by
 unfold Zx8 at h
 unfold eop
 split at h
 ·unfold ZtO at h
  split at h
  ·cases h
  rename_i ho;cases h;exact Yb ho hK
 ·unfold ZB0 at h
  simp only;split at h
  ·rename_i hc;cases h;simp only [hc];exact hK
  cases h
 ·unfold Zkj at h
  simp only;split at h
  ·rename_i ha
   simp only [ha];split at h
   ·rename_i hb hc
    simp only [hb,hc];split at h
    ·rename_i h1 h2 h3
     cases h
     simp only [h1,h2];split
     ·rename_i he;rw [he] at h3;cases h3
     ·exact hK
     rename_i hn _;exact (hn rfl rfl).elim
    cases h
   cases h
  cases h
 ·unfold ZtP at h
  simp only;split at h
  ·exact m113
  cases h
 ·unfold Zx7 at h
  simp only;split at h
  ·rename_i ha
   simp only [ha];split at h
   ·rename_i s pos hb
    simp only [hb];split at h
    ·rename_i hl
     cases h
     rw [Ss (show pos<s.length from Ta hl)];exact hK
    rename_i hl
    cases h
    rw [decide_eq_false (show ¬pos<s.length from fun g=>by rw [Nat.ble_eq_true_of_le g] at hl;cases hl)];exact hK
   cases h
  cases h
 ·unfold Zkl at h
  simp only;split at h
  ·rename_i kt el hk
   split at h
   ·rename_i h5;cases h;simp only [hk,h5];exact hK
   ·rename_i h5;cases h;simp only [hk,h5];exact hK
   rename_i h5 h6
   cases h
   simp only [hk]
   cases hc:(T.get el).kind <;> first | exact hK | exact absurd hc (h5 _) | exact absurd hc (h6 _ _)
  cases h
 ·exact Zhh h hK
 ·exact Zhh h hK
 ·unfold Zoa at h
  simp only;split at h
  ·rename_i h1 h2
   simp only [h1,h2];split at h
   ·rename_i hk
    simp only [hk];split at h
    ·rename_i hm
     unfold ZB1 at h
     split at h
     ·rename_i ho hs hr
      refine Yb ho ?_;simp only [hs,hm];split at h
      ·split at h
       ·rename_i h3 h4
        cases h
        exact ⟨J0 hr,Ta h3,Ta h4,hK⟩
       cases h
      ·split at h
       ·rename_i h3 h4 h5 h6
        cases h
        simp only [h3,h4];exact ⟨J0 hr,Ta h5,Ta h6,hK⟩
       cases h
      cases h
     cases h
    cases h
   cases h
  cases h
 cases h
end Go.PM
end

section
namespace Go.PM
inductive Stp where
 | go (t:FT) (σ:St) | out (v:PV) (t:FT) (σ:St)
abbrev ZQ:=PExit×FT×St
abbrev Yy:=FuncId->List PV->St->Option (PEnd×St)
def Zr0 (Q:PQ) (K:Frame->St->Prop):Stp->Prop
 | .go t σ=>K t.get σ
 | .out v t σ=>Q (.panic v) t.get σ
def ZiY (t:FT) (d:Option Nat) (v:PV) (σ:St):Option Stp:=match d with
 | some i=>Zkc v fun v=>match t.put v i with | some t=>some (.go t σ) | none=>none
 | none=>some (.go t σ)
theorem WX {t:FT} {d:Option Nat} {v:PV} {σ:St} {s:Stp} {Q:PQ} {K:Frame->St->Prop} (h:ZiY t d v σ=some s) (hK:Zr0 Q K s):Zer t.get d v fun f=>K f σ:=by
 rw [ZT];unfold ZiY at h
 cases d with
 | none=>cases h;exact hK
 | some i =>
 simp only [WV] at h;split at h
 ·rename_i t' ht
  cases h
  have:=ZDo ht;simp only [Zr0] at hK;rw [this] at hK;exact hK
 cases h
def pfT (pk:Bool) (t:FT):FT:=match pk with | true=>t.map clean | false=>.leaf
theorem ZtQ {C:Cx} {pk:Bool} (h:C.pk=pk) (t:FT):(pfT pk t).get=C.pf t.get:=by
 unfold pfT Cx.pf
 rw [h]
 cases pk with
 | true=>exact FT.map_get t
 | false=>exact ZDu
def ZiZ (call:Yy) (fv:PV) (args:List PV) (σ:St):Option (PEnd×St):=match fv with
 | .func g first caps=>call g (first++args++caps) σ
 | _=>none
def ZAk (pk:Bool) (t:FT) (d:Option Nat) (r:Option (PEnd×St)):Option Stp:=match r with
 | some (.ret v,σ)=>ZiT σ fun σ=>ZiY t d v σ
 | some (.panic v,σ)=>ZiT σ fun σ=>some (.out v (pfT pk t) σ)
 | none=>none
def ZtR (pk:Bool) (t:FT) (σ:St) (v:PV):Option Stp:=match v with
 | .iface q v=>some (.out (.iface q v) (pfT pk t) σ)
 | _=>none
def U6 (t:FT) (d:Option Nat) (r:Option (PV×St)):Option Stp:=match r with
 | some (v,σ)=>ZiT σ fun σ=>ZiY t d v σ
 | none=>none
def ZuX (call:Yy) (T:Tab) (pk:Bool) (o:Oper) (t:FT) (σ:St):Option Stp:=match o.op with
 | .call { callee:=.value x,args,.. }=>ZAk pk t o.dst (ZiZ call (ev t.get x) (args.toList.map (ev t.get)) σ)
 | .panic x=>ZtR pk t σ (ev t.get x)
 | op=>U6 t o.dst (Zx8 T op (ev t.get) σ)
def Zbx (call:Yy) (T:Tab) (pk:Bool) (o:Oper) (t:FT) (σ:St):Option Stp:=match Yx o.op with
 | false=>(match Zhg T o.op o.type (ev t.get) σ.bx with | some v=>ZiY t o.dst v σ | none=>none)
 | true=>ZuX call T pk o t σ
structure CxR (C:Cx) (call:Yy) (T:Tab) (pk:Bool) (bsl:Nat->Bool) (N:Nat):Prop where
 T:C.T=T
 call:∀{g args σ pe σ'} {K:PEnd->St->Prop},call g args σ=some (pe,σ')->K pe σ'->C.call g args σ K
 pk:C.pk=pk
 bsl:C.bsl=bsl
 unr:C.unr=fun _=>N+1
 cut:C.cut=fun _=>none
theorem CxR.calm {C:Cx} {call:Yy} {T:Tab} {pk:Bool} {bsl:Nat->Bool} {N:Nat} (h:CxR C call T pk bsl N):CxR C.calm call T false bsl N:=⟨h.T,h.call,rfl,h.bsl,h.unr,h.cut⟩
section
variable {C:Cx} {call:Yy} {T:Tab} {pk:Bool} {bsl:Nat->Bool} {N:Nat} {Q:PQ} {K:Frame->St->Prop}
theorem ZcX (hC:CxR C call T pk bsl N) {o:Oper} {t:FT} {σ:St} {s:Stp} (h:Zbx call T pk o t σ=some s) (hK:Zr0 Q K s):XS C o t.get σ Q K:=by
 unfold Zbx at h
 unfold XS
 split at h
 ·rename_i he
  simp only [he,hC.T];split at h
  ·rename_i hq;exact ZrZ hq (WX h hK)
  cases h
 rename_i he
 simp only [he];unfold ZuX at h
 split at h
 ·rename_i x args _ ho
  simp only [ho];unfold ZiZ at h
  unfold Zcl
  split at h
  ·rename_i hf
   simp only [hf];unfold ZAk at h
   split at h
   ·rename_i hc
    rw [Xk] at h;refine hC.call hc ?_;simp only [ZC];exact WX h hK
   ·rename_i hc
    rw [Xk] at h
    cases h
    refine hC.call hc ?_;simp only [ZC,ZF];rw [<- ZtQ hC.pk];exact hK
   cases h
  cases h
 ·rename_i x ho
  simp only [ho];unfold ZtR at h
  split at h
  ·rename_i hx
   cases h
   simp only [hx];rw [<- ZtQ hC.pk];exact hK
  cases h
 rename_i eo gy
 unfold U6 at h
 split at h
 ·rename_i hq
  rw [Xk] at h;split
  ·rename_i ho;exact (eo _ _ _ ho).elim
  ·rename_i ho;exact (gy _ ho).elim
  rw [hC.T];refine ZuW hq ?_;simp only [ZC];exact WX h hK
 cases h
def Vf (call:Yy) (T:Tab) (pk:Bool) (all:List Oper) (o:Oper) (t:FT) (σ:St):Option Stp:=match o.guard with
 | none=>Zbx call T pk o t σ
 | some (j,want)=>match XE all j with
  | some s=>(match t.get s with
   | .d (.bool b)=>(match b,want with
    | true,true=>Zbx call T pk o t σ
    | false,false=>Zbx call T pk o t σ
    | _,_=>ZiY t o.dst (.raw Go.undef) σ)
   | .raw (.tuple _)=>ZiY t o.dst (.raw Go.undef) σ
   | _=>none)
  | none=>none
theorem Vg (hC:CxR C call T pk bsl N) {all:List Oper} {o:Oper} {t:FT} {σ:St} {s:Stp} (h:Vf call T pk all o t σ=some s) (hK:Zr0 Q K s):Wf C all Q o t.get σ K:=by
 unfold Vf at h
 unfold Wf
 split at h
 ·rename_i hg;simp only [hg];exact ZcX hC h hK
 rename_i j want hg
 simp only [hg];split at h
 ·rename_i hs
  simp only [hs];split at h
  ·rename_i b hb
   simp only [hb]
   cases b <;> cases want <;> simp only at h
   ·exact ZDt (by simp only [Xi hb];exact ZcX hC h hK)
   ·exact ZDt (by simp only [Xi hb];exact WX h hK)
   ·exact ZDs (by simp only [Xi hb];exact WX h hK)
   exact ZDs (by simp only [Xi hb];exact ZcX hC h hK)
  ·rename_i hb;simp only [hb];exact WX h hK
  cases h
 cases h
def ZeR (bsl:Nat->Bool) (o:Oper):Bool:=match o.dst with
 | some d=>match o.guard with | none=>bsl d | _=>false
 | none=>false
def Zoc (T:Tab) (o:Op) (ρ:Operand->PV) (σ:St):Option (PV×St):=match o with
 | .buildSlice t n ps=>(match Zb7 T t n ρ ps.toList,Nat.ble 1 n with
  | some (e,rows),true=>some (.sl σ.nx e rows,{ σ with tk:=σ.nx::σ.tk,nx:=σ.nx+1 })
  | _,_=>none)
 | _=>none
theorem Zkm {T:Tab} {o:Op} {ρ:Operand->PV} {σ σ':St} {v:PV} {K:PV->St->Prop} (h:Zoc T o ρ σ=some (v,σ')) (hK:K v σ'):ZtC T o ρ σ K:=by
 unfold Zoc at h
 split at h
 ·rename_i t n ps
  split at h
  ·rename_i hb hn
   cases h
   unfold Zb7 at hb
   unfold ZtC
   simp only;split at hb
   ·rename_i hk
    simp only [hk];split at hb
    ·rename_i z hz
     obtain ⟨h1,h2,h3⟩:=ZcW hz;refine Yb h1 ?_;simp only [h2];split at hb
     ·rename_i h4 h5;cases hb;simp only [h3,h4,h5,hn];exact hK
     cases hb
    cases hb
   cases hb
  cases h
 cases h
def ZfR (call:Yy) (T:Tab) (pk:Bool) (bsl:Nat->Bool) (all:List Oper):List Oper->FT->St->Option ZQ
 | [],t,σ=>some (.normal,t,σ)
 | o::rest,t,σ=>match (match ZeR bsl o with | true=>U6 t o.dst (Zoc T o.op (ev t.get) σ) | false=>Vf call T pk all o t σ) with
  | some (.go t σ)=>ZfR call T pk bsl all rest t σ
  | some (.out v t σ)=>some (.panic v,t,σ)
  | none=>none
theorem ZfS (hC:CxR C call T pk bsl N) {all:List Oper}:∀{l:List Oper} {t:FT} {σ:St} {e:PExit} {t':FT} {σ':St},ZfR call T pk bsl all l t σ=some (e,t',σ')->Q e t'.get σ'->ZdV C all Q l t.get σ
 | [],t,σ,e,t',σ',h,hQ=>by cases h;exact hQ
 | o::rest,t,σ,e,t',σ',h,hQ=>by
  unfold ZfR at h
  unfold ZdV ZgM
  have ho:Zet C o=ZeR bsl o:=by unfold Zet ZeR;rw [hC.bsl];rfl
  rw [ho];split at h
  ·rename_i t1 σ1 hs
   have f7:Zr0 Q (ZdV C all Q rest) (.go t1 σ1):=ZfS hC h hQ;split at hs
   ·rename_i hb
    simp only [hb];unfold U6 at hs
    split at hs
    ·rename_i hq
     rw [Xk] at hs;rw [hC.T];refine Zkm hq ?_;simp only [ZC];exact WX hs f7
    cases hs
   rename_i hb
   simp only [hb];exact Vg hC hs f7
  ·rename_i hs
   cases h
   split at hs
   ·rename_i hb
    simp only [hb];unfold U6 at hs
    split at hs
    ·rename_i hq
     rw [Xk] at hs;rw [hC.T];refine Zkm hq ?_;simp only [ZC];exact WX (Q:=Q) hs hQ
    cases hs
   rename_i hb
   simp only [hb];exact Vg hC hs hQ
  cases h
end
end Go.PM
end

section
namespace Go.PM
theorem Zx9 {k k':IntKind} (h:keq k k'=true):k=k':=by cases k <;> cases k' <;> first | rfl | (cases h;done)
mutual
def Zod:D->D->Bool
 | .bool a,.bool b=>(match a,b with | true,true=>true | false,false=>true | _,_=>false)
 | .int k a,.int k' b=>(match keq k k' with | true=>ieq a b | false=>false)
 | .str a,.str b=>Ub a b
 | .sl a,.sl b=>ZeS a b
 | .nilp,.nilp=>true
 | .nilf,.nilf=>true
 | .nili,.nili=>true
 | _,_=>false
def Zi0:List D->List D->Bool
 | [],[]=>true
 | x::l,y::m=>(match Zod x y with | true=>Zi0 l m | false=>false)
 | _,_=>false
def ZeS:List (List D)->List (List D)->Bool
 | [],[]=>true
 | x::l,y::m=>(match Zi0 x y with | true=>ZeS l m | false=>false)
 | _,_=>false
end
mutual
theorem Zi1:∀{x y:D},Zod x y=true->x=y
 | .bool a,y,h=>by
  cases y <;> simp only [Zod] at h <;> first | (cases h;done) | skip
  rename_i b;cases a <;> cases b <;> first | rfl | (cases h;done)
 | .int k a,y,h=>by
  cases y <;> simp only [Zod] at h <;> first | (cases h;done) | skip
  split at h
  ·rename_i hk;rw [ZeO] at h;rw [Zx9 hk,Sd h]
  cases h
 | .str a,y,h=>by
  cases y <;> simp only [Zod] at h <;> first | (cases h;done) | skip
  rw [XC] at h;rw [Sd h]
 | .sl a,y,h=>by
  cases y <;> simp only [Zod] at h <;> first | (cases h;done) | skip
  rw [ZcY h]
 | .nilp,y,h=>by cases y <;> simp only [Zod] at h <;> first | rfl | (cases h;done)
 | .nilf,y,h=>by cases y <;> simp only [Zod] at h <;> first | rfl | (cases h;done)
 | .nili,y,h=>by cases y <;> simp only [Zod] at h <;> first | rfl | (cases h;done)
theorem Zb8:∀{x y:List D},Zi0 x y=true->x=y
 | [],y,h=>by cases y <;> simp only [Zi0] at h <;> first | rfl | (cases h;done)
 | x::l,y,h=>by
  cases y <;> simp only [Zi0] at h <;> first | (cases h;done) | skip
  split at h
  ·rename_i h1;rw [Zi1 h1,Zb8 h]
  cases h
theorem ZcY:∀{x y:List (List D)},ZeS x y=true->x=y
 | [],y,h=>by cases y <;> simp only [ZeS] at h <;> first | rfl | (cases h;done)
 | x::l,y,h=>by
  cases y <;> simp only [ZeS] at h <;> first | (cases h;done) | skip
  split at h
  ·rename_i h1;rw [Zb8 h1,ZcY h]
  cases h
end
mutual
def Zya:PV->PV->Bool
 | .d x,.d y=>Zod x y
 | .undef,.undef=>true
 | .ptr a b,.ptr c d=>(match Nat.beq a c with | true=>Nat.beq b d | false=>false)
 | .asl a b n,.asl c d m=>(match Nat.beq a c,Nat.beq b d with | true,true=>Nat.beq n m | _,_=>false)
 | .nils a,.nils b=>Nat.beq a b
 | .sl a b r,.sl c d q=>(match Nat.beq a c,Nat.beq b d with | true,true=>ZeS r q | _,_=>false)
 | .elem r a,.elem q b=>(match Nat.beq a b with | true=>Zi0 r q | false=>false)
 | .func a x y,.func b z u=>(match Nat.beq a b,Zd0 x z with | true,true=>Zd0 y u | _,_=>false)
 | .iface a x,.iface b y=>(match Nat.beq a b with | true=>Zya x y | false=>false)
 | .agg x,.agg y=>Zd0 x y
 | .tuple x,.tuple y=>Zd0 x y
 | .mp a,.mp b=>Nat.beq a b
 | .nilm,.nilm=>true
 | _,_=>false
def Zd0:List PV->List PV->Bool
 | [],[]=>true
 | x::l,y::m=>(match Zya x y with | true=>Zd0 l m | false=>false)
 | _,_=>false
end
mutual
theorem Zi2:∀{x y:PV},Zya x y=true->x=y
 | x,y,h=>by
  cases x <;> cases y <;> simp only [Zya] at h <;> first
   | (cases h;done)
   | rfl
   | rw [Zi1 h]
   | rw [Ti h]
   | rw [UH h]
   | (split at h <;> first
     | (cases h;done)
     | (rename_i h1 h2;rw [Ti h1,UH h2,UH h])
     | (rename_i h1 h2;rw [Ti h1,Ti h2,ZcY h])
     | (rename_i h1 h2;rw [Ti h1,Ti h2,Ti h])
     | (rename_i h1;rw [Ti h1,Ti h])
     | (rename_i h1;rw [Ti h1,Zb8 h])
     | (rename_i h1;rw [Ti h1,Zi2 h]))
theorem UH:∀{x y:List PV},Zd0 x y=true->x=y
 | [],y,h=>by cases y <;> simp only [Zd0] at h <;> first | rfl | (cases h;done)
 | x::l,y,h=>by
  cases y <;> simp only [Zd0] at h <;> first | (cases h;done) | skip
  split at h
  ·rename_i h1;rw [Zi2 h1,UH h]
  cases h
end
def ZxK:List (List UInt8×MV)->List (List UInt8×MV)->Bool
 | [],[]=>true
 | (k,.one x)::l,(k',.one y)::m=>(match Ub k k',Zod x y with | true,true=>ZxK l m | _,_=>false)
 | (k,.agg x)::l,(k',.agg y)::m=>(match Ub k k',Zi0 x y with | true,true=>ZxK l m | _,_=>false)
 | _,_=>false
theorem Zi3:∀{x y:List (List UInt8×MV)},ZxK x y=true->x=y
 | [],[],_=>rfl
 | [],_::_,h=>by cases h
 | (_,.one _)::_,[],h=>by cases h
 | (_,.agg _)::_,[],h=>by cases h
 | (_,.one _)::_,(_,.agg _)::_,h=>by cases h
 | (_,.agg _)::_,(_,.one _)::_,h=>by cases h
 | (k,.one x)::l,(k',.one y)::m,h=>by
  simp only [ZxK] at h;split at h
  ·rename_i h1 h2;rw [XC] at h1;rw [Sd h1,Zi1 h2,Zi3 h]
  cases h
 | (k,.agg x)::l,(k',.agg y)::m,h=>by
  simp only [ZxK] at h;split at h
  ·rename_i h1 h2;rw [XC] at h1;rw [Sd h1,Zb8 h2,Zi3 h]
  cases h
def ZAH:Option (Nat×List PV×List (List UInt8×MV))->Option (Nat×List PV×List (List UInt8×MV))->Bool
 | some (n,a,l),some (m,b,k)=>(match Nat.beq n m,Zd0 a b,ZxK l k with | true,true,true=>true | _,_,_=>false)
 | none,none=>true
 | _,_=>false
theorem ZuY {x y:Option (Nat×List PV×List (List UInt8×MV))} (h:ZAH x y=true):x=y:=by
 unfold ZAH at h
 split at h
 ·split at h
  ·rename_i h1 h2 h3;rw [Ti h1,UH h2,Zi3 h3]
  cases h
 ·rfl
 cases h
def Zi4 (ms:List Nat) (j:Nat) (pre post:List Box):List Ld->Bool
 | []=>true
 | ⟨i,b,off,n⟩::l=>match anc ms i j with
  | true=>Zi4 ms j pre post l
  | false=>match ZAH (ZZ pre b off n) (ZZ post b off n) with | true=>Zi4 ms j pre post l | false=>false
theorem ZfT {ms:List Nat} {j:Nat} {pre post:List Box} {X:Prop} (hX:X):∀{l:List Ld},Zi4 ms j pre post l=true->Znc ms j pre post l X
 | [],_=>hX
 | ⟨i,b,off,n⟩::l,h=>by
  unfold Zi4 at h
  unfold Znc
  split at h
  ·rename_i h1;simp only [h1];exact ZfT hX h
  rename_i h1
  simp only [h1];split at h
  ·rename_i h2;exact ⟨ZuY h2,ZfT hX h⟩
  cases h
def J1 (call:Yy) (T:Tab) (all:List Oper) (ms:List Nat):List (Nat×Oper)->List Ld->FT->St->Option ZQ
 | [],_,t,σ=>some (.normal,t,σ)
 | (i,o)::rest,ctx,t,σ=>match Vf call T false all o t σ with
  | some (.go t' σ')=>(match Yx o.op with
   | true=>(match Zi4 ms i σ.bx σ'.bx ctx with | true=>J1 call T all ms rest ctx t' σ' | false=>none)
   | false=>J1 call T all ms rest (Wg T o i t.get ctx) t' σ')
  | some (.out v t σ)=>some (.panic v,t,σ)
  | none=>none
section
variable {C:Cx} {call:Yy} {T:Tab} {bsl:Nat->Bool} {N:Nat} {Q:PQ} {K:Frame->St->Prop}
theorem J2 (hC:CxR C call T false bsl N) {all:List Oper} {ms:List Nat}:∀{l:List (Nat×Oper)} {ctx:List Ld} {t:FT} {σ:St} {e:PExit} {t':FT} {σ':St},J1 call T all ms l ctx t σ=some (e,t',σ')->Q e t'.get σ'->X4 C all ms Q l ctx t.get σ
 | [],_,t,σ,e,t',σ',h,hQ=>by cases h;exact hQ
 | (i,o)::rest,ctx,t,σ,e,t',σ',h,hQ=>by
  unfold J1 at h
  unfold X4 X3
  split at h
  ·rename_i t1 σ1 hs
   refine Vg hC hs ?_;simp only [Zr0];split at h
   ·rename_i he
    simp only [he];split at h
    ·rename_i hc;exact ZfT (J2 hC h hQ) hc
    cases h
   rename_i he
   simp only [he,hC.T];exact J2 hC h hQ
  ·rename_i hs;cases h;exact Vg hC hs hQ
  cases h
end
def Zoe (S:FT->St->Option ZQ):Nat->FT->St->Option ZQ
 | 0,_,_=>none
 | n+1,t,σ=>match S t σ with
  | some (.normal,t,σ)=>Zoe S n t σ
  | r=>r
def pdT (pk:Bool) (ops:List Oper) (t:FT):FT:=match pk with
 | true=>t.mapI fun i v=>match ZbS i ops with | true=>.undef | false=>clean v
 | false=>.leaf
theorem Zyb {C:Cx} {pk:Bool} (h:C.pk=pk) (ops:List Oper) (t:FT):(pdT pk ops t).get=C.pd ops t.get:=by
 unfold pdT Cx.pd
 rw [h]
 cases pk with
 | true=>exact FT.mapI_get t fun i=>by cases ZbS i ops <;> rfl
 | false=>exact ZDu
def ZAl (t:FT) (da:Nat) (v:PV) (di:Nat) (σ:St):Option Stp:=match ZiY t (some da) v σ with
 | some (.go t σ)=>ZiY t (some di) .undef σ
 | r=>r
def Zof (T:Tab) (h:Hole) (t:FT) (σ:St):Option Stp:=match h.A.op,h.I.op,h.S.op with
 | .call { callee:=.builtin .append,args,argTypes },.indexAddr _ _ ix,.store ts _ x=>match argTypes.toList,args.toList,h.A.dst,h.I.dst with
  | [ty,tx],[s,z],some da,some di=>match (T.get ty).kind with
   | .slice el=>match Yh (T.get el).kind with
    | true=>none
    | false=>match Nat.ble 1 (T.get el).size,Nat.beq ts el,X2 T tx el (ev t.get z),ZgK (ev t.get x),ev t.get ix with
     | true,true,some [zr],some row,.d (.int _ n)=>match Nat.beq zr.length (T.get el).size,Nat.beq row.length (T.get el).size with
      | true,true=>match ev t.get s with
       | .nils _=>(match ieq n 0,Nat.ble (1 * (T.get el).bytes) 140737488355328 with
        | true,true=>ZiT ⟨σ.bx,(σ.nx+1)::σ.tk,σ.nx+2⟩ fun σ'=>ZAl t da (.sl (σ.nx+1) el [row]) di σ'
        | _,_=>none)
       | .sl tok e2 rows=>(match ZdU tok σ.tk,Nat.beq e2 el,ieq n rows.length,Nat.ble ((rows.length+1) * (T.get el).bytes) 140737488355328,Nat.ble (rows.length+1) 140737488355328 with
        | true,true,true,true,true=>ZiT ⟨σ.bx,(σ.nx+1)::UV tok σ.tk,σ.nx+2⟩ fun σ'=>ZAl t da (.sl (σ.nx+1) el (rows++[row])) di σ'
        | _,_,_,_,_=>none)
       | _=>none
      | _,_=>none
     | _,_,_,_,_=>none
   | _=>none
  | _,_,_,_=>none
 | _,_,_=>none
theorem Zog {t:FT} {da di:Nat} {v:PV} {σ:St} {s:Stp} {Q:PQ} {K:Frame->St->Prop} (h:ZAl t da v di σ=some s) (hK:Zr0 Q K s):Zer t.get (some da) v fun f=>Zer f (some di) .undef fun f=>K f σ:=by
 unfold ZAl at h
 refine WX (K:=fun f σ=>Zer f (some di) .undef fun f=>K f σ) (s:=(match ZiY t (some da) v σ with | some s=>s | none=>s)) ?_ ?_ (Q:=Q)
 ·cases hp:ZiY t (some da) v σ with
  | none=>rw [hp] at h;cases h
  | some r=>rfl
 cases hp:ZiY t (some da) v σ with
 | none=>rw [hp] at h;cases h
 | some r =>
 rw [hp] at h
 cases r with
 | go t1 σ1=>exact WX h hK
 | out e t1 σ1=>cases h;exact hK
theorem Zoh {T:Tab} {h:Hole} {t:FT} {σ:St} {s:Stp} {Q:PQ} {K:Frame->St->Prop} (hh:Zof T h t σ=some s) (hK:Zr0 Q K s):ZgO T h t.get σ K:=by
 unfold Zof at hh
 unfold ZgO
 split at hh
 ·rename_i h1 h2 h3
  simp only [h1,h2,h3];split at hh
  ·rename_i g1 g2 g3 g4
   simp only [g1,g2,g3,g4];split at hh
   ·rename_i hk
    simp only [hk];split at hh
    ·cases hh
    rename_i ho
    refine Yb ho ?_;split at hh
    ·rename_i k1 k2 k3 k4 k5
     simp only [k1,k2,k3,k4,k5];split at hh
     ·rename_i l1 l2
      simp only [l1,l2];split at hh
      ·rename_i hs
       simp only [hs];split at hh
       ·rename_i m1 m2
        rw [Xk] at hh;rw [ZeO] at m1;exact ⟨Sd m1,Ta m2,by rw [ZC];exact Zog hh hK⟩
       cases hh
      ·rename_i hs
       simp only [hs];split at hh
       ·rename_i m1 m2 m3 m4 m5
        rw [Xk] at hh;rw [ZeO] at m3;simp only [m1,m2];exact ⟨Sd m3,Ta m4,Ta m5,by rw [ZC];exact Zog hh hK⟩
       cases hh
      cases hh
     cases hh
    cases hh
   cases hh
  cases hh
 cases hh
def ZcZ (k:FT->St->Option ZQ):Option Stp->Option ZQ
 | some (.go t σ)=>k t σ
 | some (.out v t σ)=>some (.panic v,t,σ)
 | none=>none
def ZuZ (call:Yy) (T:Tab) (all:List Oper) (h:Hole):Option ZQ->Option ZQ
 | some (.normal,t,σ)=>ZcZ (fun t σ=>ZcZ (fun t σ=>ZcZ (fun t σ=>some (.normal,t,σ)) (Vf call T false all h.H t σ)) (Vf call T false all h.F t σ)) (Zof T h t σ)
 | r=>r
theorem ZaN {Q:PQ} {k:FT->St->Option ZQ} {s:Option Stp} {e:PExit} {t':FT} {σ':St} {K:Frame->St->Prop} (h:ZcZ k s=some (e,t',σ')) (hQ:Q e t'.get σ') (hk:∀{t σ},k t σ=some (e,t',σ')->K t.get σ):∃x,s=some x/\Zr0 Q K x:=by
 unfold ZcZ at h
 split at h
 ·exact ⟨_,rfl,hk h⟩
 ·cases h;exact ⟨_,rfl,hQ⟩
 cases h
def ZfU (pk:Bool) (ops:List Oper) (t:FT):Option ZQ->Option ZQ
 | some (.panic v,_,σ)=>some (.panic v,pdT pk ops t,σ)
 | r=>r
def Zoi (call:Yy) (T:Tab) (pk:Bool) (ops:List Oper) (t:FT) (σ:St):Option ZQ:=match Zbi ops,Zcn (Xs ops []) none (Zx 0 ops) with
 | none,true=>ZfU pk ops t (J1 call T ops (Xs ops []) (Zcm ops) [] t σ)
 | some h,_=>ZfU pk ops t (ZuZ call T ops h (J1 call T ops (Xs ops []) (W5 h.pre.length (Zx 0 h.pre)) [] t σ))
 | _,_=>none
theorem ZeT {C:Cx} {pk:Bool} (h:C.pk=pk) {ops:List Oper} {t:FT} {r:Option ZQ} {Q:PQ} {e:PExit} {t':FT} {σ':St} (hr:ZfU pk ops t r=some (e,t',σ')) (hQ:Q e t'.get σ'):∃e1 t1 σ1,r=some (e1,t1,σ1)/\Zfu C ops t.get Q e1 t1.get σ1:=by
 unfold ZfU at hr
 split at hr
 ·rename_i v t1 σ1
  injection hr with hr
  injection hr with he hr
  injection hr with ht hs
  subst he;subst ht;subst hs;refine ⟨_,_,_,rfl,?_⟩;show Q (.panic v) (C.pd ops t.get) _;rw [<- Zyb h];exact hQ
 rename_i hn
 refine ⟨_,_,_,hr,?_⟩;unfold Zfu
 split
 ·exact (hn _ _ _ hr).elim
 exact hQ
theorem Zr1 {C:Cx} {call:Yy} {T:Tab} {bsl:Nat->Bool} {N:Nat} (hC:CxR C call T false bsl N) {all:List Oper} {h:Hole} {r:Option ZQ} {Q:PQ} {e:PExit} {t':FT} {σ':St} (hr:ZuZ call T all h r=some (e,t',σ')) (hQ:Q e t'.get σ'):∃e1 t1 σ1,r=some (e1,t1,σ1)/\ZgP C all h Q e1 t1.get σ1:=by
 unfold ZuZ at hr
 split at hr
 ·rename_i t1 σ1
  refine ⟨_,_,_,rfl,?_⟩;unfold ZgP
  simp only [hC.T];obtain ⟨x,h1,h2⟩:=ZaN hr hQ (K:=fun f σ=>Wf C all Q h.F f σ fun f σ=>Wf C all Q h.H f σ fun f σ=>Q .normal f σ) fun {t σ} hk=>by
   obtain ⟨x,h1,h2⟩:=ZaN hk hQ (K:=fun f σ=>Wf C all Q h.H f σ fun f σ=>Q .normal f σ) fun {t σ} hk=>by
    obtain ⟨x,h1,h2⟩:=ZaN hk hQ (K:=fun f σ=>Q .normal f σ) fun {t σ} hk=>by cases hk;exact hQ
    exact Vg hC h1 h2
   exact Vg hC h1 h2
  exact Zoh h1 h2
 rename_i hn
 refine ⟨_,_,_,hr,?_⟩;unfold ZgP
 split
 ·exact (hn _ _ hr).elim
 exact hQ
def ZbU (call:Yy) (T:Tab) (pk:Bool) (bsl:Nat->Bool) (N:Nat):Code->FT->St->Option ZQ
 | .skip,t,σ=>some (.normal,t,σ)
 | .region _ ops draw,t,σ=>(match draw with
  | false=>ZfR call T pk bsl ops.toList ops.toList t σ
  | true=>Zoi call T pk ops.toList t σ)
 | .seq a b,t,σ=>(match ZbU call T pk bsl N a t σ with
  | some (.normal,t,σ)=>ZbU call T pk bsl N b t σ
  | r=>r)
 | .cond c x y,t,σ=>(match ev t.get c with
  | .d (.bool true)=>ZbU call T pk bsl N x t σ
  | .d (.bool false)=>ZbU call T pk bsl N y t σ
  | _=>none)
 | .block id b,t,σ=>(match ZbU call T pk bsl N b t σ with
  | some (.exit i,t,σ)=>(match Nat.beq i id with | true=>some (.normal,t,σ) | false=>some (.exit i,t,σ))
  | r=>r)
 | .scope b,t,σ=>(match ZbU call T pk bsl N b t σ with
  | some (.goto _,_,_)=>none
  | r=>r)
 | .exit id,t,σ=>some (.exit id,t,σ)
 | .goto l,t,σ=>some (.goto l,t,σ)
 | .label _,t,σ=>some (.normal,t,σ)
 | .ret,t,σ=>some (.ret,t,σ)
 | .loop b,t,σ=>Zoe (fun t σ=>ZbU call T pk bsl N b t σ) (N+1) t σ
 | _,_,_=>none
theorem Zkn {S:FT->St->Option ZQ} {W:PQ->Frame->St->Prop} (hS:∀{Q t σ e t' σ'},S t σ=some (e,t',σ')->Q e t'.get σ'->W Q t.get σ):∀{n:Nat} {Q:PQ} {t:FT} {σ:St} {e:PExit} {t':FT} {σ':St},Zoe S n t σ=some (e,t',σ')->Q e t'.get σ'->Zbj W Q n t.get σ
 | 0,_,_,_,_,_,_,h,_=>by cases h
 | n+1,Q,t,σ,e,t',σ',h,hQ=>by
  unfold Zoe at h
  unfold Zbj
  split at h
  ·rename_i t1 σ1 hs
   exact hS hs (Zkn hS h hQ)
  rename_i hn
  refine hS h ?_;split
  ·exact (hn _ _ h).elim
  exact hQ
theorem Zu0 {C:Cx} {call:Yy} {T:Tab} {pk:Bool} {bsl:Nat->Bool} {N:Nat} (hC:CxR C call T pk bsl N):∀(c:Code) {Q:PQ} {t:FT} {σ:St} {e:PExit} {t':FT} {σ':St},ZbU call T pk bsl N c t σ=some (e,t',σ')->Q e t'.get σ'->W C c Q t.get σ:=by
 intro c
 induction c with
 | region id ops draw =>
  intro Q t σ e t' σ' h hQ
  simp only [ZbU] at h;simp only [W];split at h
  ·exact ZfS hC h hQ
  unfold Zoi at h
  split at h
  ·rename_i h1 h2
   simp only [h1,h2];obtain ⟨e1,t1,σ1,h3,h4⟩:=ZeT hC.pk h hQ;exact J2 hC.calm h3 h4
  ·rename_i h1
   simp only [h1];obtain ⟨e1,t1,σ1,h3,h4⟩:=ZeT hC.pk h hQ;obtain ⟨e2,t2,σ2,h5,h6⟩:=Zr1 hC.calm h3 h4;exact J2 hC.calm h5 h6
  cases h
 | seq a b iha ihb =>
  intro Q t σ e t' σ' h hQ
  simp only [ZbU] at h;simp only [W,hC.cut];split at h
  ·rename_i t1 σ1 h1
   exact iha h1 (ihb h hQ)
  rename_i hn
  refine iha h ?_;split
  ·exact (hn _ _ h).elim
  exact hQ
 | cond c x y ihx ihy =>
  intro Q t σ e t' σ' h hQ
  simp only [ZbU] at h;simp only [W];split at h
  ·rename_i hc;simp only [hc];exact ZDs (ihx h hQ)
  ·rename_i hc;simp only [hc];exact ZDt (ihy h hQ)
  cases h
 | block id b ih =>
  intro Q t σ e t' σ' h hQ
  simp only [ZbU] at h;simp only [W];split at h
  ·rename_i i t1 σ1 h1
   refine ih h1 ?_;simp only;split at h
   ·rename_i hb;cases h;simp only [hb];exact hQ
   rename_i hb;cases h;simp only [hb];exact hQ
  rename_i hn
  refine ih h ?_;split
  ·exact (hn _ _ _ h).elim
  exact hQ
 | scope b ih =>
  intro Q t σ e t' σ' h hQ
  simp only [ZbU] at h;simp only [W];split at h
  ·cases h
  rename_i hn
  refine ih h ?_;split
  ·exact (hn _ _ _ h).elim
  exact hQ
 | loop b ih =>
  intro Q t σ e t' σ' h hQ
  simp only [ZbU] at h;simp only [W,hC.unr];exact Zkn (W:=fun Q f σ=>W C b Q f σ) (fun h hQ=>ih h hQ) h hQ
 | skip=>intro Q t σ e t' σ' h hQ;cases h;exact hQ
 | exit id=>intro Q t σ e t' σ' h hQ;cases h;exact hQ
 | goto id=>intro Q t σ e t' σ' h hQ;cases h;exact hQ
 | label id=>intro Q t σ e t' σ' h hQ;cases h;exact hQ
 | ret=>intro Q t σ e t' σ' h hQ;cases h;exact hQ
 | _=>intro Q t σ e t' σ' h hQ;cases h
end Go.PM
end

section
namespace Go.PM
structure Wr (α:Type) where
 f:α
abbrev KN:=FT->St->Option ZQ
abbrev KE:=PExit->FT->St->Option ZQ
abbrev OpF:=Yy->FT->St->KN->KE->Option ZQ
def ZtS {α:Type} (x:α):α:=x
section
variable {β:Type}
def Zu1 (b c:Nat) (κ:(FT->PV)->β):β:=match b with
 | 0=>match c with
  | 0=>κ fun t=>t.h.a0.a0
  | 1=>κ fun t=>t.h.a0.a1
  | 2=>κ fun t=>t.h.a0.a2
  | 3=>κ fun t=>t.h.a0.a3
  | 4=>κ fun t=>t.h.a0.a4
  | 5=>κ fun t=>t.h.a0.a5
  | 6=>κ fun t=>t.h.a0.a6
  | 7=>κ fun t=>t.h.a0.a7
  | _=>κ fun t=>(t.h.get no8 b).get .undef c
 | 1=>match c with
  | 0=>κ fun t=>t.h.a1.a0
  | 1=>κ fun t=>t.h.a1.a1
  | 2=>κ fun t=>t.h.a1.a2
  | 3=>κ fun t=>t.h.a1.a3
  | 4=>κ fun t=>t.h.a1.a4
  | 5=>κ fun t=>t.h.a1.a5
  | 6=>κ fun t=>t.h.a1.a6
  | 7=>κ fun t=>t.h.a1.a7
  | _=>κ fun t=>(t.h.get no8 b).get .undef c
 | 2=>match c with
  | 0=>κ fun t=>t.h.a2.a0
  | 1=>κ fun t=>t.h.a2.a1
  | 2=>κ fun t=>t.h.a2.a2
  | 3=>κ fun t=>t.h.a2.a3
  | 4=>κ fun t=>t.h.a2.a4
  | 5=>κ fun t=>t.h.a2.a5
  | 6=>κ fun t=>t.h.a2.a6
  | 7=>κ fun t=>t.h.a2.a7
  | _=>κ fun t=>(t.h.get no8 b).get .undef c
 | 3=>match c with
  | 0=>κ fun t=>t.h.a3.a0
  | 1=>κ fun t=>t.h.a3.a1
  | 2=>κ fun t=>t.h.a3.a2
  | 3=>κ fun t=>t.h.a3.a3
  | 4=>κ fun t=>t.h.a3.a4
  | 5=>κ fun t=>t.h.a3.a5
  | 6=>κ fun t=>t.h.a3.a6
  | 7=>κ fun t=>t.h.a3.a7
  | _=>κ fun t=>(t.h.get no8 b).get .undef c
 | 4=>match c with
  | 0=>κ fun t=>t.h.a4.a0
  | 1=>κ fun t=>t.h.a4.a1
  | 2=>κ fun t=>t.h.a4.a2
  | 3=>κ fun t=>t.h.a4.a3
  | 4=>κ fun t=>t.h.a4.a4
  | 5=>κ fun t=>t.h.a4.a5
  | 6=>κ fun t=>t.h.a4.a6
  | 7=>κ fun t=>t.h.a4.a7
  | _=>κ fun t=>(t.h.get no8 b).get .undef c
 | 5=>match c with
  | 0=>κ fun t=>t.h.a5.a0
  | 1=>κ fun t=>t.h.a5.a1
  | 2=>κ fun t=>t.h.a5.a2
  | 3=>κ fun t=>t.h.a5.a3
  | 4=>κ fun t=>t.h.a5.a4
  | 5=>κ fun t=>t.h.a5.a5
  | 6=>κ fun t=>t.h.a5.a6
  | 7=>κ fun t=>t.h.a5.a7
  | _=>κ fun t=>(t.h.get no8 b).get .undef c
 | 6=>match c with
  | 0=>κ fun t=>t.h.a6.a0
  | 1=>κ fun t=>t.h.a6.a1
  | 2=>κ fun t=>t.h.a6.a2
  | 3=>κ fun t=>t.h.a6.a3
  | 4=>κ fun t=>t.h.a6.a4
  | 5=>κ fun t=>t.h.a6.a5
  | 6=>κ fun t=>t.h.a6.a6
  | 7=>κ fun t=>t.h.a6.a7
  | _=>κ fun t=>(t.h.get no8 b).get .undef c
 | 7=>match c with
  | 0=>κ fun t=>t.h.a7.a0
  | 1=>κ fun t=>t.h.a7.a1
  | 2=>κ fun t=>t.h.a7.a2
  | 3=>κ fun t=>t.h.a7.a3
  | 4=>κ fun t=>t.h.a7.a4
  | 5=>κ fun t=>t.h.a7.a5
  | 6=>κ fun t=>t.h.a7.a6
  | 7=>κ fun t=>t.h.a7.a7
  | _=>κ fun t=>(t.h.get no8 b).get .undef c
 | _=>κ fun t=>(t.h.get no8 b).get .undef c
theorem Zr2 (b c:Nat) (κ:(FT->PV)->β):Zu1 b c κ=κ fun t=>(t.h.get no8 b).get .undef c:=by
 unfold Zu1
 split <;> first | rfl | (split <;> rfl)
def ZAm (n:Nat) (κ:(FT->PV)->β):β:=match Nat.div n 64 with
 | 0=>Zu1 (Nat.div n 8) (Nat.mod n 8) κ
 | _=>κ fun t=>t.get n
theorem Zyc {n:Nat} (h:Nat.div n 64=0):n<64:=by
 have:=Nat.div_add_mod n 64;have h2:=m64 n;have h3:n / 64=0:=h;rw [h3] at this;have h4:n % 64<64:=h2;omega
theorem Zoj (n:Nat) (κ:(FT->PV)->β):ZAm n κ=κ fun t=>t.get n:=by
 unfold ZAm
 split
 ·rename_i h
  have hn:=Zyc h;rw [Zr2]
  congr 1
  funext t
  unfold FT.get XN
  rw [h];have:Nat.mod n 64=n:=Nat.mod_eq_of_lt hn;rw [this];rfl
 rfl
abbrev P8:=T8 PV->PV->(T8 PV->Option ZQ)->Option ZQ
abbrev PM:=T64->(T8 PV->(T8 PV->Option ZQ)->Option ZQ)->(T64->Option ZQ)->Option ZQ
abbrev DW:=FT->PV->(FT->Option ZQ)->Option ZQ
noncomputable def Zu2 (c:Nat) (κ:P8->β):β:=match c with
 | 0=>κ fun t x k=>@T8.rec PV (fun _=>Option ZQ) (fun a0 a1 a2 a3 a4 a5 a6 a7=>k ⟨x,a1,a2,a3,a4,a5,a6,a7⟩) t
 | 1=>κ fun t x k=>@T8.rec PV (fun _=>Option ZQ) (fun a0 a1 a2 a3 a4 a5 a6 a7=>k ⟨a0,x,a2,a3,a4,a5,a6,a7⟩) t
 | 2=>κ fun t x k=>@T8.rec PV (fun _=>Option ZQ) (fun a0 a1 a2 a3 a4 a5 a6 a7=>k ⟨a0,a1,x,a3,a4,a5,a6,a7⟩) t
 | 3=>κ fun t x k=>@T8.rec PV (fun _=>Option ZQ) (fun a0 a1 a2 a3 a4 a5 a6 a7=>k ⟨a0,a1,a2,x,a4,a5,a6,a7⟩) t
 | 4=>κ fun t x k=>@T8.rec PV (fun _=>Option ZQ) (fun a0 a1 a2 a3 a4 a5 a6 a7=>k ⟨a0,a1,a2,a3,x,a5,a6,a7⟩) t
 | 5=>κ fun t x k=>@T8.rec PV (fun _=>Option ZQ) (fun a0 a1 a2 a3 a4 a5 a6 a7=>k ⟨a0,a1,a2,a3,a4,x,a6,a7⟩) t
 | 6=>κ fun t x k=>@T8.rec PV (fun _=>Option ZQ) (fun a0 a1 a2 a3 a4 a5 a6 a7=>k ⟨a0,a1,a2,a3,a4,a5,x,a7⟩) t
 | 7=>κ fun t x k=>@T8.rec PV (fun _=>Option ZQ) (fun a0 a1 a2 a3 a4 a5 a6 a7=>k ⟨a0,a1,a2,a3,a4,a5,a6,x⟩) t
 | c=>κ fun t x k=>k (t.set x c)
theorem Zr3 (c:Nat) (κ:P8->β):Zu2 c κ=κ fun t x k=>k (t.set x c):=by
 unfold Zu2
 split <;> first | rfl | (congr 1;funext t x k;cases t;rfl)
noncomputable def Zu3 (b:Nat) (κ:PM->β):β:=match b with
 | 0=>κ fun t g k=>@T8.rec (T8 PV) (fun _=>Option ZQ) (fun a0 a1 a2 a3 a4 a5 a6 a7=>g a0 fun y=>k ⟨y,a1,a2,a3,a4,a5,a6,a7⟩) t
 | 1=>κ fun t g k=>@T8.rec (T8 PV) (fun _=>Option ZQ) (fun a0 a1 a2 a3 a4 a5 a6 a7=>g a1 fun y=>k ⟨a0,y,a2,a3,a4,a5,a6,a7⟩) t
 | 2=>κ fun t g k=>@T8.rec (T8 PV) (fun _=>Option ZQ) (fun a0 a1 a2 a3 a4 a5 a6 a7=>g a2 fun y=>k ⟨a0,a1,y,a3,a4,a5,a6,a7⟩) t
 | 3=>κ fun t g k=>@T8.rec (T8 PV) (fun _=>Option ZQ) (fun a0 a1 a2 a3 a4 a5 a6 a7=>g a3 fun y=>k ⟨a0,a1,a2,y,a4,a5,a6,a7⟩) t
 | 4=>κ fun t g k=>@T8.rec (T8 PV) (fun _=>Option ZQ) (fun a0 a1 a2 a3 a4 a5 a6 a7=>g a4 fun y=>k ⟨a0,a1,a2,a3,y,a5,a6,a7⟩) t
 | 5=>κ fun t g k=>@T8.rec (T8 PV) (fun _=>Option ZQ) (fun a0 a1 a2 a3 a4 a5 a6 a7=>g a5 fun y=>k ⟨a0,a1,a2,a3,a4,y,a6,a7⟩) t
 | 6=>κ fun t g k=>@T8.rec (T8 PV) (fun _=>Option ZQ) (fun a0 a1 a2 a3 a4 a5 a6 a7=>g a6 fun y=>k ⟨a0,a1,a2,a3,a4,a5,y,a7⟩) t
 | 7=>κ fun t g k=>@T8.rec (T8 PV) (fun _=>Option ZQ) (fun a0 a1 a2 a3 a4 a5 a6 a7=>g a7 fun y=>k ⟨a0,a1,a2,a3,a4,a5,a6,y⟩) t
 | b=>κ fun t g k=>g (t.get no8 b) fun y=>k (t.set y b)
theorem Zr4 (b:Nat) (κ:PM->β):Zu3 b κ=κ fun t g k=>g (t.get no8 b) fun y=>k (t.set y b):=by
 unfold Zu3
 split <;> first | rfl | (congr 1;funext t g k;cases t;rfl)
noncomputable def ZfV {α:Type} (r:Option α) (κ:α->Option ZQ):Option ZQ:=@Option.rec α (fun _=>Option ZQ) none κ r
noncomputable def Zr5 (d:Option Nat) (κ:DW->β):β:=match d with
 | none=>κ fun t _ k=>k t
 | some n=>match Nat.div n 64 with
  | 0=>Zu2 (Nat.mod n 8) fun p8=>Zu3 (Nat.div n 8) fun pm=>κ fun t x k=>@FT.rec (fun _=>Option ZQ) (fun h r=>pm h (fun l k=>p8 l x k) fun h=>k ⟨h,r⟩) t
  | _=>κ fun t x k=>ZfV (t.put x n) k
def Zok (d:Option Nat):DW:=fun t v k=>match d with
 | none=>k t
 | some n=>match t.put v n with | some t=>k t | none=>none
theorem Js (d:Option Nat) (κ:DW->β):Zr5 d κ=κ (Zok d):=by
 unfold Zr5
 split
 ·rfl
 rename_i n
 have v7:(fun (t:FT) (x:PV) (k:FT->Option ZQ)=>ZfV (t.put x n) k)=Zok (some n):=by
  funext t x k
  unfold ZfV Zok
  simp only
  cases t.put x n <;> rfl
 split
 ·rename_i h
  have hn:=Zyc h;rw [Zr3,Zr4,<- v7]
  congr 1
  funext t x k
  cases t with
  | mk m r =>
  unfold FT.put ZfV
  simp only [h];have:Nat.mod n 64=n:=Nat.mod_eq_of_lt hn;rw [this];rfl
 rw [v7]
def evK (x:Operand) (κ:(FT->PV)->β):β:=match x with
 | .tmp i=>ZAm i κ
 | .const v=>match Zkc (Zfp v) some with
  | some c=>κ fun _=>c
  | none=>κ fun _=>.undef
 | .global _=>κ fun _=>.undef
 | .func g=>κ fun _=>.func g [] []
theorem Zby (x:Operand) (κ:(FT->PV)->β):evK x κ=κ fun t=>ev t.get x:=by
 cases x with
 | tmp i=>exact Zoj i κ
 | const v=>simp only [evK,WV];rfl
 | global _=>rfl
 | func _=>rfl
def ZAn (l:List Operand) (κ:(FT->List PV)->β):β:=match l with
 | []=>κ fun _=>[]
 | x::l=>evK x fun a=>ZAn l fun as=>κ fun t=>a t::as t
theorem Zol:∀(l:List Operand) (κ:(FT->List PV)->β),ZAn l κ=κ fun t=>l.map (ev t.get)
 | [],_=>rfl
 | x::l,κ=>by unfold ZAn;rw [Zby,Zol l];rfl
end
def evW (x:Operand):Wr (FT->PV):=evK x fun a=>⟨a⟩
def evT (t:FT):Operand->PV:=fun x=>(evW x).f t
theorem Zko (t:FT):evT t=ev t.get:=funext fun x=>by show (evW x).f t=_;unfold evW;rw [Zby]
def ZxL (t:FT) (i:Nat):PV:=(evW (.tmp i)).f t
theorem Zi5 (t:FT) (i:Nat):ZxL t i=t.get i:=by show (evW (.tmp i)).f t=_;unfold evW;rw [Zby];rfl
theorem Zkp (t:FT):ZxL t=t.get:=funext fun i=>Zi5 t i
def Zm9 (r:Option Stp) (kn:KN) (ke:KE):Option ZQ:=match r with
 | some (.go t σ)=>kn t σ
 | some (.out v t σ)=>ke (.panic v) t σ
 | none=>none
theorem Zc0 (d:Option Nat) (t:FT) (v:PV) (σ:St) (kn:KN) (ke:KE):Zok d t v (fun t=>kn t σ)=Zm9 (ZiY t d v σ) kn ke:=by
 cases d with
 | none=>rfl
 | some i =>
 unfold ZiY Zok
 simp only [WV]
 cases t.put v i <;> rfl
abbrev KV:=PV->Option ZQ
abbrev QF:=FT->List Box->KV->Option ZQ
def Zu4:TK->Nat | .slice e=>e | _=>0
noncomputable def Zyd (e:Nat) (v:PV) (k:KV):Option ZQ:=@PV.casesOn (fun _=>Option ZQ) v (fun x=>k (.d x)) (k .undef) (fun b o=>k (.ptr b o)) (fun r o=>k (.elem r o)) (fun t e r=>k (.sl t e r)) (fun _=>k (.nils e)) (fun b o n=>k (.asl b o n)) (fun f a c=>k (.func f a c)) (fun t v=>k (.iface t v)) (fun cs=>k (.agg cs)) (fun vs=>k (.tuple vs)) (fun v=>k (.raw v)) (fun b=>k (.mp b)) (k .nilm)
noncomputable def Zu5 (e:Nat) (v:PV) (k:KV):Option ZQ:=@Option.rec D (fun _=>Option ZQ) (Zyd e v k) (fun x=>k (.d x)) (dOf v)
theorem Zr6 (T:Tab) (ty:TypeId) (v:PV) (κ:KV):Zu5 (Zu4 (T.get ty).kind) v κ=ZfV (Zl6 T ty v) κ:=by
 cases v <;> try rfl
 simp only [Zl6]
 cases hk:(T.get ty).kind <;> rfl
noncomputable def Zom (v:PV):Option (IntKind×Int):=@PV.casesOn (fun _=>Option (IntKind×Int)) v (fun x=>@D.casesOn (fun _=>Option (IntKind×Int)) x (fun _=>none) (fun k a=>some (k,a)) (fun _=>none) (fun _=>none) (none) (none) (none)) (none) (fun _ _=>none) (fun _ _=>none) (fun _ _ _=>none) (fun _=>none) (fun _ _ _=>none) (fun _ _ _=>none) (fun _ _=>none) (fun _=>none) (fun _=>none) (fun _=>none) (fun _=>none) (none)
noncomputable def ZtT (v:PV):Option Bool:=@PV.casesOn (fun _=>Option Bool) v (fun x=>@D.casesOn (fun _=>Option Bool) x (fun b=>some b) (fun _ _=>none) (fun _=>none) (fun _=>none) (none) (none) (none)) (none) (fun _ _=>none) (fun _ _=>none) (fun _ _ _=>none) (fun _=>none) (fun _ _ _=>none) (fun _ _ _=>none) (fun _ _=>none) (fun _=>none) (fun _=>none) (fun _=>none) (fun _=>none) (none)
noncomputable def Zi6 (b:Bool) (κ:KV):Option ZQ:=@Bool.rec (fun _=>Option ZQ) (κ (.d (.bool false))) (κ (.d (.bool true))) b
theorem Zr7 (b:Bool) (κ:KV):Zi6 b κ=κ (.d (.bool b)):=by cases b <;> rfl
def ZAI (k:IntKind) (n:Int) (κ:KV):Option ZQ:=ZAe n fun n=>κ (.d (.int k n))
theorem Zu6 (k:IntKind) (n:Int) (κ:KV):ZAI k n κ=κ (.d (.int k n)):=by unfold ZAI;rw [Zn2]
def ZB2:Int->Int->Int
 | .ofNat m,.ofNat n=>.ofNat (Nat.add m n)
 | a,b=>a+b
theorem Zu7 (a b:Int):ZB2 a b=a+b:=by cases a <;> cases b <;> rfl
def ZAo (b:Bool):Bool:=match b with | true=>false | false=>true
theorem Zu8 (b:Bool):ZAo b=!b:=by cases b <;> rfl
section
variable {β:Type}
abbrev IF:=IntKind->Int->Int->KV->Option ZQ
noncomputable def ZAJ (op:BinOp) (κ:IF->β):β:=match op with
 | .add=>κ fun k a b κ=>ZAI k (ZcT k (ZB2 a b)) κ
 | .eql=>κ fun _ a b κ=>Zi6 (ieq a b) κ
 | .neq=>κ fun _ a b κ=>Zi6 (ZAo (ieq a b)) κ
 | .lss=>κ fun _ a b κ=>Zi6 (ilt a b) κ
 | .leq=>κ fun _ a b κ=>Zi6 (ZAo (ilt b a)) κ
 | .gtr=>κ fun _ a b κ=>Zi6 (ilt b a) κ
 | .geq=>κ fun _ a b κ=>Zi6 (ZAo (ilt a b)) κ
 | op=>κ fun k a b κ=>ZfV (Zl4 op k a b) fun v=>Zkc v κ
theorem Zu9 (op:BinOp) (κ:IF->β):ZAJ op κ=κ fun k a b κ=>ZfV (Zl4 op k a b) κ:=by
 cases op <;> simp only [ZAJ] <;> congr 1 <;> funext k a b κ <;> simp only [Zl4,Zu6,Zr7,Zu8,Zu7,WV] <;> rfl
abbrev BF:=PV->PV->KV->Option ZQ
noncomputable def ZAK (T:Tab) (op:BinOp) (t:TypeId) (x y:Operand) (κ:BF->β):β:=match ZxJ op with
 | true=>κ fun px py κ=>ZfV (Zhb T op t x y px py) fun v=>Zkc v κ
 | false=>ZAJ op fun f=>κ fun px py κ=>@Option.rec (IntKind×Int) (fun _=>Option ZQ) (ZfV (Zhb T op t x y px py) fun v=>Zkc v κ)
  (fun p=>@Option.rec (IntKind×Int) (fun _=>Option ZQ) (ZfV (Zhb T op t x y px py) fun v=>Zkc v κ)
   (fun q=>@Bool.rec (fun _=>Option ZQ) none (f p.1 p.2 q.2 κ) (keq p.1 q.1)) (Zom py)) (Zom px)
theorem ZeU {v:PV} {p:IntKind×Int} (h:Zom v=some p):v=.d (.int p.1 p.2):=by
 cases v <;> try (cases h;done)
 rename_i x
 cases x <;> try (cases h;done)
 cases h;rfl
theorem Zva (T:Tab) (op:BinOp) (t:TypeId) (x y:Operand) (κ:BF->β):ZAK T op t x y κ=κ fun px py κ=>ZfV (Zhb T op t x y px py) κ:=by
 unfold ZAK
 cases hs:ZxJ op with
 | true=>simp only [WV]
 | false =>
 simp only [Zu9,WV]
 congr 1
 funext px py κ
 cases h1:Zom px with
 | none=>rfl
 | some p =>
 cases h2:Zom py with
 | none=>rfl
 | some q =>
 rw [ZeU h1,ZeU h2];unfold Zhb
 simp only [hs]
 cases keq p.1 q.1 <;> rfl
noncomputable def Zye (c a b:PV) (κ:KV):Option ZQ:=@Option.rec Bool (fun _=>Option ZQ) none (fun b'=>@Bool.rec (fun _=>Option ZQ) (whV b κ) (whV a κ) b') (ZtT c)
theorem Zr8 (c a b:PV) (κ:KV):Zye c a b κ=ZfV (ZuU c a b) κ:=by
 cases c <;> try rfl
 rename_i x;cases x <;> try rfl
 rename_i b';cases b'
 ·exact Zn1 b κ
 exact Zn1 a κ
noncomputable def qK (T:Tab) (o:Op) (ty:TypeId) (κ:QF->β):β:=match ZgJ T o with
 | some _=>κ fun t bx κ=>ZfV (Zhg T o ty (evT t) bx) fun v=>Zkc v κ
 | none=>match o with
  | .move x=>evK x fun a=>κ fun t bx κ=>Zu5 (Zu4 (T.get ty).kind) (a t) κ
  | .assign x=>evK x fun a=>κ fun t bx κ=>Zu5 (Zu4 (T.get ty).kind) (a t) κ
  | .pick c a b=>evK c fun c=>evK a fun a=>evK b fun b=>κ fun t bx κ=>Zye (c t) (a t) (b t) κ
  | .binOp op t' x y _=>evK x fun a=>evK y fun b=>ZAK T op t' x y fun f=>κ fun t bx κ=>f (a t) (b t) κ
  | .load t' x=>evK x fun a=>κ fun t bx κ=>ZfV (Zhd T t' (a t) bx) fun v=>whV v κ
  | .fieldAddr s x i=>evK x fun a=>κ fun t bx κ=>ZfV (ZaM T s (a t) i) fun v=>Zkc v κ
  | .extract x i=>evK x fun a=>κ fun t bx κ=>ZfV (ZfP (a t) i) fun v=>whV v κ
  | .index t' x i=>evK x fun a=>evK i fun b=>κ fun t bx κ=>ZfV (Zn5 T t' (a t) (b t)) fun v=>Zkc v κ
  | o=>κ fun t bx κ=>ZfV (Zhg T o ty (evT t) bx) fun v=>Zkc v κ
theorem ZAL (T:Tab) (o:Op) (ty:TypeId) (κ:QF->β):qK T o ty κ=κ fun t bx κ=>ZfV (Zhg T o ty (ev t.get) bx) κ:=by
 unfold qK
 split
 ·simp only [WV,Zko]
 rename_i hs
 split <;> simp only [WV,Zn1,Zby,Zko,Zr8,Zva,Zr6] <;> congr 1 <;> funext t bx κ <;> unfold Zhg <;> simp only [hs,ZAh]
end
noncomputable def Zvb (pk:Bool) (dw:DW) (t:FT) (kn:KN) (ke:KE) (r:Option (PEnd×St)):Option ZQ:=match r with
 | some (.ret v,σ)=>rA v fun v=>dw t v fun t=>kn t σ
 | some (.panic v,σ)=>ke (.panic v) (pfT pk t) σ
 | none=>none
theorem Zr9 (pk:Bool) (d:Option Nat) (t:FT) (kn:KN) (ke:KE) (r:Option (PEnd×St)):Zvb pk (Zok d) t kn ke r=Zm9 (ZAk pk t d r) kn ke:=by
 unfold Zvb ZAk
 split
 ·simp only [Xk,Zx1];exact Zc0 d t _ _ kn ke
 ·simp only [Xk];rfl
 rfl
def ZAp (dw:DW) (t:FT) (kn:KN) (r:Option (PV×St)):Option ZQ:=match r with
 | some (v,σ)=>ZuP σ fun σ=>Zkc v fun v=>dw t v fun t=>kn t σ
 | none=>none
theorem Zon (d:Option Nat) (t:FT) (kn:KN) (ke:KE) (r:Option (PV×St)):ZAp (Zok d) t kn r=Zm9 (U6 t d r) kn ke:=by
 unfold ZAp U6
 split
 ·simp only [Xk,ZrV,WV];exact Zc0 d t _ _ kn ke
 rfl
def ZAq:List Box->Nat->Box->(List Box->Option ZQ)->Option ZQ
 | [],_,_,κ=>κ []
 | _::l,0,y,κ=>κ (y::l)
 | x::l,n+1,y,κ=>ZAq l n y fun l=>κ (x::l)
theorem Zoo:∀(l:List Box) (n:Nat) (y:Box) (κ:List Box->Option ZQ),ZAq l n y κ=κ (l.set n y)
 | [],_,_,_=>rfl
 | _::_,0,_,_=>rfl
 | x::l,n+1,y,κ=>by simp only [ZAq,Zoo l,List.set_cons_succ]
def Zop (T:Tab) (ty:TypeId) (a v:PV) (σ:St) (κ:St->Option ZQ):Option ZQ:=match a with
 | .ptr b off=>match σ.bx[b]?,v.cells with
  | some (.cells t0 cs),some l=>(match Nat.beq l.length (T.get ty).size,Nat.ble (off+l.length) cs.length,Yh (T.get ty).kind with
   | true,true,false=>Zrw (ZJ cs off l) fun cs=>ZAq σ.bx b (.cells t0 cs) fun bx=>κ ⟨bx,σ.tk,σ.nx⟩
   | _,_,_=>none)
  | _,_=>none
 | _=>none
theorem Zoq (T:Tab) (ty:TypeId) (a v:PV) (σ:St) (t:FT) (d:Option Nat) (kn:KN) (ke:KE):Zop T ty a v σ (fun σ=>Zok d t .undef fun t=>kn t σ)=Zm9 (U6 t d (Zkj T ty a v σ)) kn ke:=by
 unfold Zop Zkj
 cases a <;> try rfl
 rename_i b off
 simp only
 cases hb:σ.bx[b]? with
 | none=>rfl
 | some x =>
 cases x <;> try rfl
 cases hv:v.cells with
 | none=>rfl
 | some l =>
 simp only [Jr,Zoo]
 cases Nat.beq l.length (T.get ty).size <;> cases Nat.ble (off+l.length) _ <;> cases Yh (T.get ty).kind <;> try rfl
 simp only [U6,Xk];exact Zc0 d t .undef _ kn ke
section
variable {β:Type}
noncomputable def ZAM (T:Tab) (pk:Bool) (o:Oper) (κ:OpF->β):β:=match o.op with
 | .call { callee:=.value x,args,.. }=>evK x fun a=>ZAn args.toList fun as=>Zr5 o.dst fun dw=>κ fun call t σ kn ke=>Zvb pk dw t kn ke (ZiZ call (a t) (as t) σ)
 | .store ty a x=>evK a fun a=>evK x fun x=>Zr5 o.dst fun dw=>κ fun call t σ kn ke=>Zop T ty (a t) (x t) σ fun σ=>dw t .undef fun t=>kn t σ
 | .panic _=>κ fun call t σ kn ke=>Zm9 (ZuX call T pk o t σ) kn ke
 | op=>Zr5 o.dst fun dw=>κ fun call t σ kn ke=>ZAp dw t kn (Zx8 T op (evT t) σ)
theorem Zvc (T:Tab) (pk:Bool) (o:Oper) (κ:OpF->β):ZAM T pk o κ=κ fun call t σ kn ke=>Zm9 (ZuX call T pk o t σ) kn ke:=by
 unfold ZAM
 split
 ·rename_i ho
  simp only [Zby,Zol,Js,Zr9]
  congr 1;funext call t σ kn ke
  simp only [ZuX,ho]
 ·rename_i ho
  simp only [Zby,Js]
  congr 1;funext call t σ kn ke
  rw [Zoq (ke:=ke)];simp only [ZuX,ho,Zx8]
 ·rfl
 rename_i eo gy hn3
 simp only [Js]
 congr 1;funext call t σ kn ke
 rw [Zon (ke:=ke),Zko];unfold ZuX
 split
 ·rename_i ho;exact (eo _ _ _ ho).elim
 ·rename_i ho;exact (hn3 _ ho).elim
 rfl
noncomputable def runK (T:Tab) (pk:Bool) (o:Oper) (κ:OpF->β):β:=match Yx o.op with
 | false=>qK T o.op o.type fun q=>Zr5 o.dst fun dw=>κ fun call t σ kn ke=>q t σ.bx fun v=>dw t v fun t=>kn t σ
 | true=>ZAM T pk o κ
theorem Zor (T:Tab) (pk:Bool) (o:Oper) (κ:OpF->β):runK T pk o κ=κ fun call t σ kn ke=>Zm9 (Zbx call T pk o t σ) kn ke:=by
 unfold runK
 cases he:Yx o.op with
 | false =>
  simp only [ZAL,Js]
  congr 1;funext call t σ kn ke
  unfold Zbx
  simp only [he]
  cases Zhg T o.op o.type (ev t.get) σ.bx with
  | none=>rfl
  | some v=>exact Zc0 o.dst t v σ kn ke
 | true =>
 simp only [Zvc]
 congr 1;funext call t σ kn ke
 unfold Zbx
 simp only [he]
def Zvd (want:Bool) (v:PV):Option Bool:=match v with
 | .d (.bool b)=>(match b,want with | true,true=>some true | false,false=>some true | _,_=>some false)
 | .raw (.tuple _)=>some false
 | _=>none
noncomputable def Zos (T:Tab) (pk:Bool) (all:List Oper) (o:Oper) (κ:OpF->β):β:=match o.guard with
 | none=>runK T pk o κ
 | some (j,want)=>match XE all j with
  | some s=>ZAm s fun a=>Zr5 o.dst fun dw=>runK T pk o fun f=>κ fun call t σ kn ke=>@Option.rec Bool (fun _=>Option ZQ) none
   (fun b=>@Bool.rec (fun _=>Option ZQ) (dw t (.raw Go.undef) fun t=>kn t σ) (f call t σ kn ke) b) (Zvd want (a t))
  | none=>κ fun _ _ _ _ _=>none
theorem ZfW (T:Tab) (pk:Bool) (all:List Oper) (o:Oper) (κ:OpF->β):Zos T pk all o κ=κ fun call t σ kn ke=>Zm9 (Vf call T pk all o t σ) kn ke:=by
 unfold Zos
 split
 ·rename_i hg
  rw [Zor]
  congr 1;funext call t σ kn ke
  simp only [Vf,hg]
 rename_i j want hg
 split
 ·rename_i s hs
  simp only [Zoj,Js,Zor]
  congr 1;funext call t σ kn ke
  simp only [Vf,hg,hs];have hd:Zok o.dst t (.raw Go.undef) (fun t=>kn t σ)=Zm9 (ZiY t o.dst (.raw Go.undef) σ) kn ke:=Zc0 _ _ _ _ _ _;rw [hd]
  cases t.get s with
  | d x =>
   cases x with
   | bool b=>cases b <;> cases want <;> rfl
   | _=>rfl
  | raw v=>cases v <;> rfl
  | _=>rfl
 rename_i hs
 congr 1;funext call t σ kn ke
 simp only [Vf,hg,hs];rfl
noncomputable def opK (T:Tab) (pk:Bool) (bsl:Nat->Bool) (all:List Oper) (o:Oper) (κ:OpF->β):β:=match ZeR bsl o with
 | true=>Zr5 o.dst fun dw=>κ fun call t σ kn ke=>ZAp dw t kn (Zoc T o.op (evT t) σ)
 | false=>Zos T pk all o κ
def Zhi (call:Yy) (T:Tab) (pk:Bool) (bsl:Nat->Bool) (all:List Oper) (o:Oper) (t:FT) (σ:St):Option Stp:=match ZeR bsl o with
 | true=>U6 t o.dst (Zoc T o.op (ev t.get) σ)
 | false=>Vf call T pk all o t σ
theorem Zyf (T:Tab) (pk:Bool) (bsl:Nat->Bool) (all:List Oper) (o:Oper) (κ:OpF->β):opK T pk bsl all o κ=κ fun call t σ kn ke=>Zm9 (Zhi call T pk bsl all o t σ) kn ke:=by
 unfold opK Zhi
 cases ZeR bsl o with
 | true =>
  simp only [Js,Zko]
  congr 1;funext call t σ kn ke
  exact Zon _ _ _ _ _
 | false=>exact ZfW _ _ _ _ _
end
noncomputable def Zsa (T:Tab) (pk:Bool) (bsl:Nat->Bool) (all:List Oper):List Oper->Wr OpF
 | []=>⟨fun _ t σ kn _=>kn t σ⟩
 | o::rest=>opK T pk bsl all o fun f=>⟨fun call t σ kn ke=>f call t σ (fun t σ=>ZtS ((Zsa T pk bsl all rest).f call t σ kn ke)) ke⟩
def Zsb (r:Option ZQ) (kn:KN) (ke:KE):Option ZQ:=match r with
 | some (.normal,t,σ)=>kn t σ
 | some (e,t,σ)=>ke e t σ
 | none=>none
theorem Zve (r:Option ZQ):Zsb r (fun t σ=>some (.normal,t,σ)) (fun e t σ=>some (e,t,σ))=r:=by
 unfold Zsb
 split <;> rfl
theorem Zkq (T:Tab) (pk:Bool) (bsl:Nat->Bool) (all:List Oper) (call:Yy) (kn:KN) (ke:KE):∀(l:List Oper) (t:FT) (σ:St),(Zsa T pk bsl all l).f call t σ kn ke=Zsb (ZfR call T pk bsl all l t σ) kn ke
 | [],t,σ=>rfl
 | o::rest,t,σ=>by
  unfold Zsa
  rw [Zyf];unfold ZfR
  show Zm9 (Zhi call T pk bsl all o t σ) _ ke=Zsb (match Zhi call T pk bsl all o t σ with | some (.go t σ)=>ZfR call T pk bsl all rest t σ | some (.out v t σ)=>some (.panic v,t,σ) | none=>none) kn ke
  cases Zhi call T pk bsl all o t σ with
  | none=>rfl
  | some s =>
  cases s with
  | go t σ=>exact Zkq T pk bsl all call kn ke rest t σ
  | out v t σ=>rfl
abbrev LF:=FT->List Ld->(List Ld->Option ZQ)->Option ZQ
noncomputable def ldK {β:Type} (T:Tab) (o:Oper) (i:Nat) (κ:LF->β):β:=match o.op with
 | .load ty a=>evK a fun a=>κ fun t ctx κ=>match a t with
  | .ptr b off=>κ (⟨i,b,off,(T.get ty).size⟩::ctx)
  | _=>κ ctx
 | .lookup _ _ _ _=>κ fun t ctx κ=>Zrw (Wg T o i (ZxL t) ctx) κ
 | .call _=>κ fun t ctx κ=>Zrw (Wg T o i (ZxL t) ctx) κ
 | _=>κ fun _ ctx κ=>κ ctx
theorem Zyg {β:Type} (T:Tab) (o:Oper) (i:Nat) (κ:LF->β):ldK T o i κ=κ fun t ctx κ=>κ (Wg T o i t.get ctx):=by
 unfold ldK
 split
 ·rename_i ho
  rw [Zby]
  congr 1;funext t ctx κ
  simp only [Wg,ZlD,ho]
  cases ev t.get _ <;> rfl
 ·simp only [Jr,Zkp]
 ·simp only [Jr,Zkp]
 rename_i eo gy hn3
 congr 1;funext t ctx κ
 have:ZlD T o.op (ev t.get)=none:=by
  unfold ZlD
  split
  ·rename_i ho;exact (eo _ _ ho).elim
  ·rename_i ho;exact (gy _ _ _ _ ho).elim
  ·rename_i ho;exact (hn3 _ ho).elim
  rfl
 unfold Wg
 rw [this]
noncomputable def Zhj (T:Tab) (all:List Oper) (ms:List Nat):List (Nat×Oper)->Wr (Yy->List Ld->FT->St->KN->KE->Option ZQ)
 | []=>⟨fun _ _ t σ kn _=>kn t σ⟩
 | (i,o)::rest=>match Yx o.op with
  | true=>Zos T false all o fun f=>⟨fun call ctx t σ kn ke=>f call t σ (fun t' σ'=>@Bool.rec (fun _=>Option ZQ) none (ZtS ((Zhj T all ms rest).f call ctx t' σ' kn ke)) (Zi4 ms i σ.bx σ'.bx ctx)) ke⟩
  | false=>Zos T false all o fun f=>ldK T o i fun l=>⟨fun call ctx t σ kn ke=>f call t σ (fun t' σ'=>l t ctx fun ctx=>ZtS ((Zhj T all ms rest).f call ctx t' σ' kn ke)) ke⟩
theorem Zc1 (T:Tab) (all:List Oper) (ms:List Nat) (call:Yy) (kn:KN) (ke:KE):∀(l:List (Nat×Oper)) (ctx:List Ld) (t:FT) (σ:St),(Zhj T all ms l).f call ctx t σ kn ke=Zsb (J1 call T all ms l ctx t σ) kn ke
 | [],ctx,t,σ=>rfl
 | (i,o)::rest,ctx,t,σ=>by
  unfold Zhj J1
  cases Yx o.op with
  | true =>
   simp only [ZfW]
   cases Vf call T false all o t σ with
   | none=>rfl
   | some s =>
   cases s with
   | go t' σ' =>
    simp only [Zm9]
    cases Zi4 ms i σ.bx σ'.bx ctx with
    | true=>exact Zc1 T all ms call kn ke rest ctx t' σ'
    | false=>rfl
   | out v t' σ'=>rfl
  | false =>
  simp only [ZfW,Zyg]
  cases Vf call T false all o t σ with
  | none=>rfl
  | some s =>
  cases s with
  | go t' σ'=>exact Zc1 T all ms call kn ke rest _ t' σ'
  | out v t' σ'=>rfl
def pdC (pk:Bool) (ops:List Oper) (t0:FT) (kn:KN) (ke:KE):KE:=fun e t σ=>match e with
 | .normal=>kn t σ
 | .panic v=>ke (.panic v) (pdT pk ops t0) σ
 | e=>ke e t σ
noncomputable def Zvf (T:Tab) (pk:Bool) (ops:List Oper):Wr OpF:=match Zbi ops,Zcn (Xs ops []) none (Zx 0 ops) with
 | none,true=>⟨fun call t σ kn ke=>(Zhj T ops (Xs ops []) (Zcm ops)).f call [] t σ kn (pdC pk ops t kn ke)⟩
 | _,_=>⟨fun call t σ kn ke=>Zsb (Zoi call T pk ops t σ) kn ke⟩
theorem Zsc (T:Tab) (pk:Bool) (ops:List Oper) (call:Yy) (t:FT) (σ:St) (kn:KN) (ke:KE):(Zvf T pk ops).f call t σ kn ke=Zsb (Zoi call T pk ops t σ) kn ke:=by
 unfold Zvf
 split
 ·rename_i h1 h2
  simp only [Zc1];unfold Zoi
  simp only [h1,h2]
  cases J1 call T ops (Xs ops []) (Zcm ops) [] t σ with
  | none=>rfl
  | some r =>
  obtain ⟨e,t1,σ1⟩:=r
  cases e <;> rfl
 rfl
def Zvg (S:FT->St->KN->KE->Option ZQ) (ke:KE):Nat->FT->St->Option ZQ
 | 0,_,_=>none
 | n+1,t,σ=>S t σ (fun t σ=>ZtS (Zvg S ke n t σ)) ke
def Zvh (id:Nat) (kn:KN) (ke:KE):KE:=fun e t σ=>match e with
 | .exit i=>(match Nat.beq i id with | true=>kn t σ | false=>ke (.exit i) t σ)
 | e=>ke e t σ
def noGoto (ke:KE):KE:=fun e t σ=>match e with
 | .goto _=>none
 | e=>ke e t σ
noncomputable def J3 (T:Tab) (pk:Bool) (bsl:Nat->Bool) (N:Nat):Code->Wr OpF
 | .skip=>⟨fun _ t σ kn _=>kn t σ⟩
 | .region _ ops draw=>(match draw with
  | false=>Zsa T pk bsl ops.toList ops.toList
  | true=>Zvf T pk ops.toList)
 | .seq a b=>⟨fun call t σ kn ke=>(J3 T pk bsl N a).f call t σ (fun t σ=>ZtS ((J3 T pk bsl N b).f call t σ kn ke)) ke⟩
 | .cond c x y=>evK c fun c=>⟨fun call t σ kn ke=>@Option.rec Bool (fun _=>Option ZQ) none
  (fun b=>@Bool.rec (fun _=>Option ZQ) (ZtS ((J3 T pk bsl N y).f call t σ kn ke)) (ZtS ((J3 T pk bsl N x).f call t σ kn ke)) b) (ZtT (c t))⟩
 | .block id b=>⟨fun call t σ kn ke=>(J3 T pk bsl N b).f call t σ kn (Zvh id kn ke)⟩
 | .scope b=>⟨fun call t σ kn ke=>(J3 T pk bsl N b).f call t σ kn (noGoto ke)⟩
 | .exit id=>⟨fun _ t σ _ ke=>ke (.exit id) t σ⟩
 | .goto l=>⟨fun _ t σ _ ke=>ke (.goto l) t σ⟩
 | .label _=>⟨fun _ t σ kn _=>kn t σ⟩
 | .ret=>⟨fun _ t σ _ ke=>ke .ret t σ⟩
 | .loop b=>⟨fun call t σ _ ke=>Zvg (fun t σ kn ke=>(J3 T pk bsl N b).f call t σ kn ke) ke (N+1) t σ⟩
 | _=>⟨fun _ _ _ _ _=>none⟩
theorem Zsd (T:Tab) (pk:Bool) (bsl:Nat->Bool) (N:Nat) (call:Yy):∀(c:Code) (t:FT) (σ:St) (kn:KN) (ke:KE),(J3 T pk bsl N c).f call t σ kn ke=Zsb (ZbU call T pk bsl N c t σ) kn ke:=by
 intro c
 induction c with
 | region id ops draw =>
  intro t σ kn ke
  cases draw with
  | false=>exact Zkq T pk bsl ops.toList call kn ke ops.toList t σ
  | true=>exact Zsc T pk ops.toList call t σ kn ke
 | seq a b iha ihb =>
  intro t σ kn ke
  show (J3 T pk bsl N a).f call t σ _ ke=_;rw [iha];simp only [ZbU]
  cases ha:ZbU call T pk bsl N a t σ with
  | none=>rfl
  | some r =>
  obtain ⟨e,t1,σ1⟩:=r
  cases e <;> first | rfl | exact ihb _ _ _ _
 | cond c x y ihx ihy =>
  intro t σ kn ke
  simp only [J3,Zby,ZbU,ihx,ihy,ZtS]
  cases ev t.get c <;> try rfl
  rename_i d
  cases d <;> try rfl
  rename_i b
  cases b <;> rfl
 | block id b ih =>
  intro t σ kn ke
  show (J3 T pk bsl N b).f call t σ kn (Zvh id kn ke)=_;rw [ih];simp only [ZbU]
  cases hb:ZbU call T pk bsl N b t σ with
  | none=>rfl
  | some r =>
  obtain ⟨e,t1,σ1⟩:=r
  cases e <;> try rfl
  simp only [Zsb,Zvh]
  cases Nat.beq _ id <;> rfl
 | scope b ih =>
  intro t σ kn ke
  show (J3 T pk bsl N b).f call t σ kn (noGoto ke)=_;rw [ih];simp only [ZbU]
  cases hb:ZbU call T pk bsl N b t σ with
  | none=>rfl
  | some r =>
  obtain ⟨e,t1,σ1⟩:=r
  cases e <;> rfl
 | loop b ih =>
  intro t σ kn ke
  simp only [J3,ZbU];generalize N+1=n
  induction n generalizing t σ with
  | zero=>rfl
  | succ n ihn =>
  simp only [Zvg,Zoe];rw [ih]
  cases hb:ZbU call T pk bsl N b t σ with
  | none=>rfl
  | some r =>
  obtain ⟨e,t1,σ1⟩:=r
  cases e <;> first | rfl | exact ihn _ _
 | _=>intro t σ kn ke;rfl
noncomputable def Zse (call:Yy) (T:Tab) (pk:Bool) (bsl:Nat->Bool) (N:Nat) (c:Code) (t:FT) (σ:St):Option ZQ:=(J3 T pk bsl N c).f call t σ (fun t σ=>some (.normal,t,σ)) (fun e t σ=>some (e,t,σ))
theorem Zvi {call:Yy} {T:Tab} {pk:Bool} {bsl:Nat->Bool} {N:Nat} {c:Code} {t:FT} {σ:St}:Zse call T pk bsl N c t σ=ZbU call T pk bsl N c t σ:=by
 unfold Zse;rw [Zsd,Zve]
theorem ZfX {C:Cx} {call:Yy} {T:Tab} {pk:Bool} {bsl:Nat->Bool} {N:Nat} (hC:CxR C call T pk bsl N) (c:Code) {Q:PQ} {t:FT} {σ:St} {e:PExit} {t':FT} {σ':St} (h:Zse call T pk bsl N c t σ=some (e,t',σ')) (hQ:Q e t'.get σ'):W C c Q t.get σ:=Zu0 hC c (by rw [<- Zvi];exact h) hQ
noncomputable def Zyh (i:Nat):Wr DW:=Zr5 (some i) fun dw=>⟨dw⟩
noncomputable def ZAN (t:FT) (v:PV) (i:Nat):Option FT:=match (Zyh i).f t v fun t=>some (.normal,t,⟨[],[],0⟩) with
 | some (_,t,_)=>some t
 | none=>none
theorem Zvj (t:FT) (v:PV) (i:Nat):ZAN t v i=t.put v i:=by
 unfold ZAN Zyh
 rw [Js];show (match Zok (some i) t v (fun t=>some (.normal,t,⟨[],[],0⟩)) with | some (_,t,_)=>some t | none=>none)=_;unfold Zok
 simp only
 cases t.put v i <;> rfl
noncomputable def Zvk:Nat->List PV->FT->Option FT
 | _,[],t=>some t
 | i,v::vs,t=>match Zvk (i+1) vs t with | some t=>ZAN t v i | none=>none
theorem Zot:∀(i:Nat) (vs:List PV) (t:FT),Zvk i vs t=argT i vs t
 | _,[],_=>rfl
 | i,v::vs,t=>by simp only [Zvk,argT,Zot,Zvj];rfl
theorem ZfY {t0:FT} (h0:t0.get=fun _=>.undef) {vs:List PV} {i:Nat} {t:FT} (h:Zvk i vs t0=some t):t.get=Zcq i vs:=Zkb h0 (by rw [<- Zot];exact h)
end Go.PM
end

section
namespace Go.PM
abbrev N1:=List Nat->Nat->PV->PV×List Nat×Nat
def ZH (cl:PV->PV) (n:Nat):N1:=fun tk k v=>match v with
 | .sl t e rows=>(match ZdU t tk with
  | true=>(.sl k e rows,UV t tk,k+1)
  | false=>(.d (.sl rows),tk,k))
 | .nils e=>(.sl k e [],tk,k+1)
 | v=>(match bnd n v with
  | true=>(cl v,tk,k)
  | false=>(.undef,tk,k))
def ZL (f:N1):List PV->List Nat->Nat->List PV×List Nat×Nat
 | [],tk,k=>([],tk,k)
 | v::l,tk,k=>match f tk k v with
  | (v,tk,k)=>match ZL f l tk k with
   | (l,tk,k)=>(v::l,tk,k)
def Yu (n:Nat):N1:=fun tk k v=>match v with
 | .agg cs=>(match ZL (ZH cleanN n) cs tk k with | (cs,tk,k)=>(.agg cs,tk,k))
 | v=>ZH cleanN n tk k v
theorem Zsf {n:Nat} {tk:List Nat} {k:Nat} {v:PV} {K:PV->List Nat->Nat->Prop} (h:K (ZH clean n tk k v).1 (ZH clean n tk k v).2.1 (ZH clean n tk k v).2.2):ZrB n tk k v K:=by
 cases v <;> simp only [ZH,ZrB,ZF] at h |- <;> first
  | exact h
  | (split at h <;> rename_i hb <;> simp only [hb] <;> exact h)
theorem Zhk {n:Nat} {tk:List Nat} {k:Nat} {v:PV} {K:PV->List Nat->Nat->Prop} (h:K (ZH cleanN n tk k v).1 (ZH cleanN n tk k v).2.1 (ZH cleanN n tk k v).2.2):Zco n tk k v K:=by
 cases v <;> simp only [ZH,Zco,ZF] at h |- <;> first
  | exact h
  | (split at h <;> rename_i hb <;> simp only [hb] <;> exact h)
theorem J5 {n:Nat}:∀{l:List PV} {tk:List Nat} {k:Nat} {K:List PV->List Nat->Nat->Prop},K (ZL (ZH clean n) l tk k).1 (ZL (ZH clean n) l tk k).2.1 (ZL (ZH clean n) l tk k).2.2->ZrC n l tk k K
 | [],_,_,_,h=>h
 | v::l,tk,k,K,h=>Zsf (J5 h)
theorem Zhl {n:Nat}:∀{l:List PV} {tk:List Nat} {k:Nat} {K:List PV->List Nat->Nat->Prop},K (ZL (ZH cleanN n) l tk k).1 (ZL (ZH cleanN n) l tk k).2.1 (ZL (ZH cleanN n) l tk k).2.2->Zit n l tk k K
 | [],_,_,_,h=>h
 | v::l,tk,k,K,h=>Zhk (Zhl h)
theorem Zox {n:Nat} {tk:List Nat} {k:Nat} {v:PV} {K:PV->List Nat->Nat->Prop} (h:K (Yu n tk k v).1 (Yu n tk k v).2.1 (Yu n tk k v).2.2):ZgN n tk k v K:=by
 unfold ZgN
 split
 ·exact Zhl h
 rename_i hn
 refine Zhk ?_;have:Yu n tk k v=ZH cleanN n tk k v:=by cases v <;> first | rfl | exact (hn _ rfl).elim
 rw [this] at h;exact h
theorem Zc4 {n:Nat}:∀{l:List PV} {tk:List Nat} {k:Nat} {K:List PV->List Nat->Nat->Prop},K (ZL (Yu n) l tk k).1 (ZL (Yu n) l tk k).2.1 (ZL (Yu n) l tk k).2.2->Ziu n l tk k K
 | [],_,_,_,h=>h
 | v::l,tk,k,K,h=>Zox (Zc4 h)
theorem YG {P:List PV->Prop} (h0:P []) (hd:∀x l,P l->P (.d x::l)) (hu:∀l,P l->P (.undef::l)) (he:∀r o l,P l->P (.elem r o::l)) (hr:∀v l,P l->P (.raw v::l)) (hn:∀l,P l->P (.nilm::l)):∀{l:List PV},YS l=true->P l
 | [],_=>h0
 | v::l,h=>by
  cases v <;> first
   | exact hd _ _ (YG h0 hd hu he hr hn h)
   | exact hu _ (YG h0 hd hu he hr hn h)
   | exact he _ _ _ (YG h0 hd hu he hr hn h)
   | exact hr _ _ (YG h0 hd hu he hr hn h)
   | exact hn _ (YG h0 hd hu he hr hn h)
   | (cases h;done)
theorem Zl8 {l:List PV} (h:YS l=true):∀acc,XU l acc=acc :=
 YG (P:=fun l=>∀acc,XU l acc=acc) (fun _=>by simp only [XU]) (fun _ _ h a=>by simp only [XU,ZaI,h]) (fun _ h a=>by simp only [XU,ZaI,h]) (fun _ _ _ h a=>by simp only [XU,ZaI,h]) (fun _ _ h a=>by simp only [XU,ZaI,h]) (fun _ h a=>by simp only [XU,ZaI,h]) h
theorem Zoy {bs:List Nat} {l:List PV} (h:YS l=true):JJ bs l=l :=
 YG (P:=fun l=>JJ bs l=l) (by simp only [JJ]) (fun _ _ h=>by simp only [JJ,ZeG,h]) (fun _ h=>by simp only [JJ,ZeG,h]) (fun _ _ _ h=>by simp only [JJ,ZeG,h]) (fun _ _ h=>by simp only [JJ,ZeG,h]) (fun _ h=>by simp only [JJ,ZeG,h]) h
theorem Zl9 {bs:List Nat} {m L nx:Nat} {l:List PV} (h:YS l=true):Wo bs m L nx l=l :=
 YG (P:=fun l=>Wo bs m L nx l=l) (by simp only [Wo]) (fun _ _ h=>by simp only [Wo,X6,h]) (fun _ h=>by simp only [Wo,X6,h]) (fun _ _ _ h=>by simp only [Wo,X6,h]) (fun _ _ h=>by simp only [Wo,X6,h]) (fun _ h=>by simp only [Wo,X6,h]) h
theorem Zoz {n:Nat} {l:List PV} (h:YS l=true):Zes n l=true :=
 YG (P:=fun l=>Zes n l=true) (by simp only [Zes]) (fun _ _ h=>by simp only [Zes,bnd,h,Bool.and_self]) (fun _ h=>by simp only [Zes,bnd,h,Bool.and_self]) (fun _ _ _ h=>by simp only [Zes,bnd,h,Bool.and_self]) (fun _ _ h=>by simp only [Zes,bnd,h,Bool.and_self]) (fun _ h=>by simp only [Zes,bnd,h,Bool.and_self]) h
theorem ZoA {n:Nat} {l:List PV} (h:YS l=true):∀tk k,ZL (ZH clean n) l tk k=(l,tk,k) :=
 YG (P:=fun l=>∀tk k,ZL (ZH clean n) l tk k=(l,tk,k)) (fun _ _=>rfl) (fun _ _ h tk k=>by simp only [ZL,ZH,bnd,clean,h]) (fun _ h tk k=>by simp only [ZL,ZH,bnd,clean,h]) (fun _ _ _ h tk k=>by simp only [ZL,ZH,bnd,clean,h]) (fun _ _ h tk k=>by simp only [ZL,ZH,bnd,clean,h]) (fun _ h tk k=>by simp only [ZL,ZH,bnd,clean,h]) h
noncomputable def Zhm (l:List PV) (acc:List Nat):List Nat:=@Bool.rec (fun _=>List Nat) (XU l acc) acc (YS l)
theorem Zhn (l:List PV) (acc:List Nat):Zhm l acc=XU l acc:=by unfold Zhm;cases h:YS l with | true=>exact (Zl8 h acc).symm | false=>rfl
noncomputable def ZoB (bs:List Nat) (l:List PV):List PV:=@Bool.rec (fun _=>List PV) (JJ bs l) l (YS l)
theorem Zkt (bs:List Nat) (l:List PV):ZoB bs l=JJ bs l:=by unfold ZoB;cases h:YS l with | true=>exact (Zoy h).symm | false=>rfl
noncomputable def Zho (bs:List Nat) (m L nx:Nat) (l:List PV):List PV:=@Bool.rec (fun _=>List PV) (Wo bs m L nx l) l (YS l)
theorem Zhp (bs:List Nat) (m L nx:Nat) (l:List PV):Zho bs m L nx l=Wo bs m L nx l:=by unfold Zho;cases h:YS l with | true=>exact (Zl9 h).symm | false=>rfl
noncomputable def ZoC (n:Nat) (l:List PV):Bool:=@Bool.rec (fun _=>Bool) (Zes n l) true (YS l)
theorem Zsg (n:Nat) (l:List PV):ZoC n l=Zes n l:=by unfold ZoC;cases h:YS l with | true=>exact (Zoz h).symm | false=>rfl
noncomputable def Zsh (n:Nat) (l:List PV) (tk:List Nat) (k:Nat):List PV×List Nat×Nat:=@Bool.rec (fun _=>List PV×List Nat×Nat) (ZL (ZH clean n) l tk k) (l,tk,k) (YS l)
theorem J6 (n:Nat) (l:List PV) (tk:List Nat) (k:Nat):Zsh n l tk k=ZL (ZH clean n) l tk k:=by unfold Zsh;cases h:YS l with | true=>exact (ZoA h tk k).symm | false=>rfl
noncomputable def ZaO (bx:List Box):Nat->Nat->List Nat->List Nat
 | 0,_,acc=>acc
 | n+1,i,acc=>match acc[i]? with
  | none=>acc
  | some b=>match bx[b]? with
   | some (.cells _ cs)=>ZaO bx n (i+1) (Zhm cs acc)
   | some (.map cs _ _)=>ZaO bx n (i+1) (Zhm cs acc)
   | _=>ZaO bx n (i+1) acc
theorem ZaP (bx:List Box):∀(n i:Nat) (acc:List Nat),ZaO bx n i acc=U4 bx n i acc
 | 0,_,_=>rfl
 | n+1,i,acc=>by
  unfold ZaO U4
  cases acc[i]? with
  | none=>rfl
  | some b =>
  simp only
  cases bx[b]? with
  | none=>exact ZaP bx n _ _
  | some x=>cases x <;> simp only [Zhn,ZaP bx n]
noncomputable def Zf0 (bs:List Nat) (m L nx:Nat) (x:Box):Box:=@Box.casesOn (fun _=>Box) x (fun m=>.dmap m) (fun t cs=>.cells t (Zho bs m L nx cs)) (fun s p=>.iter s p) (fun a b c=>.loop a b c) (fun cs bn ck=>.map (Zho bs m L nx cs) bn ck)
theorem Zi7 (bs:List Nat) (m L nx:Nat):Zf0 bs m L nx=Jo bs m L nx:=by funext x;cases x <;> simp only [Zf0,Zhp,Jo]
def ZAO (b:Nat) (acc:List Nat):List Nat:=match ZdU b acc with | true=>acc | false=>acc++[b]
noncomputable def Zyk (l:List PV):List Nat->List Nat:=@List.rec PV (fun _=>List Nat->List Nat) (fun acc=>acc) (fun v _ ih acc=>@PV.casesOn (fun _=>List Nat) v (fun x=>ih acc) (ih acc) (fun b o=>ih (ZAO b acc)) (fun r o=>ih acc) (fun t e r=>ih acc) (fun e=>ih acc) (fun b o n'=>ih (ZAO b acc)) (fun f a c=>ih (ZaI (.func f a c) acc)) (fun t u=>ih (ZaI (.iface t u) acc)) (fun cs=>ih (Zhm cs acc)) (fun vs=>ih (ZaI (.tuple vs) acc)) (fun u=>ih acc) (fun b=>ih (ZAO b acc)) (ih acc)) l
theorem Zku:∀(l:List PV) (acc:List Nat),Zyk l acc=XU l acc
 | [],acc=>by simp only [XU];rfl
 | v::l,acc=>by
  have ih:=Zku l;simp only [XU,<- ih]
  cases v <;> first
   | (simp only [ZaI];rfl)
   | (simp only [ZaI,<- Zhn];rfl)
   | rfl
noncomputable def ZtV (l:List PV):List PV:=@List.rec PV (fun _=>List PV) [] (fun v _ ih=>@PV.casesOn (fun _=>List PV) v (fun x=>(.d x)::ih) ((.undef)::ih) (fun b o=>(.ptr b o)::ih) (fun r o=>(.elem r o)::ih) (fun t e r=>clean (.sl t e r)::ih) (fun e=>.d (.sl [])::ih) (fun b o n'=>(.asl b o n')::ih) (fun f a c=>clean (.func f a c)::ih) (fun t u=>clean (.iface t u)::ih) (fun cs=>clean (.agg cs)::ih) (fun vs=>clean (.tuple vs)::ih) (fun u=>(.raw u)::ih) (fun b=>(.mp b)::ih) ((.nilm)::ih)) l
theorem Zhq:∀(l:List PV),ZtV l=YR l
 | []=>by simp only [YR];rfl
 | v::l=>by
  simp only [YR,<- Zhq l]
  cases v <;> first
   | (simp only [clean];rfl)
   | rfl
noncomputable def ZB3 (bs:List Nat) (l:List PV):List PV:=@List.rec PV (fun _=>List PV) [] (fun v _ ih=>@PV.casesOn (fun _=>List PV) v (fun x=>(.d x)::ih) ((.undef)::ih) (fun b o=>ZeG bs (.ptr b o)::ih) (fun r o=>(.elem r o)::ih) (fun t e r=>(.sl t e r)::ih) (fun e=>(.nils e)::ih) (fun b o n'=>ZeG bs (.asl b o n')::ih) (fun f a c=>ZeG bs (.func f a c)::ih) (fun t u=>ZeG bs (.iface t u)::ih) (fun cs=>.agg (ZoB bs cs)::ih) (fun vs=>ZeG bs (.tuple vs)::ih) (fun u=>(.raw u)::ih) (fun b=>ZeG bs (.mp b)::ih) ((.nilm)::ih)) l
theorem ZoD (bs:List Nat):∀(l:List PV),ZB3 bs l=JJ bs l
 | []=>by simp only [JJ];rfl
 | v::l=>by
  simp only [JJ,<- ZoD bs l]
  cases v <;> first
   | (simp only [ZeG];rfl)
   | (simp only [ZeG,<- Zkt];rfl)
   | rfl
section
variable {β:Type}
noncomputable def ZAr (n:Nat) (l:List PV):List Nat->Nat->(List PV->List Nat->Nat->β)->β:=@List.rec PV (fun _=>List Nat->Nat->(List PV->List Nat->Nat->β)->β) (fun tk k κ=>κ [] tk k) (fun v _ ih tk k κ=>@PV.casesOn (fun _=>β) v (fun x=>ih tk k fun l tk k=>κ ((.d x)::l) tk k) (ih tk k fun l tk k=>κ ((.undef)::l) tk k) (fun b o=>(match ZH clean n tk k (.ptr b o) with | (u,tk,k)=>ih tk k fun l tk k=>κ (u::l) tk k)) (fun r o=>(match ZH clean n tk k (.elem r o) with | (u,tk,k)=>ih tk k fun l tk k=>κ (u::l) tk k)) (fun t e r=>(match ZH clean n tk k (.sl t e r) with | (u,tk,k)=>ih tk k fun l tk k=>κ (u::l) tk k)) (fun e=>(match ZH clean n tk k (.nils e) with | (u,tk,k)=>ih tk k fun l tk k=>κ (u::l) tk k)) (fun b o n'=>(match ZH clean n tk k (.asl b o n') with | (u,tk,k)=>ih tk k fun l tk k=>κ (u::l) tk k)) (fun f a c=>(match ZH clean n tk k (.func f a c) with | (u,tk,k)=>ih tk k fun l tk k=>κ (u::l) tk k)) (fun t u=>(match ZH clean n tk k (.iface t u) with | (u,tk,k)=>ih tk k fun l tk k=>κ (u::l) tk k)) (fun cs=>(match ZH clean n tk k (.agg cs) with | (u,tk,k)=>ih tk k fun l tk k=>κ (u::l) tk k)) (fun vs=>(match ZH clean n tk k (.tuple vs) with | (u,tk,k)=>ih tk k fun l tk k=>κ (u::l) tk k)) (fun u=>(match ZH clean n tk k (.raw u) with | (u,tk,k)=>ih tk k fun l tk k=>κ (u::l) tk k)) (fun b=>(match ZH clean n tk k (.mp b) with | (u,tk,k)=>ih tk k fun l tk k=>κ (u::l) tk k)) (ih tk k fun l tk k=>κ ((.nilm)::l) tk k)) l
theorem ZoE (n:Nat):∀(l:List PV) (tk:List Nat) (k:Nat) (κ:List PV->List Nat->Nat->β),ZAr n l tk k κ=κ (ZL (ZH clean n) l tk k).1 (ZL (ZH clean n) l tk k).2.1 (ZL (ZH clean n) l tk k).2.2
 | [],_,_,_=>rfl
 | v::l,tk,k,κ=>by
  have ih:=ZoE n l;have slow:∀u,(match ZH clean n tk k u with | (u,tk,k)=>ZAr n l tk k fun l tk k=>κ (u::l) tk k)=κ (ZL (ZH clean n) (u::l) tk k).1 (ZL (ZH clean n) (u::l) tk k).2.1 (ZL (ZH clean n) (u::l) tk k).2.2:=fun u=>by
   simp only [ZL,ih]
  cases v <;> first
   | exact slow _
   | (rw [<- slow];simp only [ZH,bnd,clean];rfl)
end
theorem Zma {n:Nat} {l:List PV} (h:YS l=true):∀tk k,ZL (ZH cleanN n) l tk k=(l,tk,k) :=
 YG (P:=fun l=>∀tk k,ZL (ZH cleanN n) l tk k=(l,tk,k)) (fun _ _=>rfl) (fun _ _ h tk k=>by simp only [ZL,ZH,bnd,cleanN,h]) (fun _ h tk k=>by simp only [ZL,ZH,bnd,cleanN,h]) (fun _ _ _ h tk k=>by simp only [ZL,ZH,bnd,cleanN,h]) (fun _ _ h tk k=>by simp only [ZL,ZH,bnd,cleanN,h]) (fun _ h tk k=>by simp only [ZL,ZH,bnd,cleanN,h]) h
noncomputable def ZAP (n:Nat) (v:PV):Bool:=@PV.casesOn (fun _=>Bool) v (fun x=>true) (true) (fun b o=>Nat.ble (b+1) n) (fun r o=>true) (fun t e r=>true) (fun e=>true) (fun b o n'=>Nat.ble (b+1) n) (fun f a c=>bnd n (.func f a c)) (fun t u=>bnd n (.iface t u)) (fun cs=>ZoC n cs) (fun vs=>bnd n (.tuple vs)) (fun u=>true) (fun b=>Nat.ble (b+1) n) (true)
theorem Zvn (n:Nat) (v:PV):ZAP n v=bnd n v:=by
 cases v <;> first
  | (simp only [bnd];rfl)
  | (simp only [bnd,<- Zsg];rfl)
noncomputable def ZoF (bs:List Nat) (m L nx:Nat) (v:PV):PV:=@PV.casesOn (fun _=>PV) v (fun x=>(.d x)) ((.undef)) (fun b o=>X6 bs m L nx (.ptr b o)) (fun r o=>(.elem r o)) (fun t e r=>X6 bs m L nx (.sl t e r)) (fun e=>(.nils e)) (fun b o n'=>X6 bs m L nx (.asl b o n')) (fun f a c=>X6 bs m L nx (.func f a c)) (fun t u=>X6 bs m L nx (.iface t u)) (fun cs=>.agg (Zho bs m L nx cs)) (fun vs=>X6 bs m L nx (.tuple vs)) (fun u=>(.raw u)) (fun b=>X6 bs m L nx (.mp b)) ((.nilm))
theorem ZoG (bs:List Nat) (m L nx:Nat) (v:PV):ZoF bs m L nx v=X6 bs m L nx v:=by
 cases v <;> first
  | (simp only [X6];rfl)
  | (simp only [X6,<- Zhp];rfl)
  | rfl
noncomputable def ZoH (bs:List Nat) (m L nx:Nat):PEnd->PEnd
 | .ret v=>.ret (ZoF bs m L nx v)
 | .panic v=>.panic (ZoF bs m L nx v)
theorem ZoI (bs:List Nat) (m L nx:Nat) (p:PEnd):ZoH bs m L nx p=ZnR bs m L nx p:=by cases p <;> simp only [ZoH,ZnR,ZoG]
noncomputable def Zvo (n:Nat) (tk:List Nat) (v:PV):List PV×List Nat×Nat:=@PV.casesOn (fun _=>List PV×List Nat×Nat) v (fun x=>([(.d x)],tk,0)) (ZL (Yu n) [(.undef)] tk 0) (fun b o=>ZL (Yu n) [(.ptr b o)] tk 0) (fun r o=>ZL (Yu n) [(.elem r o)] tk 0) (fun t e r=>ZL (Yu n) [(.sl t e r)] tk 0) (fun e=>ZL (Yu n) [(.nils e)] tk 0) (fun b o n'=>ZL (Yu n) [(.asl b o n')] tk 0) (fun f a c=>ZL (Yu n) [(.func f a c)] tk 0) (fun t u=>ZL (Yu n) [(.iface t u)] tk 0) (fun cs=>@Bool.rec (fun _=>List PV×List Nat×Nat) (ZL (Yu n) [.agg cs] tk 0) ([.agg cs],tk,0) (YS cs)) (fun vs=>ZL (Yu n) [(.tuple vs)] tk 0) (fun u=>ZL (Yu n) [(.raw u)] tk 0) (fun b=>ZL (Yu n) [(.mp b)] tk 0) (ZL (Yu n) [(.nilm)] tk 0)
theorem Zsi (n:Nat) (tk:List Nat) (v:PV):Zvo n tk v=ZL (Yu n) [v] tk 0:=by
 cases v <;> first
  | rfl
  | (simp only [Zvo,ZL,Yu,ZH,bnd,cleanN];done)
  | skip
 rename_i cs
 show (@Bool.rec (fun _=>List PV×List Nat×Nat) (ZL (Yu n) [.agg cs] tk 0) ([.agg cs],tk,0) (YS cs))=_
 cases h:YS cs with
 | false=>rfl
 | true=>simp only [ZL,Yu,Zma h]
noncomputable def ZaQ (n:Nat):Nat->List Box->List Nat->Nat->Option (List Box×List Nat×Nat)
 | 0,_,tk,k=>some ([],tk,k)
 | _+1,[],_,_=>none
 | m+1,.cells t cs::l,tk,k=>(match Zsh n cs tk k with
  | (cs,tk,k)=>match ZaQ n m l tk k with | some (l,tk,k)=>some (.cells t cs::l,tk,k) | none=>none)
 | m+1,.map cs bn ck::l,tk,k=>(match Zsh n cs tk k with
  | (cs,tk,k)=>match ZaQ n m l tk k with | some (l,tk,k)=>some (.map cs bn ck::l,tk,k) | none=>none)
 | m+1,x::l,tk,k=>(match ZaQ n m l tk k with | some (l,tk,k)=>some (x::l,tk,k) | none=>none)
theorem X7 {n:Nat}:∀{m:Nat} {bs:List Box} {tk:List Nat} {k:Nat} {r:List Box×List Nat×Nat} {K:List Box->List Nat->Nat->Prop},ZaQ n m bs tk k=some r->K r.1 r.2.1 r.2.2->ZbR n m bs tk k K
 | 0,_,_,_,_,_,h,hK=>by cases h;exact hK
 | _+1,[],_,_,_,_,h,_=>by cases h
 | m+1,.cells t cs::l,tk,k,r,K,h,hK=>by
  simp only [ZaQ,J6] at h;simp only [ZbR];refine J5 ?_;exact m49
 | m+1,.iter s p::l,tk,k,r,K,h,hK=>by
  exact m183
 | m+1,.loop a b c::l,tk,k,r,K,h,hK=>by
  exact m183
 | m+1,.dmap c::l,tk,k,r,K,h,hK=>by
  exact m183
 | m+1,.map cs bn ck::l,tk,k,r,K,h,hK=>by
  simp only [ZaQ,J6] at h;simp only [ZbR];refine J5 ?_;exact m49
noncomputable def Zi8 (bs:List Nat) (bx:List Box):List Nat->Option (List Box)
 | []=>some []
 | b::l=>match bx[b]? with
  | some (.cells t cs)=>(match Zi8 bs bx l with | some r=>some (.cells t (ZoB bs cs)::r) | none=>none)
  | some (.iter s p)=>(match Zi8 bs bx l with | some r=>some (.iter s p::r) | none=>none)
  | some (.map cs bn ck)=>(match Zi8 bs bx l with | some r=>some (.map (ZoB bs cs) bn ck::r) | none=>none)
  | some (.dmap m)=>(match Zi8 bs bx l with | some r=>some (.dmap m::r) | none=>none)
  | _=>none
theorem Zkv {bs:List Nat} {bx:List Box}:∀{l:List Nat} {r:List Box} {K:List Box->Prop},Zi8 bs bx l=some r->K r->Zm8 bs bx l K
 | [],r,K,h,hK=>by cases h;exact hK
 | b::l,r,K,h,hK=>by
  unfold Zi8 at h
  simp only [Zkt] at h;unfold Zm8
  split at h
  all_goals first
   | (cases h;done)
   | (rename_i hb
      simp only [hb];split at h
      ·rename_i hs;cases h;exact Zkv hs hK
      cases h)
def ZoJ (bb:Box->Box):List Nat->List Box->List Box->Option (List Box)
 | [],xs,acc=>some (acc++xs.map bb)
 | b::l,x::xs,acc=>ZoJ bb l xs (acc.set b (bb x))
 | _::_,[],_=>none
theorem Zhr {bb:Box->Box}:∀{l:List Nat} {xs acc r:List Box} {K:List Box->Prop},ZoJ bb l xs acc=some r->K r->ZdY bb l xs acc K
 | [],xs,acc,r,K,h,hK=>by cases h;exact hK
 | b::l,x::xs,acc,r,K,h,hK=>Zhr (l:=l) h hK
 | _::_,[],_,_,_,h,_=>by cases h
abbrev RFn:=List PV->St->Option (PEnd×St)
def Zd2 (r:RFn):Zo:=fun args σ K=>∃pe σ',r args σ=some (pe,σ')/\K pe σ'
noncomputable def Zvp (own:Bool) (n:Nat) (args:List PV) (tk:List Nat):List PV×List Nat×Nat:=match own with
 | true=>ZL (Yu n) args tk 0
 | false=>ZAr n args tk 0 fun l tk k=>(l,tk,k)
theorem Zvq {n:Nat} {args:List PV} {tk:List Nat}:Zvp false n args tk=ZL (ZH clean n) args tk 0:=by
 show ZAr n args tk 0 (fun l tk k=>(l,tk,k))=_;rw [ZoE]
noncomputable def UI (own:Bool) (r:RFn) (args:List PV) (σ:St):Option (PEnd×St) :=
 ZuO (ZaO σ.bx (σ.bx.length+1) 0 (Zyk args [])) fun bs=>match Zg6 bs,Zi8 bs σ.bx bs,Zvp own bs.length (ZB3 bs args) σ.tk with
  | true,some cb,(args',tk,k)=>(match ZaQ bs.length bs.length cb tk k with
   | some (cb',rest,k)=>rAL args' fun args'=>rSt ⟨cb',toks k,k⟩ fun σ2=>(match r args' σ2 with
    | some (pe,σ3)=>(match ZoJ (Zf0 bs bs.length σ.bx.length σ.nx) bs σ3.bx σ.bx with
     | some bx=>rSt ⟨bx,rest++σ3.tk.map (σ.nx+·),σ.nx+σ3.nx⟩ fun σ4=>some (ZoH bs bs.length σ.bx.length σ.nx pe,σ4)
     | none=>none)
    | none=>none)
   | none=>none)
  | _,_,_=>none
def mdR:Bool->Nat | true=>2 | false=>0
theorem Zc5 {own:Bool} {r:RFn} {args:List PV} {σ:St} {pe:PEnd} {σ':St} {K:PEnd->St->Prop} (h:UI own r args σ=some (pe,σ')) (hK:K pe σ'):Vz (mdR own) (Zd2 r) args σ K:=by
 unfold UI at h
 unfold Vz
 simp only [JX,JY,Wk];simp only [ZaK,ZaP,Zi7,Zku,ZoD,ZoI] at h;split at h
 ·rename_i cb args' tk k h1 h2 h3
  simp only [h1];refine Zkv h2 ?_;have key:∀{X:List PV->List Nat->Nat->Prop},X args' tk k->Znd (mdR own) (U4 σ.bx (σ.bx.length+1) 0 (XU args [])).length (JJ (U4 σ.bx (σ.bx.length+1) 0 (XU args [])) args) σ.tk 0 X:=by
   intro X hX
   cases own with
   | true=>exact Zc4 (by simp only [Zvp] at h3;rw [h3];exact hX)
   | false=>exact J5 (by rw [Zvq] at h3;rw [h3];exact hX)
  refine key ?_;split at h
  ·rename_i hb
   refine X7 hb ?_;simp only [Zkd,ZtJ] at h;split at h
   ·rename_i hr
    refine ⟨_,_,hr,?_⟩;split at h
    ·rename_i kh;cases h;exact Zhr kh hK
    cases h
   cases h
  cases h
 cases h
def Zc6 (T:Tab) (t:FT) (bx:List Box):List ResultVar->Option (List PV)
 | []=>some []
 | .tmp i::l=>(match Zc6 T t bx l with | some vs=>some (ZxL t i::vs) | none=>none)
 | .cell a ty::l=>(match Zhd T ty (ZxL t a) bx,Zc6 T t bx l with | some v,some vs=>some (v::vs) | _,_=>none)
theorem VB {T:Tab} {t:FT} {bx:List Box}:∀{l:List ResultVar} {vs:List PV} {K:List PV->Prop},Zc6 T t bx l=some vs->K vs->pres T t.get bx l K
 | [],vs,K,h,hK=>by cases h;exact hK
 | .tmp i::l,vs,K,h,hK=>by
  simp only [Zc6,Zi5] at h;simp only [pres,ZF];split at h
  ·rename_i h1;cases h;exact VB h1 hK
  cases h
 | .cell a ty::l,vs,K,h,hK=>by
  simp only [Zc6,Zi5] at h;simp only [pres];split at h
  ·rename_i h1 h2;cases h;refine Zhe h1 ?_;rw [ZF];exact VB h2 hK
  cases h
noncomputable def Zca (n:Nat):Nat->List Box->Bool
 | 0,_=>true
 | _,[]=>true
 | m+1,.cells _ cs::l=>(match ZoC n cs with | true=>Zca n m l | false=>false)
 | m+1,.map cs _ _::l=>(match ZoC n cs with | true=>Zca n m l | false=>false)
 | m+1,_::l=>Zca n m l
noncomputable def ZoK (k0:Nat) (v:PV) (σ:St):Nat:=match ZAP k0 v,Zca k0 k0 σ.bx with
 | true,true=>k0
 | _,_=>σ.bx.length
noncomputable def ZoL (keep:Nat) (v:PV) (σ:St):Option (PV×St):=match ZAP keep v,Zvo keep σ.tk v with
 | true,([v],tk,k)=>(match ZaQ keep keep σ.bx tk k with
  | some (bs,_,k)=>some (v,⟨bs,toks k,k⟩)
  | none=>none)
 | _,_=>none
theorem ZoM {keep:Nat} {v v':PV} {σ σ':St} {K:PV->St->Prop} (h:ZoL keep v σ=some (v',σ')) (hK:K v' σ'):UX true keep true v σ K:=by
 unfold ZoL at h
 simp only [Zvn,Zsi] at h;unfold UX
 split at h
 ·rename_i h1 h2
  simp only [h1];unfold VT
  simp only;refine Zc4 ?_;rw [h2];exact m49
 cases h
noncomputable def ZoN (p:PV->PEnd) (k0:Nat) (v:PV) (σ:St):Option (PEnd×St):=Jq (ZoK k0 v σ) fun keep=>match Nat.ble k0 keep,ZoL keep v σ with
 | true,some (v,σ)=>some (p v,σ)
 | _,_=>none
theorem Zf1 {p:PV->PEnd} {k0:Nat} {v:PV} {σ:St} {pe:PEnd} {σ':St} (h:ZoN p k0 v σ=some (pe,σ')):∃keep,k0<=keep/\∀{K:PEnd->St->Prop},K pe σ'->UX true keep true v σ fun v σ=>K (p v) σ:=by
 unfold ZoN at h
 simp only [YX] at h;split at h
 ·rename_i h1 h2;cases h;exact ⟨_,Ta h1,fun hK=>ZoM h2 hK⟩
 cases h
noncomputable def Zyl (T:Tab) (fn:Func) (k0:Nat) (r:Option ZQ):Option (PEnd×St):=match r with
 | some (.normal,t,σ)=>(match Zc6 T t σ.bx fn.results.toList with | some vs=>ZoN .ret k0 (XT vs) σ | none=>none)
 | some (.ret,t,σ)=>(match Zc6 T t σ.bx fn.results.toList with | some vs=>ZoN .ret k0 (XT vs) σ | none=>none)
 | some (.panic v,_,σ)=>ZoN .panic k0 v σ
 | _=>none
end Go.PM
end

section
namespace Go.PM
structure RInf where
 own:Nat->Bool
 bsl:Nat->Nat->Bool
 lib:Nat->Option RFn
def cxR (call:Yy) (T:Tab) (bsl:Nat->Bool) (N:Nat):Cx:=⟨T,fun g args σ K=>∃pe σ',call g args σ=some (pe,σ')/\K pe σ',ZnW,ZeM,fun _=>ZtG,fun _=>N+1,fun _=>false,bsl,true,fun _=>none,fun _=>false⟩
theorem Zhs {call:Yy} {T:Tab} {bsl:Nat->Bool} {N:Nat}:CxR (cxR call T bsl N) call T true bsl N:=⟨rfl,fun h hK=>⟨_,_,h,hK⟩,rfl,rfl,rfl,rfl⟩
theorem ZoO {G:GE} {call:Yy} {T:Tab} {bsl:Nat->Bool} {N:Nat} (hT:TabOK T G.P) (hc:CallSem G (fun g args σ K=>∃pe σ',call g args σ=some (pe,σ')/\K pe σ')):CxG G T (cxR call T bsl N) :=
 ⟨rfl,fun _ _ _=>⟨hT,hc,fun _ _ _ _ h=>h.elim,ZaJ,.inl rfl⟩,⟨fun _ h1 h2=>hT.one h1 h2,fun _ _ _ _ _ hK h=>by obtain ⟨pe,σ',h1,h2⟩:=h;exact ⟨pe,σ',h1,hK _ _ h2⟩,fun _ _ _ _ h=>h.elim,rfl⟩,fun _ _ _ _ _ h=>h⟩
noncomputable def Zc7 (own:Bool) (keep:Nat) (v:PV) (σ:St):Option (PV×St):=match bnd keep v with
 | true=>(match own with
  | true=>(match ZL (ZH clean keep) [v] σ.tk 0 with
   | ([v],tk,k)=>(match ZaQ keep keep σ.bx tk k with | some (bs,_,k)=>some (v,⟨bs,toks k,k⟩) | none=>none)
   | _=>none)
  | false=>(match ZaQ keep keep σ.bx [] 0 with | some (bs,_,k)=>some (clean v,⟨bs,toks k,k⟩) | none=>none))
 | false=>none
theorem J7 {own:Bool} {keep:Nat} {v v':PV} {σ σ':St} {K:PV->St->Prop} (h:Zc7 own keep v σ=some (v',σ')) (hK:K v' σ'):Zcp keep own v σ K:=by
 unfold Zc7 at h
 unfold Zcp UX
 split at h
 ·rename_i h1
  simp only [h1]
  cases own with
  | true =>
   simp only at h |-;unfold VT ZlF
   simp only;refine J5 ?_;split at h
   ·rename_i h2
    rw [h2];exact m49
   cases h
  | false =>
  simp only at h |-;exact m49
 cases h
def ZAs (run:Code->FT->St->Option ZQ):List Code->FT->St->Option ZQ
 | [],t,σ=>some (.normal,t,σ)
 | c::l,t,σ=>match run c t σ with
  | some (.normal,t,σ)=>ZAs run l t σ
  | r=>r
theorem ZoP {C:Cx} {run:Code->FT->St->Option ZQ} (hr:∀{c Q t σ e t' σ'},run c t σ=some (e,t',σ')->Q e t'.get σ'->W C c Q t.get σ):∀{l:List Code} {Q:PQ} {t:FT} {σ:St} {e:PExit} {t':FT} {σ':St},ZAs run l t σ=some (e,t',σ')->Q e t'.get σ'->WL C Q l t.get σ
 | [],Q,t,σ,e,t',σ',h,hQ=>by cases h;exact hQ
 | c::l,Q,t,σ,e,t',σ',h,hQ=>by
  unfold ZAs at h
  unfold WL
  split at h
  ·rename_i t1 σ1 h1
   exact hr h1 (ZoP hr h hQ)
  rename_i hn
  refine hr h ?_;split
  ·exact (hn _ _ h).elim
  exact hQ
abbrev ZAt:=ZQ×Option (FuncId×List PV)
def ZtW (run:Code->FT->St->Option ZQ) (x:Operand) (args:List Operand) (l:List Code) (t:FT) (σ:St):Option ZAt:=match ev t.get x with
 | .func g first caps=>(match ZAs run l t σ with
  | some r=>some (r,some (g,YR (first++args.map (ev t.get)++caps)))
  | none=>none)
 | _=>none
def Zi9 (run:Code->FT->St->Option ZQ) (ZdV:List Oper->List Oper->FT->St->Option ZQ):Nat->List Code->FT->St->Option ZAt
 | 0,_,_,_=>none
 | _+1,[],t,σ=>some ((.normal,t,σ),none)
 | n+1,c::l,t,σ=>match ZtU c with
  | false=>(match run c t σ with
   | some (.normal,t,σ)=>Zi9 run ZdV n l t σ
   | some r=>some (r,none)
   | none=>none)
  | true=>match c with
   | .seq a b=>Zi9 run ZdV n (a::b::l) t σ
   | .cond x a b=>(match ev t.get x with
    | .d (.bool true)=>Zi9 run ZdV n (a::l) t σ
    | .d (.bool false)=>Zi9 run ZdV n (b::l) t σ
    | _=>none)
   | c=>match ZfZ c with
    | some (all,init,x,args)=>(match ZdV all init t σ with
     | some (.normal,t,σ)=>ZtW run x args l t σ
     | some r=>some (r,none)
     | none=>none)
    | none=>none
def DQ (g0:FuncId) (Q0:PQ) (Q1:List PV->PQ):ZAt->Prop
 | ((e,t,σ),none)=>Q0 e t.get σ
 | ((e,t,σ),some (g,fa))=>g=g0/\Q1 fa e t.get σ
theorem UJ {C:Cx} {run:Code->FT->St->Option ZQ} {pops':List Oper->List Oper->FT->St->Option ZQ} (hr:∀{c Q t σ e t' σ'},run c t σ=some (e,t',σ')->Q e t'.get σ'->W C c Q t.get σ)
  (hp:∀{all l Q t σ e t' σ'},pops' all l t σ=some (e,t',σ')->Q e t'.get σ'->ZdV C all Q l t.get σ) {g0:FuncId} {Q0:PQ} {Q1:List PV->PQ}:∀{n:Nat} {l:List Code} {t:FT} {σ:St} {r:ZAt},Zi9 run pops' n l t σ=some r->DQ g0 Q0 Q1 r->WDl C g0 Q0 Q1 n l t.get σ
 | 0,_,_,_,_,h,_=>by cases h
 | n+1,[],t,σ,r,h,hQ=>by cases h;exact hQ
 | n+1,c::l,t,σ,r,h,hQ=>by
  unfold Zi9 at h
  unfold WDl
  have out:∀{X:Frame->St->Prop} {e:PExit} {t':FT} {σ':St},(∀t σ,(e,t',σ')=(PExit.normal,t,σ)->False)->DQ g0 Q0 Q1 ((e,t',σ'),none)->(match (generalizing:=false) e with | .normal=>X t'.get σ' | e=>Q0 e t'.get σ'):=fun hn hq=>by
   split
   ·exact (hn _ _ rfl).elim
   exact hq
  split at h
  ·rename_i hd
   simp only [hd];split at h
   ·rename_i t1 σ1 h1;exact hr h1 (UJ hr hp h hQ)
   ·rename_i r1 hn h1
    obtain ⟨e1,t1,σ1⟩:=r1
    cases h
    exact hr h1 (out (fun t σ he=>hn t σ (by rw [<- he])) hQ)
   cases h
  rename_i hd
  simp only [hd];split at h
  ·exact UJ hr hp h hQ
  ·split at h
   ·rename_i hx;simp only [hx];exact ZDs (UJ hr hp h hQ)
   ·rename_i hx;simp only [hx];exact ZDt (UJ hr hp h hQ)
   cases h
  rename_i eo gy
  have key:∀{X:Prop},X->(match (generalizing:=false) c with | .seq a b=>WDl C g0 Q0 Q1 n (a::b::l) t.get σ | .cond x a b=>(match ev t.get x with | .d (.bool b')=>CondP b' (WDl C g0 Q0 Q1 n (a::l) t.get σ) (WDl C g0 Q0 Q1 n (b::l) t.get σ) | _=>False) | c=>X):=fun {X} hx=>by
   split
   ·exact (eo _ _ rfl).elim
   ·exact (gy _ _ _ rfl).elim
   exact hx
  split
  ·exact (eo _ _ rfl).elim
  ·exact (gy _ _ _ rfl).elim
  split at h
  ·rename_i oe
   simp only [oe];split at h
   ·rename_i t1 σ1 h1
    refine hp h1 ?_;simp only;unfold ZtW at h
    split at h
    ·rename_i hx
     simp only [hx];split at h
     ·rename_i r1 h2
      obtain ⟨e1,t2,σ2⟩:=r1
      cases h
      obtain ⟨rfl,hQ⟩:=hQ;simp only [Nat.beq_refl];exact ZoP hr h2 hQ
     cases h
    cases h
   ·rename_i r1 hn h1
    obtain ⟨e1,t1,σ1⟩:=r1
    cases h
    refine hp h1 ?_;split
    ·exact (hn _ _ rfl).elim
    exact hQ
   cases h
  cases h
noncomputable def Zkw (T:Tab) (fn:Func) (own:Bool) (k0:Nat) (r:Option ZQ):Option St:=match r with
 | some (.normal,t,σ)=>(match Zc6 T t σ.bx fn.results.toList with | some vs=>Jq (ZoK k0 (XT vs) σ) fun keep=>(match Nat.ble k0 keep,Zc7 own keep (XT vs) σ with | true,some (_,σ)=>some σ | _,_=>none) | none=>none)
 | some (.ret,t,σ)=>(match Zc6 T t σ.bx fn.results.toList with | some vs=>Jq (ZoK k0 (XT vs) σ) fun keep=>(match Nat.ble k0 keep,Zc7 own keep (XT vs) σ with | true,some (_,σ)=>some σ | _,_=>none) | none=>none)
 | _=>none
noncomputable def ZB4 (run:Code->FT->St->Option ZQ) (T:Tab) (fn:Func) (pv:Option PV) (args:List PV) (σ:St):Option St:=match Zvk 0 args (FT.full (Nat.div fn.ntmps 64)),Nat.ble args.length fn.ntmps with
 | some t,true=>(match Zyi (Ye fn) with
  | some (a,b,rest)=>(match t.put (pv.getD (.d .nili)) a with
   | some t=>(match t.put (pv.getD (.d .nili)) b with
    | some t=>Zkw T fn false σ.bx.length (run rest t σ)
    | none=>none)
   | none=>none)
  | none=>(match pv with
   | none=>Zkw T fn true σ.bx.length (run (Ye fn) t σ)
   | some _=>none))
 | _,_=>none
theorem Zht {T:Tab} {fn:Func} {own:Bool} {k0:Nat} {r:Option ZQ} {σ':St} (h:Zkw T fn own k0 r=some σ'):∃e t σ keep vs v,r=some (e,t,σ)/\(e=.normal\/e=.ret)/\k0<=keep/\Zc6 T t σ.bx fn.results.toList=some vs/\Zc7 own keep (XT vs) σ=some (v,σ'):=by
 unfold Zkw at h
 split at h
 ·split at h
  ·rename_i hp
   simp only [YX] at h;split at h
   ·rename_i h1 h2;cases h;exact ⟨_,_,_,_,_,_,rfl,.inl rfl,Ta h1,hp,h2⟩
   cases h
  cases h
 ·split at h
  ·rename_i hp
   simp only [YX] at h;split at h
   ·rename_i h1 h2;cases h;exact ⟨_,_,_,_,_,_,rfl,.inr rfl,Ta h1,hp,h2⟩
   cases h
  cases h
 cases h
noncomputable def Zym (T:Tab) (fn:Func) (k0:Nat) (t:FT) (σ:St):Option (PEnd×St):=match Zc6 T t σ.bx fn.results.toList with
 | some vs=>Jq (ZoK k0 (XT vs) σ) fun keep=>(match Nat.ble k0 keep,Zc7 true keep (XT vs) σ with
  | true,some (v,σ)=>some (.ret v,σ)
  | _,_=>none)
 | none=>none
theorem Zja {T:Tab} {fn:Func} {k0:Nat} {t:FT} {σ σ':St} {pe:PEnd} (h:Zym T fn k0 t σ=some (pe,σ')):∃keep,k0<=keep/\∀{K:PEnd->St->Prop},K pe σ'->pres T t.get σ.bx fn.results.toList fun vs=>Zcp keep true (XT vs) σ fun v σ'=>K (.ret v) σ':=by
 unfold Zym at h
 split at h
 ·rename_i hp
  simp only [YX] at h;split at h
  ·rename_i h1 h2;cases h;exact ⟨_,Ta h1,fun hK=>VB hp (J7 h2 hK)⟩
  cases h
 cases h
noncomputable def ZoQ (T:Tab) (fn:Func) (k0:Nat) (t:FT) (r:Option St):Option (PEnd×St):=match r with
 | some σ=>Zym T fn k0 (t.map clean) σ
 | none=>none
noncomputable def Zvr (T:Tab) (fn:Func) (k0:Nat) (e:PExit) (t:FT) (σ:St):Option (PEnd×St):=match e with
 | .normal=>Zym T fn k0 t σ
 | .ret=>Zym T fn k0 t σ
 | .panic v=>Jq (ZoK k0 v σ) fun keep=>(match Nat.ble k0 keep,Zc7 true keep v σ with
   | true,some (v,σ)=>some (.panic v,σ)
   | _,_=>none)
 | _=>none
theorem Zsj {T:Tab} {fn:Func} {k0:Nat} {e:PExit} {t:FT} {σ σ':St} {pe:PEnd} (h:Zvr T fn k0 e t σ=some (pe,σ')):∃keep,k0<=keep/\∀{K:PEnd->St->Prop},K pe σ'->ZuF T fn keep true K e t.get σ:=by
 unfold Zvr at h
 split at h
 ·obtain ⟨keep,h1,h2⟩:=Zja h;exact ⟨keep,h1,fun hK=>h2 hK⟩
 ·obtain ⟨keep,h1,h2⟩:=Zja h;exact ⟨keep,h1,fun hK=>h2 hK⟩
 ·simp only [YX] at h;split at h
  ·rename_i h1 h2;cases h;exact ⟨_,Ta h1,fun hK=>J7 h2 hK⟩
  cases h
 cases h
noncomputable def Zvs (call:Yy) (T:Tab) (bsl:Nat->Bool) (N:Nat) (fn:Func):RFn:=fun args σ =>
 match Zvk 0 args (FT.full (Nat.div fn.ntmps 64)),Nat.ble args.length fn.ntmps with
 | some t,true=>Zyl T fn σ.bx.length (Zse call T true bsl N (Ye fn) t σ)
 | _,_=>none
def Zvt (fn:Func):Bool:=match fn.body with
 | some c => (match Zz fn.ntmps c, fn.name == "runtime.NumGoroutine" with | true, false => true | _, _ => false)
 | none=>false
noncomputable def Zmb (P:Program) (call:Yy) (T:Tab) (N:Nat) (g:FuncId) (pv:Option PV) (fa:List PV) (σ:St):Option St:=match P.funcs[g]? with
 | some fn=>(match Zvt fn with
  | true=>ZB4 (fun c t σ=>Zse call T true (fun _=>false) N c t σ) T fn pv fa σ
  | false=>none)
 | none=>none
noncomputable def Zyn (P:Program) (call:Yy) (T:Tab) (N:Nat) (fn:Func) (k0:Nat) (g:FuncId) (fa:List PV) (e:PExit) (t:FT) (σ:St):Option (PEnd×St):=match e with
 | .normal=>ZoQ T fn k0 t (Zmb P call T N g none fa σ)
 | .ret=>ZoQ T fn k0 t (Zmb P call T N g none fa σ)
 | .panic v=>ZoQ T fn k0 t (Zmb P call T N g (some v) fa σ)
 | _=>none
noncomputable def ZoR (P:Program) (call:Yy) (T:Tab) (bsl:Nat->Bool) (N:Nat) (fn:Func):RFn:=fun args σ =>
 match Zvk 0 args (FT.full (Nat.div fn.ntmps 64)),Nat.ble args.length fn.ntmps with
 | some t,true=>(match Zi9 (fun c t σ=>Zse call T true bsl N c t σ) (fun all l t σ=>ZfR call T true bsl all l t σ) 99 [Ye fn] t σ with
  | some ((e,t,σ'),none)=>Zvr T fn σ.bx.length e t σ'
  | some ((e,t,σ'),some (g,fa))=>Zyn P call T N fn σ.bx.length g fa e t σ'
  | none=>none)
 | _,_=>none
section
variable {G:GE} {T:Tab} {call:Yy} {N:Nat}
theorem Zjb {fn : Func} (h : Zvt fn = true) : ∃ c, fn.body = some c /\ Zz fn.ntmps c = true /\ (fn.name == "runtime.NumGoroutine") = false := by
 unfold Zvt at h
 cases hb:fn.body with
 | none=>rw [hb] at h;cases h
 | some c =>
 rw [hb] at h;simp only at h;split at h
 ·rename_i h1 h2;exact ⟨c,rfl,h1,h2⟩
 cases h
def ZAu (call:Yy):FuncId->List PV->St->(PEnd->St->Prop)->Prop:=fun g args σ K=>∃pe σ',call g args σ=some (pe,σ')/\K pe σ'
theorem Zsk (hT:TabOK T G.P) (ax:G.P.follows .mixedOrders=true) (hc:CallSem G (ZAu call)) {bsl:Nat->Bool} {g:FuncId} {fn:Func} (hf:G.P.funcs[g]?=some fn) (hk:Zvt fn=true):PCalls G g (Zd2 (Zvs call T bsl N fn)):=by
 obtain ⟨c,hb,az,ak⟩:=Zjb hk;refine ⟨Zk hf ak hb,fun args σ K hs n e w vs hS ha=>?_⟩;obtain ⟨pe,σ',hr,hK⟩:=hs;unfold Zvs at hr
 split at hr
 ·rename_i t ht aa
  have ht:=ZfY (ZDq _) ht;have go:∀keep,(∀e1 t1 σ1,Zse call T true bsl N (Ye fn) t σ=some (e1,t1,σ1)->Zng true T fn keep true K e1 t1.get σ1)->σ.bx.length<=keep->CallsIn (fw none) n G.P g vs w (Y2 G e σ w K):=fun keep hQ ef=>by
   cases ah:Zse call T true bsl N (Ye fn) t σ with
   | none=>rw [ah] at hr;cases hr
   | some out =>
   obtain ⟨e1,t1,σ1⟩:=out;refine ZfM (C:=cxR call T bsl N) hT hc (fun _ _ _ _ h=>h) (fun _ _ _ _ _ h=>h) ax hf hb az (ag:=true) (own:=true) ef (Ta aa) ?_ hS ha;unfold WFG
   rw [<- ht];exact ZfX Zhs _ ah (hQ _ _ _ ah)
  unfold Zyl at hr
  split at hr
  ·exact m89
  ·exact m89
  ·rename_i v t1 σ1 ah
   obtain ⟨keep,d7,bj⟩:=Zf1 hr;exact go keep (fun e2 t2 σ2 h=>by rw [ah] at h;cases h;exact bj hK) d7
  cases hr
 cases hr
theorem Zmc (hT:TabOK T G.P) (ax:G.P.follows .mixedOrders=true) (hc:CallSem G (ZAu call)) {g:FuncId} {fa:List PV} {pv:Option PV} {σ σ2:St} (h:Zmb G.P call T N g pv fa σ=some σ2) :
  PDef G g (fun a s K=>a=fa/\s=σ/\pv=none/\K σ2) (fun p a s K=>a=fa/\s=σ/\pv=some p/\K σ2):=by
 unfold Zmb at h
 split at h
 ·rename_i fn hf
  split at h
  ·rename_i hk
   obtain ⟨c,hb,az,ak⟩:=Zjb hk;have qi:Ye fn=c:=by simp [Ye,hb]
   unfold ZB4 at h
   split at h
   ·rename_i t ht aa
    have ht:=ZfY (ZDq _) ht;have aa:=Ta aa;split at h
    ·rename_i a b rest o9
     rw [qi] at o9;split at h
     ·rename_i t1 h1
      split at h
      ·rename_i t2 h2
       obtain ⟨e,t3,σ3,keep,vs,v,ah,he,ef,hp,hl⟩:=Zht h;have hg:t2.get=V0 (V0 (Zcq 0 fa) a (pv.getD (.d .nili))) b (pv.getD (.d .nili)):=by rw [ZDo h2,ZDo h1,ht]
       have fin:∀{K:St->Prop},K σ2->W (cxR call T (fun _=>false) N) rest (ZxM T fn keep K) t2.get σ:=fun hK=>ZfX Zhs _ ah (by rcases he with rfl | rfl <;> exact VB hp (J7 hl hK))
       refine Zov hT ax hf hb ak o9 az (fun args s K hs=>?_) (fun p args s K hs=>?_)
       ·exact m118
       exact m118
      cases h
     cases h
    split at h
    ·obtain ⟨e,t3,σ3,keep,vs,v,ah,he,ef,hp,hl⟩:=Zht h;rw [qi] at ah;have fin:∀{K:St->Prop},K σ2->W (cxR call T (fun _=>false) N) c (Zvm T fn keep K) t.get σ:=fun hK=>ZfX Zhs _ ah (by rcases he with rfl | rfl <;> exact VB hp (J7 hl hK))
     have:=ZeV hT ax hf hb ak az (spR:=fun a s K=>a=fa/\s=σ/\(none:Option PV)=none/\K σ2) (fun args s K hs=>by
      obtain ⟨rfl,rfl,_,hK⟩:=hs;exact ⟨cxR call T (fun _=>false) N,keep,ZoO hT hc,ef,aa,by have:=fin hK;rw [ht] at this;exact this⟩)
     exact ⟨this.enters,this.ret,fun pv args σ K hs=>by obtain ⟨_,_,h,_⟩:=hs;cases h⟩
    cases h
   cases h
  cases h
 cases h
theorem ZoS (hT:TabOK T G.P) (ax:G.P.follows .mixedOrders=true) (hc:CallSem G (ZAu call)) {bsl:Nat->Bool} {g:FuncId} {fn:Func} (hf:G.P.funcs[g]?=some fn) (hk:Zvt fn=true):PCalls G g (Zd2 (ZoR G.P call T bsl N fn)):=by
 obtain ⟨c,hb,az,ak⟩:=Zjb hk;have ah:∀{c Q t σ e t' σ'},Zse call T true bsl N c t σ=some (e,t',σ')->Q e t'.get σ'->W (cxR call T bsl N) c Q t.get σ:=fun h hQ=>ZfX Zhs _ h hQ
 have wc:∀{all l Q t σ e t' σ'},ZfR call T true bsl all l t σ=some (e,t',σ')->Q e t'.get σ'->ZdV (cxR call T bsl N) all Q l t.get σ:=fun h hQ=>ZfS Zhs h hQ
 refine ⟨Zk hf ak hb,fun args σ K hs n e w vs hS ha=>?_⟩;obtain ⟨pe,σ',hr,hK⟩:=hs;unfold ZoR at hr
 split at hr
 ·rename_i t ht aa
  have ht:=ZfY (ZDq _) ht;have aa:=Ta aa;split at hr
  ·rename_i e1 t1 σ1 h1
   obtain ⟨keep,d7,bj⟩:=Zsj hr;have hd:PDef G g (fun _ _ _=>False) (fun _ _ _ _=>False):=⟨Zk hf ak hb,fun _ _ _ h=>h.elim,fun _ _ _ _ h=>h.elim⟩
   exact (Zb9 hT ax hf hb ak az hd (sp:=fun a s K'=>a=args/\s=σ/\K' pe σ') (fun a s K' hs=>by
    obtain ⟨rfl,rfl,rv⟩:=hs;refine ⟨cxR call T bsl N,keep,true,ZoO hT hc,d7,aa,?_⟩;rw [<- ht];exact UJ ah wc h1 (bj rv))).calls args σ K ⟨rfl,rfl,hK⟩ n e w vs hS ha
  ·rename_i e1 t1 σ1 g0 fa h1
   unfold Zyn at hr
   have go:∀{pv:Option PV},ZoQ T fn σ.bx.length t1 (Zmb G.P call T N g0 pv fa σ1)=some (pe,σ')->((e1=.normal\/e1=.ret)/\pv=none\/∃v,e1=.panic v/\pv=some v)->CallsIn (fw none) n G.P g vs w (Y2 G e σ w K):=by
    intro pv hr wd
    unfold ZoQ at hr
    split at hr
    ·rename_i σ2 hd
     obtain ⟨keep,d7,bj⟩:=Zja hr;refine (Zb9 hT ax hf hb ak az (Zmc hT ax hc hd) (sp:=fun a s K'=>a=args/\s=σ/\K' pe σ') (fun a s K' hs=>?_)).calls args σ K ⟨rfl,rfl,hK⟩ n e w vs hS ha;obtain ⟨rfl,rfl,rv⟩:=hs;refine ⟨cxR call T bsl N,keep,true,ZoO hT hc,d7,aa,?_⟩;rw [<- ht];have dl:=bj rv;rw [FT.map_get] at dl;refine UJ ah wc h1 ⟨rfl,?_⟩;rcases wd with ⟨rfl | rfl,rfl⟩ | ⟨v,rfl,rfl⟩
     ·exact ⟨rfl,rfl,rfl,dl⟩
     ·exact ⟨rfl,rfl,rfl,dl⟩
     exact ⟨rfl,rfl,rfl,dl⟩
    cases hr
   split at hr
   ·exact go hr (.inl ⟨.inl rfl,rfl⟩)
   ·exact go hr (.inl ⟨.inr rfl,rfl⟩)
   ·exact go hr (.inr ⟨_,rfl,rfl⟩)
   cases hr
  cases hr
 cases hr
end
noncomputable def fnR (P:Program) (call:Yy) (T:Tab) (I:RInf) (N:Nat) (g:FuncId):RFn:=match I.lib g with
 | some r=>r
 | none=>match P.funcs[g]? with
  | some fn=>(match Zvt fn with | true=>(match ZtU (Ye fn) with | false=>Zvs call T (I.bsl g) N fn | true=>ZoR P call T (I.bsl g) N fn) | false=>fun _ _=>none)
  | none=>fun _ _=>none
noncomputable def ZaR (P:Program) (T:Tab) (I:RInf) (N:Nat):Nat->Yy
 | 0=>fun _ _ _=>none
 | n+1=>fun g args σ=>match I.own g with
  | true=>UI true (fnR P (ZaR P T I N n) T I N g) args σ
  | false=>UI false (fnR P (ZaR P T I N n) T I N g) (ZtV args) σ
theorem ZoT {G:GE} {T:Tab} (hT:TabOK T G.P) (ax:G.P.follows .mixedOrders=true) {I:RInf} (hI:∀g r,I.lib g=some r->PCalls G g (Zd2 r)) {N:Nat} :
  ∀n,(∀g,(∃args σ x,fnR G.P (ZaR G.P T I N n) T I N g args σ=some x)->PCalls G g (Zd2 (fnR G.P (ZaR G.P T I N n) T I N g)))/\CallSem G (fun g args σ K=>∃pe σ',ZaR G.P T I N n g args σ=some (pe,σ')/\K pe σ'):=by
 have step:∀call:Yy,CallSem G (ZAu call)->∀g,(∃args σ x,fnR G.P call T I N g args σ=some x)->PCalls G g (Zd2 (fnR G.P call T I N g)):=by
  intro call hc g hx
  obtain ⟨a0,s0,x0,hx⟩:=hx;unfold fnR at hx |-
  cases hl:I.lib g with
  | some r=>simp only;exact hI g r hl
  | none =>
  simp only [hl] at hx;simp only
  cases hf:G.P.funcs[g]? with
  | none=>simp only [hf] at hx;cases hx
  | some fn =>
  simp only [hf] at hx;simp only
  cases hk:Zvt fn with
  | false=>simp only [hk] at hx;cases hx
  | true =>
  simp only
  cases ZtU (Ye fn) with
  | false=>exact Zsk hT ax hc hf hk
  | true=>exact ZoS hT ax hc hf hk
 intro n
 induction n with
 | zero =>
  have h0:CallSem G (fun g args σ K=>∃pe σ',ZaR G.P T I N 0 g args σ=some (pe,σ')/\K pe σ'):=fun g args σ K h=>by
   obtain ⟨_,_,h,_⟩:=h
   cases h
  exact ⟨step _ h0,h0⟩
 | succ n ih =>
 have hs:CallSem G (fun g args σ K=>∃pe σ',ZaR G.P T I N (n+1) g args σ=some (pe,σ')/\K pe σ'):=fun g args σ K h=>by
  obtain ⟨pe,σ',h,hK⟩:=h;simp only [ZaR] at h;have live:∀own args,UI own (fnR G.P (ZaR G.P T I N n) T I N g) args σ=some (pe,σ')->PCalls G g (Zd2 (fnR G.P (ZaR G.P T I N n) T I N g)):=fun own args h=>by
   refine ih.1 g ?_;unfold UI at h
   simp only [ZaK] at h;split at h
   ·split at h
    ·simp only [Zkd,ZtJ] at h;split at h
     ·rename_i hr;exact ⟨_,_,_,hr⟩
     cases h
    cases h
   cases h
  split at h
  ·exact XB (live _ _ h) (Zc5 h hK)
  have:=XB (live _ _ h) (Zc5 h hK);exact ⟨this.1,fun ro n e w vs hS ha=>this.2 ro n e w vs hS (by rw [Zhq];exact ha.clean (Later.refl e σ w))⟩
 exact ⟨step _ hs,hs⟩
theorem ZeW {G:GE} {T:Tab} (hT:TabOK T G.P) (ax:G.P.follows .mixedOrders=true) {I:RInf} (hI:∀g r,I.lib g=some r->PCalls G g (Zd2 r)) {N n:Nat} {g:FuncId} {args:List PV} {σ:St} {pe:PEnd} {σ':St}
  (h:fnR G.P (ZaR G.P T I N n) T I N g args σ=some (pe,σ')):PCalls G g fun a s K=>a=args/\s=σ/\K pe σ' :=
 have hP:=(ZoT hT ax hI n).1 g ⟨_,_,_,h⟩
 ⟨hP.enters,fun a s K hs=>by obtain ⟨rfl,rfl,hK⟩:=hs;exact hP.calls _ _ _ ⟨_,_,h,hK⟩⟩
end Go.PM
end
