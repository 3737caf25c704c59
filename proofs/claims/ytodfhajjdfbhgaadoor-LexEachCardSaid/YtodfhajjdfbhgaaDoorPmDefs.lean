/-
  THE PURE LOGIC, 1: values as trees, boxes with local numbers, and the executable precondition 'W' of a function's code.
-/
import GoSem.Core.Program
import GoSem.Core.Utf8
import GoSem.Op.IntBits
import Derived.CallsIn
set_option linter.unusedVariables false
set_option linter.unusedSimpArgs false
set_option linter.all false
namespace Go.PM

/-- Data without addresses. -/
inductive D where
  | bool (b : Bool) | int (k : IntKind) (n : Int) | str (s : List UInt8) | sl (rows : List (List D)) | nilp | nilf | nili
  deriving Inhabited

/-- Values. -/
inductive PV where
  | d (x : D) | undef | ptr (b off : Nat) | elem (r : List D) (off : Nat) | sl (tok e : Nat) (rows : List (List D)) | nils (e : Nat)
  | func (f : FuncId) (first caps : List PV) | iface (t : TypeId) (v : PV) | agg (cs : List PV) | tuple (vs : List PV) | raw (v : Value)
  deriving Inhabited

inductive Box where
  | cells (t : TypeId) (cs : List PV) | iter (s : List UInt8) (pos : Nat) | loop (st : LoopState) (pd : Option Code) (r : Loop)
  deriving Inhabited

structure St where
  bx : List Box
  tk : List Nat
  nx : Nat

/-! ### The table of types -/
inductive TK where
  | other | int (k : IntKind) | bool | string | ptr (e : Nat) | slice (e : Nat) | array (n e : Nat) | struct (fs : List (Nat × Nat)) | func | iface
structure TI where
  size : Nat
  bytes : Nat
  kind : TK
  zero : List PV
  eqok : Bool
def TI.no : TI := ⟨0, 0, .other, [], false⟩
inductive Tab where
  | leaf | node (l : Tab) (k : Nat) (v : TI) (r : Tab)
def Tab.get : Tab → Nat → TI
  | .leaf, _ => TI.no
  | .node l k v r, n => match Nat.beq n k with
    | true => v
    | false => match Nat.ble n k with
      | true => l.get n
      | false => r.get n
def TK.isAgg : TK → Bool | .array _ _ | .struct _ => true | _ => false

/-! ### Frames -/
abbrev Frame := Nat → PV
def fset (f : Frame) (i : Nat) (v : PV) : Frame := fun n => match Nat.beq i n with
  | true => v
  | false => f n
def ofConst : Value → PV
  | .bool b => .d (.bool b)
  | .int k n => .d (.int k n)
  | .string s => .d (.str s.data.toList)
  | .pointer none => .d .nilp
  | .slice none 0 0 => .nils 0
  | .nilFunc => .d .nilf
  | .nilIface => .d .nili
  | v => .raw v
def ev (f : Frame) : Operand → PV
  | .tmp t => f t
  | .const v => ofConst v
  | .global _ => .undef
  | .func g => .func g [] []
def CondP : Bool → Prop → Prop → Prop
  | true, X, _ => X
  | false, _, Y => Y
def force (v : PV) (K : PV → Prop) : Prop := match v with
  | .d x => K (.d x) | .undef => K .undef | .ptr b off => K (.ptr b off) | .elem r off => K (.elem r off) | .sl t z r => K (.sl t z r) | .nils z => K (.nils z)
  | .func f a c => K (.func f a c) | .iface t v => K (.iface t v) | .agg cs => K (.agg cs) | .tuple vs => K (.tuple vs) | .raw v => K (.raw v)
def putK (f : Frame) (d : Option Nat) (v : PV) (K : Frame → Prop) : Prop := match d with
  | some i => force v fun v => K (fset f i v)
  | none => K f
theorem CondP.intro {t : Bool} {X Y : Prop} (h1 : t = true → X) (h2 : t = false → Y) : CondP t X Y := by cases t; exact h2 rfl; exact h1 rfl

/-! ### Small lists -/
def takeN {α : Type} : Nat → List α → Option (List α)
  | 0, _ => some []
  | n + 1, x :: l => match takeN n l with | some r => some (x :: r) | none => none
  | _ + 1, [] => none
def setRange {α : Type} : List α → Nat → List α → List α
  | l, _, [] => l
  | [], _, _ => []
  | _ :: l, 0, v :: vs => v :: setRange l 0 vs
  | x :: l, n + 1, vs => x :: setRange l n vs
def nmem (t : Nat) : List Nat → Bool
  | [] => false
  | x :: l => match Nat.beq x t with | true => true | false => nmem t l
def ndel (t : Nat) : List Nat → List Nat
  | [] => []
  | x :: l => match Nat.beq x t with | true => ndel t l | false => x :: ndel t l
def PV.cells : PV → Option (List PV)
  | .agg cs => some cs | .undef => none | .tuple _ => none | .raw (.func f a c) => some [.raw (.func f a c)] | .raw _ => none | v => some [v]
def toD : PV → Option D | .d x => some x | .sl _ _ rows => some (.sl rows) | .nils _ => some (.sl []) | _ => none
def toDs : List PV → Option (List D)
  | [] => some []
  | v :: l => match toD v with | some x => (match toDs l with | some r => some (x :: r) | none => none) | none => none
def keq : IntKind → IntKind → Bool
  | .i8, .i8 | .i16, .i16 | .i32, .i32 | .i64, .i64 | .u8, .u8 | .u16, .u16 | .u32, .u32 | .u64, .u64 => true
  | _, _ => false

/-! ### The operations that leave the store alone -/
def bitsOf0 (op : BinOp) (k : IntKind) (a b : Int) : Int := match (Op.intBits op k a b : Sem Value) with | .pure (.int _ n) => n | _ => 0
/-- Sealed: the kernel is not to look into it. -/
noncomputable def bitsOf : BinOp → IntKind → Int → Int → Int := Classical.choose (⟨bitsOf0, rfl⟩ : ∃ f, f = bitsOf0)
theorem bitsOf_eq : bitsOf = bitsOf0 := Classical.choose_spec (⟨bitsOf0, rfl⟩ : ∃ f, f = bitsOf0)
/-- In range: nothing is wrapped. -/
def InR (k : IntKind) (n : Int) : Prop := k.wrap n = n
def wrapK (k : IntKind) (n : Int) (K : PV → Prop) : Prop := (InR k n ∧ K (.d (.int k n))) ∨ K (.d (.int k (k.wrap n)))
def pint (op : BinOp) (k : IntKind) (a b : Int) (K : PV → Prop) : Prop := match op with
  | .add => wrapK k (a + b) K | .sub => wrapK k (a - b) K | .mul => wrapK k (a * b) K
  | .quo => b ≠ 0 ∧ wrapK k (a.tdiv b) K | .rem => b ≠ 0 ∧ K (.d (.int k (a.tmod b)))
  | .and => K (.d (.int k (bitsOf .and k a b))) | .or => K (.d (.int k (bitsOf .or k a b))) | .xor => K (.d (.int k (bitsOf .xor k a b))) | .andNot => K (.d (.int k (bitsOf .andNot k a b)))
  | .eql => K (.d (.bool (decide (a = b)))) | .neq => K (.d (.bool (!decide (a = b)))) | .lss => K (.d (.bool (decide (a < b)))) | .leq => K (.d (.bool (decide (a ≤ b))))
  | .gtr => K (.d (.bool (decide (b < a)))) | .geq => K (.d (.bool (decide (b ≤ a))))
  | _ => False
def constB : Operand → Bool | .const _ => true | _ => false
/-- Structs of ints, bools and strings, cell by cell. -/
def peqCells (T : Tab) : Nat → List (Nat × Nat) → List PV → List PV → (Bool → Prop) → Prop
  | _, [], [], [], K => K true
  | i, (o, t) :: fs, x :: xs, y :: ys, K => match Nat.beq o i, (T.get t).kind, x, y with
    | true, .int _, .d (.int k a), .d (.int k' b) => (match keq k k' with | true => peqCells T (i + 1) fs xs ys fun r => K (decide (a = b) && r) | false => False)
    | true, .string, .d (.str a), .d (.str b) => peqCells T (i + 1) fs xs ys fun r => K (decide (a = b) && r)
    | true, .bool, .d (.bool a), .d (.bool b) => peqCells T (i + 1) fs xs ys fun r => K (decide (a = b) && r)
    | _, _, _, _ => False
  | _, _, _, _, _ => False
def peq (T : Tab) (t : TypeId) (x y : Operand) (px py : PV) (K : Bool → Prop) : Prop := match (T.get t).kind with
  | .bool => match px, py with
    | .d (.bool a), .d (.bool b) => K (decide (a = b))
    | _, _ => False
  | .ptr _ => match px, py with
    | .d .nilp, .d .nilp => K true
    | .d .nilp, .ptr _ _ => K false
    | .d .nilp, .elem _ _ => K false
    | .ptr _ _, .d .nilp => K false
    | .elem _ _, .d .nilp => K false
    | _, _ => False
  | .func => match px, py with
    | .d .nilf, .d .nilf => K true
    | .d .nilf, .func _ _ _ => K false
    | .func _ _ _, .d .nilf => K false
    | _, _ => False
  | .iface => match px, py with
    | .d .nili, .d .nili => match constB x || constB y with | true => K true | false => False
    | .d .nili, .iface _ _ => K false
    | .iface _ _, .d .nili => K false
    | .iface t (.d (.int k a)), .iface t' (.d (.int k' b)) => match Nat.beq t t', (T.get t).kind, (T.get t).eqok with
      | true, .int _, true => (match keq k k' with | true => K (decide (a = b)) | false => False)
      | false, _, _ => K false
      | _, _, _ => False
    | _, _ => False
  | .slice _ => match px, py with
    | .nils _, .nils _ => K true
    | .d (.sl (_ :: _)), .nils _ => K false
    | .sl _ _ (_ :: _), .nils _ => K false
    | _, _ => False
  | .struct fs => match (T.get t).eqok with
    | true => match px, py with
      | .agg xs, .agg ys => peqCells T 0 fs xs ys K
      | _, _ => False
    | false => False
  | _ => False
def pbin (T : Tab) (op : BinOp) (t : TypeId) (x y : Operand) (px py : PV) (K : PV → Prop) : Prop :=
  match px, py with
  | .d (.int k a), .d (.int k' b) => match op with
    | .shl => 0 ≤ b ∧ wrapK k (a * 2 ^ (min b.toNat k.bits)) K
    | .shr => 0 ≤ b ∧ K (.d (.int k (a.fdiv (2 ^ (min b.toNat k.bits)))))
    | op => match keq k k' with | true => pint op k a b K | false => False
  | .d (.str a), .d (.str b) => match op with
    | .add => a.length + b.length < 2 ^ 62 ∧ K (.d (.str (a ++ b))) | .eql => K (.d (.bool (decide (a = b)))) | .neq => K (.d (.bool (!decide (a = b))))
    | .lss => K (.d (.bool (Op.bytesLess a b))) | .geq => K (.d (.bool (!Op.bytesLess a b)))
    | .leq => K (.d (.bool (Op.bytesLess a b || decide (a = b)))) | .gtr => K (.d (.bool (!(Op.bytesLess a b || decide (a = b)))))
    | _ => False
  | px, py => match op with
    | .eql => peq T t x y px py fun b => K (.d (.bool b))
    | .neq => peq T t x y px py fun b => K (.d (.bool (!b)))
    | _ => False
def decodeL (s : List UInt8) (pos : Nat) : Nat × Nat := Utf8.decode ⟨s.toArray⟩ pos
def fillParts (T : Tab) (fs : List (Nat × Nat)) (ρ : Operand → PV) : List (Nat × Operand) → List PV → (List PV → Prop) → Prop
  | [], cs, K => K cs
  | (i, x) :: ps, cs, K => match fs[i]?, (ρ x).cells with
    | some (o, t), some l => match Nat.beq l.length (T.get t).size, Nat.ble (o + l.length) cs.length, (T.get t).kind with
      | _, _, .other => False
      | true, true, _ => fillParts T fs ρ ps (setRange cs o l) K
      | _, _, _ => False
    | _, _ => False
/-- An array's elements, as fields. -/
def arrFs (s e : Nat) : Nat → Nat → List (Nat × Nat)
  | 0, _ => []
  | n + 1, i => (i * s, e) :: arrFs s e n (i + 1)
def slBounds (lo hi : Option PV) (len : Nat) (K : Nat → Nat → Prop) : Prop :=
  match lo, hi with
  | none, none => K 0 len
  | some x, none => match x with
    | .d (.int _ n) => 0 ≤ n ∧ n ≤ len ∧ K n.toNat len
    | _ => False
  | none, some y => match y with
    | .d (.int _ m) => 0 ≤ m ∧ m ≤ len ∧ K 0 m.toNat
    | _ => False
  | some x, some y => match x, y with
    | .d (.int _ n), .d (.int _ m) => 0 ≤ n ∧ n ≤ m ∧ m ≤ len ∧ K n.toNat m.toNat
    | _, _ => False
def cut {α : Type} (l : List α) (a b : Nat) : List α := (l.take b).drop a
/-- A slice expression. -/
def pslice (T : Tab) (t : TypeId) (x : PV) (lo hi : Option PV) (K : PV → Prop) : Prop := match (T.get t).kind with
  | .string => match x with
    | .d (.str s) => slBounds lo hi s.length fun a b => K (.d (.str (cut s a b)))
    | _ => False
  | .slice e => match (T.get e).kind with
    | .other => False
    | _ => match toD x with
      | some (.sl rows) => (∀ r ∈ rows, r.length = (T.get e).size) ∧ slBounds lo hi rows.length fun a b => K (.d (.sl (cut rows a b)))
      | _ => False
  | _ => False
/-- A load, out of a box or out of a row. -/
def pload (T : Tab) (t : TypeId) (x : PV) (bx : List Box) (K : PV → Prop) : Prop := match x with
  | .ptr b off => match bx[b]? with
    | some (.cells _ cs) => match (T.get t).kind.isAgg with
      | true => match takeN (T.get t).size (cs.drop off) with | some l => K (.agg l) | none => False
      | false => match (T.get t).kind with | .other => False | _ => match cs[off]? with | some v => K v | none => False
    | _ => False
  | .elem r off => match (T.get t).kind.isAgg with
      | true => match takeN (T.get t).size (r.drop off) with | some l => K (.agg (l.map .d)) | none => False
      | false => match (T.get t).kind with | .other => False | _ => match r[off]? with | some v => K (.d v) | none => False
  | _ => False
/-- One operation that leaves the store alone. -/
def qop (T : Tab) (o : Op) (ty : TypeId) (ρ : Operand → PV) (bx : List Box) (K : PV → Prop) : Prop :=
  match o with
  | .move x | .assign x => match ρ x with
    | .nils _ => match (T.get ty).kind with | .slice e => K (.nils e) | _ => K (.nils 0)
    | v => K v
  | .pick c a b => match ρ c with | .d (.bool t) => CondP t (K (ρ a)) (K (ρ b)) | _ => False
  | .build t ps => match (T.get t).kind with
    | .struct fs => fillParts T fs ρ ps.toList (T.get t).zero fun cs => K (.agg cs)
    | .array n e => match (T.get e).kind with
      | .other => False
      | _ => match Nat.ble 1 (T.get e).size with
        | true => fillParts T (arrFs (T.get e).size e n 0) ρ ps.toList (T.get t).zero fun cs => K (.agg cs)
        | false => False
    | _ => False
  | .load t a => pload T t (ρ a) bx K
  | .nilCheck x => match ρ x with
    | .ptr b off => K (.ptr b off)
    | .elem r off => K (.elem r off)
    | .func g a c => K (.func g a c)
    | _ => False
  | .binOp op t x y _ => pbin T op t x y (ρ x) (ρ y) K
  | .unOp op _ x => match op, ρ x with
    | .not, .d (.bool b) => K (.d (.bool (!b)))
    | .neg, .d (.int k a) => wrapK k (0 - a) K
    | .xor, .d (.int k a) => K (.d (.int k (bitsOf .xor k (if k.signed then -1 else k.max) a)))
    | _, _ => False
  | .convert s d x => match (T.get s).kind with
    | .other => False
    | .slice e => match (T.get d).kind with
      | .string => match (T.get e).kind with
        | .int .u8 => match toD (ρ x) with
          | some (.sl rows) => ∃ l : List UInt8, rows = l.map (fun b => [.int .u8 b.toNat]) ∧ K (.d (.str l))
          | _ => False
        | _ => False
      | _ => False
    | _ => match (T.get d).kind with
      | .int k => match ρ x with | .d (.int _ n) => wrapK k n K | _ => False
      | .string => match ρ x with | .d (.str s) => K (.d (.str s)) | .d (.int _ n) => K (.d (.str (Utf8.encode n).data.toList)) | _ => False
      | _ => False
  | .fieldAddr s x i => match (T.get s).kind with
    | .struct fs => match fs[i]? with
      | some (o, _) => match ρ x with
        | .ptr b off => K (.ptr b (off + o))
        | .elem r off => K (.elem r (off + o))
        | _ => False
      | none => False
    | _ => False
  | .field s x i => match (T.get s).kind with
    | .struct fs => match fs[i]? with
      | some (o, t) => match ρ x with
        | .agg cs => match (T.get t).kind.isAgg with
          | true => match takeN (T.get t).size (cs.drop o) with | some l => K (.agg l) | none => False
          | false => match (T.get t).kind with | .other => False | _ => match cs[o]? with | some v => K v | none => False
        | _ => False
      | none => False
    | _ => False
  | .index t x i => match ρ i with
    | .d (.int _ n) => match (T.get t).kind with
      | .string => match ρ x with
        | .d (.str s) => 0 ≤ n ∧ n < s.length ∧ K (.d (.int .u8 (s.getD n.toNat 0).toNat))
        | _ => False
      | .array m e => match ρ x with
        | .agg cs => match (T.get e).kind.isAgg with
          | true => False
          | false => match (T.get e).kind with
            | .other => False
            | _ => match Nat.beq (T.get e).size 1 with
              | true => match cs[n.toNat]? with | some v => 0 ≤ n ∧ n < m ∧ K v | none => False
              | false => False
        | _ => False
      | _ => False
    | _ => False
  | .indexAddr t x i => match ρ i with
    | .d (.int _ n) => match (T.get t).kind with
      | .slice e => match (T.get e).kind with
        | .other => False
        | _ => match toD (ρ x) with
          | some (.sl rows) => ∃ r, 0 ≤ n ∧ rows[n.toNat]? = some r ∧ (match Nat.beq r.length (T.get e).size with | true => K (.elem r 0) | false => False)
          | _ => False
      | _ => False
    | _ => False
  | .slice t x lo hi none => pslice T t (ρ x) (lo.map ρ) (hi.map ρ) K
  | .extract x i => match ρ x with
    | .tuple vs => match vs[i]? with | some v => K v | none => False
    | _ => False
  | .makeFunc (.func g) a c => K (.func g (a.toList.map ρ) (c.toList.map ρ))
  | .makeInterface t x => match (T.get t).kind with
    | .iface => False
    | .other => False
    | _ => K (.iface t (ρ x))
  | .typeAssert x _ t true => match (T.get t).kind with
    | .iface => False
    | .other => False
    | _ => match ρ x with
      | .iface t' v => match Nat.beq t' t with
        | true => K (.tuple [v, .d (.bool true)])
        | false => False
      | _ => False
  | .call { callee := .builtin b, args, argTypes } => match b, argTypes.toList, args.toList.map ρ with
    | .len, t :: _, [v] => match (T.get t).kind with
      | .string => match v with | .d (.str s) => K (.d (.int .i64 s.length)) | _ => False
      | .slice _ => match toD v with | some (.sl rows) => K (.d (.int .i64 rows.length)) | _ => False
      | _ => False
    | .min, _, [.d (.int k a), .d (.int k' b)] => match keq k k' with | true => K (.d (.int k (min a b))) | false => False
    | .max, _, [.d (.int k a), .d (.int k' b)] => match keq k k' with | true => K (.d (.int k (max a b))) | false => False
    | _, _, _ => False
  | _ => False

/-- '[]byte(s)': one block more. -/
def isS2B (T : Tab) (o : Op) : Option Operand := match o with
  | .convert s d x => match (T.get s).kind with
    | .string => match (T.get d).kind with
      | .slice e => match (T.get e).kind with
        | .int .u8 => some x
        | _ => none
      | _ => none
    | _ => none
  | _ => none
def qopG (T : Tab) (o : Op) (ty : TypeId) (ρ : Operand → PV) (bx : List Box) (K : PV → Prop) : Prop := match isS2B T o with
  | some x => match ρ x with
    | .d (.str s) => K (.d (.sl (s.map fun b => [.int .u8 b.toNat])))
    | _ => False
  | none => qop T o ty ρ bx K

/-! ### The operations that turn the store -/
def St.set (σ : St) (b : Nat) (x : Box) : St := { σ with bx := σ.bx.set b x }
def St.new (σ : St) (x : Box) : St := { σ with bx := σ.bx ++ [x] }
def rowOf (v : PV) : Option (List D) := match v.cells with | some l => toDs l | none => none
/-- The rows of a slice literal: zero rows, with parts laid over. -/
def laidRows (w : Nat) (ρ : Operand → PV) : List (Nat × Operand) → List (List D) → Option (List (List D))
  | [], rows => some rows
  | (i, x) :: ps, rows => match rowOf (ρ x) with
    | some r => (match Nat.beq r.length w, Nat.ble (i + 1) rows.length with | true, true => laidRows w ρ ps (rows.set i r) | _, _ => none)
    | none => none
def litRows (zero : List D) (ρ : Operand → PV) (n : Nat) (ps : List (Nat × Operand)) : Option (List (List D)) := laidRows zero.length ρ ps (List.replicate n zero)
/-- What is appended, as rows: a string's bytes, or a slice's elements. -/
def moreRows (T : Tab) (tx el : Nat) (x : PV) : Option (List (List D)) := match (T.get tx).kind with
  | .string => match (T.get el).kind with
    | .int .u8 => match x with
      | .d (.str s) => some (s.map fun b => [.int .u8 b.toNat])
      | _ => none
    | _ => none
  | .slice _ => match toD x with
    | some (.sl rows) => some rows
    | _ => none
  | _ => none
def eop (T : Tab) (o : Op) (ρ : Operand → PV) (σ : St) (K : PV → St → Prop) : Prop :=
  match o with
  | .alloc e => match (T.get e).kind with | .other => False | _ => K (.ptr σ.bx.length 0) (σ.new (.cells e (T.get e).zero))
  | .box e x => match (ρ x).cells with | some l => K (.ptr σ.bx.length 0) (σ.new (.cells e l)) | none => False
  | .buildSlice t n ps => match (T.get t).kind with
    | .slice e => match (T.get e).kind with
      | .other => False
      | _ => match toDs (T.get e).zero with
        | some zero => match Nat.ble 1 zero.length, Nat.ble (n * zero.length) 16777216, litRows zero ρ n ps.toList with
          | true, true, some rows => K (.d (.sl rows)) σ
          | _, _, _ => False
        | none => False
    | _ => False
  | .store t a x => match ρ a with
    | .ptr b off => match σ.bx[b]? with
      | some (.cells ty cs) => match (ρ x).cells with
        | some l => match Nat.beq l.length (T.get t).size, Nat.ble (off + l.length) cs.length, (T.get t).kind with
          | _, _, .other => False
          | true, true, _ => K .undef (σ.set b (.cells ty (setRange cs off l)))
          | _, _, _ => False
        | none => False
      | _ => False
    | _ => False
  | .range t x => match (T.get t).kind with
    | .string => match ρ x with
      | .d (.str s) => K (.ptr σ.bx.length 0) (σ.new (.iter s 0))
      | _ => False
    | _ => False
  | .next x true => match ρ x with
    | .ptr b 0 => match σ.bx[b]? with
      | some (.iter s pos) => CondP (decide (pos < s.length)) (K (.tuple [.d (.bool true), .d (.int .i64 pos), .d (.int .i32 (decodeL s pos).1)]) (σ.set b (.iter s (pos + (decodeL s pos).2)))) (K (.tuple [.d (.bool false)]) σ)
      | _ => False
    | _ => False
  | .call { callee := .builtin .append, args, argTypes } => match argTypes.toList, args.toList.map ρ with
    | [t, tx], [s, x] => match (T.get t).kind with
      | .slice el => match (T.get el).kind with
        | .other => False
        | _ => match Nat.ble 1 (T.get el).size, moreRows T tx el x with
          | true, some more => match s with
            | .nils _ => (∀ r ∈ more, r.length = (T.get el).size) ∧ more.length * (T.get el).bytes ≤ 2 ^ 47 ∧ more.length ≤ 2 ^ 47 ∧ K (.sl σ.nx el more) { σ with tk := σ.nx :: σ.tk, nx := σ.nx + 1 }
            | .sl tok e2 rows => match nmem tok σ.tk, Nat.beq e2 el with
              | true, true => (∀ r ∈ more, r.length = (T.get el).size) ∧ (rows.length + more.length) * (T.get el).bytes ≤ 2 ^ 47 ∧ rows.length + more.length ≤ 2 ^ 47 ∧
                  K (.sl σ.nx el (rows ++ more)) { σ with tk := σ.nx :: ndel tok σ.tk, nx := σ.nx + 1 }
              | _, _ => False
            | _ => False
          | _, _ => False
      | _ => False
    | _, _ => False
  | _ => False
/-- Does an operation turn the store (or call)? -/
def isEff : Op → Bool
  | .alloc _ | .box _ _ | .buildSlice _ _ _ | .store _ _ _ | .range _ _ | .next _ _ => true
  | .call { callee := .builtin .append, .. } => true
  | .call { callee := .builtin _, .. } => false
  | .call _ => true
  | .panic _ => true
  | _ => false

/-! ### Values and stores brought into one form -/
mutual
def bnd (n : Nat) : PV → Bool
  | .ptr b _ => Nat.ble (b + 1) n
  | .func _ a c => bndL n a && bndL n c
  | .iface _ v => bnd n v
  | .agg cs => bndL n cs
  | .tuple vs => bndL n vs
  | _ => true
def bndL (n : Nat) : List PV → Bool
  | [] => true
  | v :: l => bnd n v && bndL n l
end
mutual
def clean : PV → PV
  | .sl _ _ rows => .d (.sl rows)
  | .nils _ => .d (.sl [])
  | .func f a c => .func f (cleanL a) (cleanL c)
  | .iface t v => .iface t (clean v)
  | .agg cs => .agg (cleanL cs)
  | .tuple vs => .tuple (cleanL vs)
  | .d x => .d x
  | .undef => .undef
  | .ptr b o => .ptr b o
  | .elem r o => .elem r o
  | .raw v => .raw v
def cleanL : List PV → List PV
  | [] => []
  | v :: l => clean v :: cleanL l
end
def cleanF (f : Frame) : Frame := fun i => clean (f i)

/-! ### Regions, code -/
inductive PEnd where | ret (v : PV) | panic (v : PV)
inductive PExit where | normal | exit (id : Nat) | goto (l : Nat) | ret | panic (v : PV)
abbrev PQ := PExit → Frame → St → Prop
structure LoopAnn where
  live : List Nat
  keep : List Nat
  I : List PV → St → Prop
  μ : List PV → St → Nat
/-- What stands beside the code: the table, the calls' meaning, the loops' invariants (by the number of the body's first region). -/
structure Cx where
  T : Tab
  call : FuncId → List PV → St → (PEnd → St → Prop) → Prop
  raw : Value → List PV → St → (PEnd → St → Prop) → Prop
  iter : FuncId → List PV → (Value → List PV → St → (PEnd → St → Prop) → Prop) → St → (PEnd → St → Prop) → Prop
  loop : Nat → LoopAnn
  unr : Nat → Nat := fun _ => 0
  tie : Nat → Bool := fun _ => false
/-- An invariant that is told what the kept slots hold, too. -/
def LoopAnn.tied (A : LoopAnn) (f : Frame) : LoopAnn := ⟨A.live, A.keep, fun vs σ => A.I (A.keep.map (fun i => clean (f i)) ++ vs) σ, fun vs σ => A.μ (A.keep.map (fun i => clean (f i)) ++ vs) σ⟩
def Cx.inner (C : Cx) : Cx := { C with iter := fun _ _ _ _ _ => False }
def Cx.calm (C : Cx) : Cx := { C with raw := fun _ _ _ _ => False }

def forceL : List PV → (List PV → Prop) → Prop
  | [], K => K []
  | v :: l, K => force v fun v => forceL l fun l => K (v :: l)
def forceB : List Box → (List Box → Prop) → Prop
  | [], K => K []
  | .cells t cs :: l, K => forceL cs fun cs => forceB l fun l => K (.cells t cs :: l)
  | .iter s p :: l, K => forceB l fun l => K (.iter s p :: l)
  | .loop st pd r :: l, K => forceB l fun l => K (.loop st pd r :: l)
def forceN : Nat → (Nat → Prop) → Prop
  | 0, K => K 0
  | n + 1, K => K (n + 1)
def forceT : List Nat → (List Nat → Prop) → Prop
  | [], K => K []
  | t :: l, K => forceN t fun t => forceT l fun l => K (t :: l)
def forceSt (σ : St) (K : St → Prop) : Prop := forceB σ.bx fun bx => forceT σ.tk fun tk => forceN σ.nx fun nx => K ⟨bx, tk, nx⟩

/-- A call: of a function; or of 'yield': behind it tokens are struck. -/
def callPV (C : Cx) (fv : PV) (args : List PV) (f : Frame) (σ : St) (K : PEnd → Frame → St → Prop) : Prop := match fv with
  | .func g first caps => C.call g (first ++ args ++ caps) σ fun e σ => K e f σ
  | .raw v => C.raw v args σ fun e σ => K e (cleanF f) σ
  | _ => False
def runOp (C : Cx) (o : Oper) (f : Frame) (σ : St) (Q : PQ) (K : Frame → St → Prop) : Prop :=
  match isEff o.op with
  | false => qopG C.T o.op o.type (ev f) σ.bx fun v => putK f o.dst v fun f => K f σ
  | true => match o.op with
    | .call { callee := .value x, args, .. } => callPV C (ev f x) (args.toList.map (ev f)) f σ fun e f σ' => match e with
        | .ret v => forceSt σ' fun σ' => putK f o.dst v fun f => K f σ'
        | .panic v => Q (.panic v) (fun _ => .undef) σ'
    | .panic x => match ev f x with
        | .iface t v => Q (.panic (.iface t v)) (fun _ => .undef) σ
        | _ => False
    | op => eop C.T op (ev f) σ fun v σ' => forceSt σ' fun σ' => putK f o.dst v fun f => K f σ'
/-- The slot that a guard looks at. -/
def guardSlot (all : List Oper) (j : Nat) : Option Nat := match all[j]? with | some o => o.dst | none => none
def pstep (C : Cx) (all : List Oper) (Q : PQ) (o : Oper) (f : Frame) (σ : St) (K : Frame → St → Prop) : Prop :=
  match o.guard with
  | none => runOp C o f σ Q K
  | some (j, want) => match guardSlot all j with
    | some s => match f s with
      | .d (.bool t) => CondP t
          (match want with | true => runOp C o (fset f s (.d (.bool true))) σ Q K | false => putK (fset f s (.d (.bool true))) o.dst (.raw Go.undef) fun f => K f σ)
          (match want with | false => runOp C o (fset f s (.d (.bool false))) σ Q K | true => putK (fset f s (.d (.bool false))) o.dst (.raw Go.undef) fun f => K f σ)
      | .raw (.tuple _) => putK f o.dst (.raw Go.undef) fun f => K f σ
      | _ => False
    | none => False
def pops (C : Cx) (all : List Oper) (Q : PQ) : List Oper → Frame → St → Prop
  | [], f, σ => Q .normal f σ
  | o :: rest, f, σ => pstep C all Q o f σ (pops C all Q rest)

/-! ### A region that draws its order: what leaves the store alone first; and what a load saw stays -/
structure Ld where
  i : Nat
  b : Nat
  off : Nat
  n : Nat
def cellsAt (bx : List Box) (b off n : Nat) : Option (List PV) := match bx[b]? with
  | some (.cells _ cs) => some ((cs.drop off).take n)
  | _ => none
def maskOf (acc : List Nat) : List Edge → Nat → Nat
  | [], s => s
  | e :: l, s => match Region.binds .any e with
    | true => maskOf acc l (s ||| 2 ^ e.on ||| acc.getD e.on 0)
    | false => maskOf acc l s
/-- For each operation a mask: what comes ahead of it in every order. -/
def masks : List Oper → List Nat → List Nat
  | [], acc => acc
  | o :: l, acc => masks l (acc ++ [maskOf acc o.after.toList 0])
def anc (ms : List Nat) (i j : Nat) : Bool := (ms.getD j 0).testBit i
/-- The first of these that leaves the store alone and waits for none of 'left'; else the first. -/
def waits (o : Oper) (left : List (Nat × Oper)) : Bool := match left with
  | [] => false
  | (i, _) :: l => (o.after.toList.any fun e => Region.binds .any e && Nat.beq e.on i) || waits o l
def pickQ : List (Nat × Oper) → List (Nat × Oper) → Option (Nat × Oper)
  | _, [] => none
  | left, (i, o) :: l => match isEff o.op, waits o left with
    | false, false => some (i, o)
    | _, _ => pickQ left l
def dropI (i : Nat) : List (Nat × Oper) → List (Nat × Oper)
  | [] => []
  | (j, o) :: l => match Nat.beq i j with | true => l | false => (j, o) :: dropI i l
def canonF : Nat → List (Nat × Oper) → List (Nat × Oper)
  | 0, l => l
  | _ + 1, [] => []
  | n + 1, x :: l => match pickQ (x :: l) (x :: l) with
    | some (i, o) => (i, o) :: canonF n (dropI i (x :: l))
    | none => x :: canonF n l
def numbered : Nat → List Oper → List (Nat × Oper)
  | _, [] => []
  | i, o :: l => (i, o) :: numbered (i + 1) l
def canon (ops : List Oper) : List (Nat × Oper) := canonF ops.length (numbered 0 ops)
def chkL (ms : List Nat) (j : Nat) (pre post : List Box) : List Ld → Prop → Prop
  | [], X => X
  | ⟨i, b, off, n⟩ :: l, X => match anc ms i j with
    | true => chkL ms j pre post l X
    | false => cellsAt pre b off n = cellsAt post b off n ∧ chkL ms j pre post l X
def addLd (T : Tab) (o : Oper) (i : Nat) (f : Frame) (ctx : List Ld) : List Ld := match o.op with
  | .load t a => match ev f a with
    | .ptr b off => ⟨i, b, off, (T.get t).size⟩ :: ctx
    | _ => ctx
  | _ => ctx
def stepI (C : Cx) (all : List Oper) (ms : List Nat) (Q : PQ) (i : Nat) (o : Oper) (ctx : List Ld) (f : Frame) (σ : St) (K : List Ld → Frame → St → Prop) : Prop :=
  pstep C all Q o f σ fun f' σ' => match isEff o.op with
    | true => chkL ms i σ.bx σ'.bx ctx (K ctx f' σ')
    | false => K (addLd C.T o i f ctx) f' σ'
def popsI (C : Cx) (all : List Oper) (ms : List Nat) (Q : PQ) : List (Nat × Oper) → List Ld → Frame → St → Prop
  | [], _, f, σ => Q .normal f σ
  | (i, o) :: rest, ctx, f, σ => stepI C all ms Q i o ctx f σ (popsI C all ms Q rest)

def toks : Nat → List Nat
  | 0 => []
  | k + 1 => k :: toks k
/-- A value for a slot: an owned slice's token is numbered anew; other tokens are struck. -/
def nrm1 (n : Nat) (tk : List Nat) (k : Nat) (v : PV) (K : PV → List Nat → Nat → Prop) : Prop := match v with
  | .sl t e rows => match nmem t tk with
    | true => K (.sl k e rows) (ndel t tk) (k + 1)
    | false => K (.d (.sl rows)) tk k
  | .nils e => K (.sl k e []) tk (k + 1)
  | v => match bnd n v with
    | true => force (clean v) fun v => K v tk k
    | false => K .undef tk k
def nrmL (n : Nat) : List PV → List Nat → Nat → (List PV → List Nat → Nat → Prop) → Prop
  | [], tk, k, K => K [] tk k
  | v :: l, tk, k, K => nrm1 n tk k v fun v tk k => nrmL n l tk k fun l tk k => K (v :: l) tk k
/-- The first 'm' boxes. -/
def nrmB (n : Nat) : Nat → List Box → List Nat → Nat → (List Box → List Nat → Nat → Prop) → Prop
  | 0, _, tk, k, K => K [] tk k
  | _ + 1, [], _, _, _ => False
  | m + 1, .cells t cs :: l, tk, k, K => nrmL n cs tk k fun cs tk k => nrmB n m l tk k fun l tk k => K (.cells t cs :: l) tk k
  | m + 1, .iter s p :: l, tk, k, K => nrmB n m l tk k fun l tk k => K (.iter s p :: l) tk k
  | m + 1, .loop st pd r :: l, tk, k, K => nrmB n m l tk k fun l tk k => K (.loop st pd r :: l) tk k
def nrmSt (n : Nat) (vs : List PV) (σ : St) (K : List PV → St → Prop) : Prop :=
  nrmL n vs σ.tk 0 fun vs tk k => nrmB n n σ.bx tk k fun bs _ k => K vs ⟨bs, toks k, k⟩
def fsets (f : Frame) : List Nat → List PV → Frame
  | i :: is, v :: vs => fset (fsets f is vs) i v
  | _, _ => f
def keepF (f : Frame) : List Nat → Frame
  | [] => fun _ => .undef
  | i :: is => fset (keepF f is) i (clean (f i))

/-! ### Code -/
def writesOps : List Oper → List Nat → Bool
  | [], _ => true
  | o :: l, ks => (match o.dst with | some d => !(nmem d ks) | none => true) && writesOps l ks
/-- None of these slots is written by the code. -/
def noWrite (ks : List Nat) : Code → Bool
  | .region _ ops _ => writesOps ops.toList ks
  | .seq a b => noWrite ks a && noWrite ks b
  | .cond _ a b => noWrite ks a && noWrite ks b
  | .block _ b => noWrite ks b
  | .loop b => noWrite ks b
  | .rangeFunc .. => true
  | .scope b => noWrite ks b
  | _ => true
/-- The number of the first region. -/
def keyOf : Code → Nat
  | .region id _ _ => id
  | .seq a _ => keyOf a
  | .cond _ a _ => keyOf a
  | .block _ b => keyOf b
  | .loop b => keyOf b
  | .scope b => keyOf b
  | _ => 0
def fputs : Frame → List Nat → List PV → Frame
  | f, i :: is, v :: vs => fputs (fset f i v) is vs
  | f, _, _ => f
/-- The end of a round. -/
def endR (i : Nat) (r : Loop) (st : LoopState) (pd : Option Code) (b : Bool) (σ : St) (K : PEnd → St → Prop) : Prop :=
  σ.bx[i]? = some (.loop .busy none r) ∧ K (.ret (.d (.bool b))) (σ.set i (.loop st pd r))
/-- A round: what a call of 'yield' does. -/
def roundOf (i l : Nat) (r : Loop) (ps : List Nat) (WA WB : PQ → Frame → St → Prop) (f : Frame) (v : Value) (args : List PV) (σ : St) (K : PEnd → St → Prop) : Prop :=
  v = .func (.yield l) #[] #[] ∧ σ.bx[i]? = some (.loop .ready none r) ∧ args.length = ps.length ∧
    WA (fun e f1 σ1 => match e with
      | .normal => σ1.bx[i]? = some (.loop .ready none r) ∧ WB (fun e _ σ2 => match e with
          | .normal => endR i r .ready none true σ2 K
          | .ret => endR i r .done (some .ret) false σ2 K
          | .exit id => endR i r .done (some (.exit id)) false σ2 K
          | .goto t => endR i r .done (some (.goto t)) false σ2 K
          | .panic _ => False) f1 (σ1.set i (.loop .busy none r))
      | _ => False) (fputs f ps args) σ
/-- Behind a range over a function: the jump that a round has left. -/
def jumpTo (i : Nat) (r : Loop) (f : Frame) (Q : PQ) (σ : St) : Option Code → Prop
  | none => Q .normal f (σ.set i (.loop .exhausted none r))
  | some .ret => Q .ret f (σ.set i (.loop .exhausted (some .ret) r))
  | some (.exit id) => Q (.exit id) f (σ.set i (.loop .exhausted (some (.exit id)) r))
  | some (.goto t) => Q (.goto t) f (σ.set i (.loop .exhausted (some (.goto t)) r))
  | _ => False
def rangeEnd (i : Nat) (f : Frame) (Q : PQ) (e : PEnd) (σ : St) : Prop := match e with
  | .ret _ => match σ.bx[i]? with
    | some (.loop st pd r) => match st with
      | .busy => False
      | _ => jumpTo i r f Q σ pd
    | _ => False
  | .panic v => Q (.panic v) (fun _ => .undef) σ
/-- So many rounds, one behind the other. -/
def unroll (S : PQ → Frame → St → Prop) (Q : PQ) : Nat → Frame → St → Prop
  | 0, _, _ => False
  | n + 1, f, σ => S (fun e f σ => match e with | .normal => unroll S Q n f σ | e => Q e f σ) f σ
def W : Cx → Code → PQ → Frame → St → Prop
  | _, .skip, Q, f, σ => Q .normal f σ
  | C, .region _ ops draw, Q, f, σ => match draw with
    | false => pops C ops.toList Q ops.toList f σ
    | true => popsI C.calm ops.toList (masks ops.toList []) Q (canon ops.toList) [] f σ
  | C, .seq a b, Q, f, σ => W C a (fun e f σ => match e with | .normal => W C b Q f σ | e => Q e f σ) f σ
  | C, .cond c x y, Q, f, σ => match ev f c with | .d (.bool t) => CondP t (W C x Q f σ) (W C y Q f σ) | _ => False
  | C, .block id b, Q, f, σ => W C b (fun e f σ => match e with | .exit i => (match Nat.beq i id with | true => Q .normal f σ | false => Q (.exit i) f σ) | e => Q e f σ) f σ
  | C, .scope b, Q, f, σ => W C b (fun e f σ => match e with | .goto _ => False | e => Q e f σ) f σ
  | _, .exit id, Q, f, σ => Q (.exit id) f σ
  | _, .goto l, Q, f, σ => Q (.goto l) f σ
  | _, .label _, Q, f, σ => Q .normal f σ
  | _, .ret, Q, f, σ => Q .ret f σ
  | C, .loop b, Q, f, σ => match C.unr (keyOf b) with
   | n + 1 => unroll (fun Q f σ => W C b Q f σ) Q (n + 1) f σ
   | 0 => match noWrite (C.loop (keyOf b)).keep b with
    | true => match C.tie (keyOf b) with
     | false => nrmSt σ.bx.length ((C.loop (keyOf b)).live.map f) σ fun vs σ0 => (C.loop (keyOf b)).I vs σ0 ∧
        ∀ vs σ1, (C.loop (keyOf b)).I vs σ1 → W C b (fun e f' σ' => match e with
          | .normal => nrmSt σ1.bx.length ((C.loop (keyOf b)).live.map f') σ' fun vs' σ'' => (C.loop (keyOf b)).I vs' σ'' ∧ (C.loop (keyOf b)).μ vs' σ'' < (C.loop (keyOf b)).μ vs σ1
          | e => Q e f' σ') (fsets (keepF f (C.loop (keyOf b)).keep) (C.loop (keyOf b)).live vs) σ1
     | true => nrmSt σ.bx.length (((C.loop (keyOf b)).tied f).live.map f) σ fun vs σ0 => ((C.loop (keyOf b)).tied f).I vs σ0 ∧
        ∀ vs σ1, ((C.loop (keyOf b)).tied f).I vs σ1 → W C b (fun e f' σ' => match e with
          | .normal => nrmSt σ1.bx.length (((C.loop (keyOf b)).tied f).live.map f') σ' fun vs' σ'' => ((C.loop (keyOf b)).tied f).I vs' σ'' ∧ ((C.loop (keyOf b)).tied f).μ vs' σ'' < ((C.loop (keyOf b)).tied f).μ vs σ1
          | e => Q e f' σ') (fsets (keepF f ((C.loop (keyOf b)).tied f).keep) ((C.loop (keyOf b)).tied f).live vs) σ1
    | false => False
  | C, .rangeFunc g ps asg body, Q, f, σ => match ev f g with
    | .func gid first caps => ∀ (l : Nat) (r : Loop),
        C.iter gid (first ++ .raw (.func (.yield l) #[] #[]) :: caps) (roundOf σ.bx.length l r ps.toList (fun Q f σ => W C.inner asg Q f σ) (fun Q f σ => W C.inner body Q f σ) (cleanF f)) (σ.new (.loop .ready none r))
          (rangeEnd σ.bx.length (cleanF f) Q)
    | _ => False
  | _, _, _, _, _ => False

/-! ### Functions -/
def pres (T : Tab) (f : Frame) (bx : List Box) : List ResultVar → (List PV → Prop) → Prop
  | [], K => K []
  | .tmp t :: l, K => force (f t) fun v => pres T f bx l fun vs => K (v :: vs)
  | .cell a t :: l, K => pload T t (f a) bx fun v => force v fun v => pres T f bx l fun vs => K (v :: vs)
def oneOf : List PV → PV
  | [v] => v
  | vs => .tuple vs
/-- What is left when a function ends: 'keep' boxes; tokens are struck, or (own) numbered anew. -/
def leave (keep : Nat) (own : Bool) (v : PV) (σ : St) (K : PV → St → Prop) : Prop :=
  match bnd keep v with
  | true => match own with
    | true => nrmSt keep [v] σ fun vs σ' => match vs with | [v] => K v σ' | _ => False
    | false => nrmB keep keep σ.bx [] 0 fun bs _ k => K (clean v) ⟨bs, toks k, k⟩
  | false => False
def exitQ (T : Tab) (fn : Func) (keep : Nat) (own : Bool) (R : PEnd → St → Prop) : PQ := fun e f σ => match e with
  | .normal | .ret => pres T f σ.bx fn.results.toList fun vs => leave keep own (oneOf vs) σ fun v σ' => R (.ret v) σ'
  | .panic v => leave keep own v σ fun v σ' => R (.panic v) σ'
  | _ => False
def argF : Nat → List PV → Frame
  | _, [] => fun _ => .undef
  | i, v :: vs => fset (argF (i + 1) vs) i v
def bodyOf (fn : Func) : Code := match fn.body with | some c => c | none => .refuse ""
/-- The precondition of a call. -/
def WF (C : Cx) (fn : Func) (keep : Nat) (own : Bool) (args : List PV) (σ : St) (R : PEnd → St → Prop) : Prop :=
  W C (bodyOf fn) (exitQ C.T fn keep own R) (argF 0 args) σ
end Go.PM
