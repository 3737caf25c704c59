/- A part of the proof: plain logic, contracts and laws over the given program. -/
import Derived.Test.YtjmoaahgfjaafaaGreatDoorH07
set_option linter.unusedVariables false
set_option linter.unusedSimpArgs false
set_option linter.all false
section
namespace Go.PM.Lex
structure T0 where
 kind : Nat
 text : Bs
 n : Int
 deriving DecidableEq
def Tok.t0 (t : Tok) : T0 := ⟨t.kind, t.text, t.n⟩
abbrev Ts := List T0
inductive R (α : Type) where
 | ok (a : α) (ts : Ts) | err (r e : Nat)
def R.bind {α β : Type} (x : R α) (f : α → Ts → R β) : R β := match x with
 | .ok a ts => f a ts
 | .err r e => .err r e
@[simp] theorem R.bind_ok {α β : Type} (a : α) (ts : Ts) (f : α → Ts → R β) : (R.ok a ts).bind f = f a ts := rfl
@[simp] theorem R.bind_err {α β : Type} (r e : Nat) (f : α → Ts → R β) : (R.err r e : R α).bind f = .err r e := rfl
inductive Ex where
 | mk (op : Nat) (text : Bs) (n : Int) (args : List Ex) (at' : Nat)
inductive Li where
 | mk (op : Nat) (rel : Bs) (args : List Ex) (body : List Li) (at' : Nat)
structure Ru where
 head : Bs
 args : List Ex
 body : List Li
 at' : Nat
structure Fi where
 name : Bs
 typ : Bs
structure Ca where
 name : Bs
 fields : List Fi
structure Ty where
 kind : Nat
 name : Bs
 base : Bs
 fields : List Fi
 cases : List Ca
 at' : Nat
structure Re where
 name : Bs
 fields : List Fi
 inn : Bool
 out : Bool
 inl : Bool
 at' : Nat
structure Ini where
 name : Bs
 comp : Bs
 types : List Bs
 at' : Nat
structure Ov where
 rel : Bs
 at' : Nat
mutual
inductive Un where
 | mk (types : List Ty) (rels : List Re) (rules : List Ru) (comps : List Co) (inits : List Ini) (overs : List Ov)
inductive Co where
 | mk (name : Bs) (params : List Bs) (base : Bs) (types : List Bs) (unit : Un) (at' : Nat)
end
def hd (ts : Ts) : T0 := match ts with
 | [] => ⟨0, [], 0⟩
 | t :: _ => t
def functorF (s : Bs) : Nat :=
 if s = [99, 97, 116] then 20 else if s = [115, 116, 114, 108, 101, 110] then 21 else if s = [115, 117, 98, 115, 116, 114] then 22 else if s = [99, 111, 100, 101] then 23 else if s = [115, 116, 114] then 24 else if s = [110, 117, 109] then 25 else 0
def keptWords : List Bs := [[116, 121, 112, 101], [100, 101, 99, 108], [105, 110, 112, 117, 116], [111, 117, 116, 112, 117, 116], [105, 110, 108, 105, 110, 101], [99, 111, 109, 112], [105, 110, 105, 116], [111, 118, 101, 114, 114, 105, 100, 101], [110, 105, 108], [99, 111, 117, 110, 116], [115, 117, 109], [109, 105, 110], [109, 97, 120], [98, 111, 114], [98, 120, 111, 114], [98, 97, 110, 100], [115, 104, 108], [115, 104, 114]]
def keptF (s : Bs) : Bool := keptWords.contains s || decide (functorF s ≠ 0)
def isW (ts : Ts) (ws : List Bs) : Bool := (decide ((hd ts).kind = 1) || decide ((hd ts).kind = 4)) && ws.contains (hd ts).text
def namedF (ts : Ts) : Bool := decide ((hd ts).kind = 1) && (!decide ((hd ts).text = [95]) && !keptF (hd ts).text)
def startsF (ts : Ts) : Bool :=
 if (hd ts).kind = 2 ∨ (hd ts).kind = 3 then true
 else if (hd ts).kind = 4 then isW ts [[45], [126], [40], [91], [36]]
 else if (hd ts).kind = 1 then !keptF (hd ts).text || (decide ((hd ts).text = [110, 105, 108]) || decide (functorF (hd ts).text ≠ 0))
 else false
def binF (ts : Ts) : Nat × Nat :=
 if (hd ts).kind ≠ 1 ∧ (hd ts).kind ≠ 4 then (0, 0)
 else if (hd ts).text = [98, 111, 114] then (1, 16) else if (hd ts).text = [98, 120, 111, 114] then (1, 17) else if (hd ts).text = [98, 97, 110, 100] then (2, 15) else if (hd ts).text = [115, 104, 108] then (3, 18) else if (hd ts).text = [115, 104, 114] then (3, 19)
 else if (hd ts).text = [43] then (4, 10) else if (hd ts).text = [45] then (4, 11) else if (hd ts).text = [42] then (5, 12) else if (hd ts).text = [47] then (5, 13) else if (hd ts).text = [37] then (5, 14) else (0, 0)
def mustF (w : Bs) (ts : Ts) : R Unit := if isW ts [w] = true then .ok () ts.tail else .err ts.length 150
def nameP (ts : Ts) : R Bs := if namedF ts = true then .ok (hd ts).text ts.tail else .err ts.length 150
def withinF {α : Type} (d : Nat) (fr to : Bs) (read : Ts → R α) (ts : Ts) : R α :=
 if isW ts [fr] = true then
  (if d = 0 then .err ts.length 151 else (read ts.tail).bind fun x ts => if to = [] then .ok x ts else (mustF to ts).bind fun _ ts => .ok x ts)
 else .err ts.length 150
def manyGo {α : Type} (sign : Bs) (most : Nat) (starts : Ts → Bool) (one : Ts → R α) : Nat → List α → Ts → R (List α)
 | 0, _, _ => .err 0 150
 | f + 1, l, ts => if starts ts = true ∧ l.length = most then .err ts.length 3
   else (one ts).bind fun x ts => if isW ts [sign] = true then manyGo sign most starts one f (l ++ [x]) ts.tail else .ok (l ++ [x]) ts
def manyF {α : Type} (sign : Bs) (most : Nat) (starts : Ts → Bool) (one : Ts → R α) (ts : Ts) : R (List α) := manyGo sign most starts one (ts.length + 1) [] ts
def fieldF (ts : Ts) : R Fi := (nameP ts).bind fun a ts => (mustF [58] ts).bind fun _ ts => (nameP ts).bind fun b ts => .ok ⟨a, b⟩ ts
def fieldsF (fin : Bs) (ts : Ts) : R (List Fi) := if isW ts [fin] = true then .ok [] ts else manyF [44] 12 namedF fieldF ts
def namesF (ts : Ts) : R (List Bs) := if isW ts [[60]] = true then (manyF [44] 12 namedF nameP ts.tail).bind fun l ts => (mustF [62] ts).bind fun _ ts => .ok l ts else .ok [] ts
def caseF (ts : Ts) : R Ca := (nameP ts).bind fun a ts => (mustF [123] ts).bind fun _ ts => (fieldsF [125] ts).bind fun l ts => (mustF [125] ts).bind fun _ ts => .ok ⟨a, l⟩ ts
def typedF (t0 : Ts) : R Ty := (nameP t0).bind fun nm ts =>
 if isW ts [[60, 58]] = true then (nameP ts.tail).bind fun b ts => .ok ⟨1, nm, b, [], [], t0.length⟩ ts
 else (mustF [61] ts).bind fun _ ts =>
  if isW ts [[91]] = true then (fieldsF [93] ts.tail).bind fun l ts => (mustF [93] ts).bind fun _ ts => .ok ⟨2, nm, [], l, [], t0.length⟩ ts
  else (manyF [124] 64 namedF caseF ts).bind fun l ts => .ok ⟨3, nm, [], [], l, t0.length⟩ ts
def flagsGo : Nat → Bool → Bool → Bool → Ts → (Bool × Bool × Bool) × Ts
 | 0, i, o, n, ts => ((i, o, n), ts)
 | f + 1, i, o, n, ts => if i = false ∧ isW ts [[105, 110, 112, 117, 116]] = true then flagsGo f true o n ts.tail
   else if o = false ∧ isW ts [[111, 117, 116, 112, 117, 116]] = true then flagsGo f i true n ts.tail
   else if n = false ∧ isW ts [[105, 110, 108, 105, 110, 101]] = true then flagsGo f i o true ts.tail
   else ((i, o, n), ts)
def declF (t0 : Ts) : R Re := (nameP t0).bind fun nm ts => (mustF [40] ts).bind fun _ ts => (fieldsF [41] ts).bind fun l ts => (mustF [41] ts).bind fun _ ts =>
 .ok ⟨nm, l, (flagsGo 4 false false false ts).1.1, (flagsGo 4 false false false ts).1.2.1, (flagsGo 4 false false false ts).1.2.2, t0.length⟩ (flagsGo 4 false false false ts).2
def argsF (d : Nat) (ex : Ts → R Ex) (fr to : Bs) (ts : Ts) : R (List Ex) := withinF d fr to (fun ts => if isW ts [to] = true then .ok [] ts else manyF [44] 12 startsF ex ts) ts
def callGo (ex : Ts → R Ex) : Nat → List Ex → Ts → R (List Ex)
 | 0, l, ts => .ok l ts
 | k + 1, l, ts => (if l = [] then .ok () ts else mustF [44] ts).bind fun _ ts => (ex ts).bind fun e ts => callGo ex k (l ++ [e]) ts
def arity (op : Nat) : Nat := if op = 22 then 3 else if op = 20 then 2 else 1
def primaryF (d : Nat) (ex : Ts → R Ex) (ts : Ts) : R Ex :=
 if startsF ts = false then .err ts.length 150
 else if (hd ts).kind = 2 then .ok (.mk 3 [] (hd ts).n [] ts.length) ts.tail
 else if (hd ts).kind = 3 then .ok (.mk 4 (hd ts).text 0 [] ts.length) ts.tail
 else if (hd ts).text = [40] then withinF d [40] [41] ex ts
 else if (hd ts).text = [91] then (argsF d ex [91] [93] ts).bind fun l ts' => .ok (.mk 6 [] 0 l ts.length) ts'
 else if (hd ts).text = [36] then (nameP ts.tail).bind fun nm ts' => if isW ts' [[40]] = true then (argsF d ex [40] [41] ts').bind fun l ts' => .ok (.mk 7 nm 0 l ts.length) ts' else .ok (.mk 7 nm 0 [] ts.length) ts'
 else if functorF (hd ts).text ≠ 0 then (withinF d [40] [41] (callGo ex (arity (functorF (hd ts).text)) []) ts.tail).bind fun l ts' => .ok (.mk (functorF (hd ts).text) [] 0 l ts.length) ts'
 else if (hd ts).text = [110, 105, 108] then .ok (.mk 5 [] 0 [] ts.length) ts.tail
 else if (hd ts).text = [95] then .ok (.mk 2 [] 0 [] ts.length) ts.tail
 else .ok (.mk 1 (hd ts).text 0 [] ts.length) ts.tail
def Ex.at' : Ex → Nat | .mk _ _ _ _ a => a
def lineGo (sub : Nat → Ts → R Ex) (least : Nat) : Nat → Ex → Ts → R Ex
 | 0, _, _ => .err 0 150
 | f + 1, e, ts => if (binF ts).1 < least ∨ (binF ts).1 = 0 then .ok e ts
   else (sub ((binF ts).1 + 1) ts.tail).bind fun g ts' => lineGo sub least f (.mk (binF ts).2 [] 0 [e, g] e.at') ts'
def lineK (sg : Ts → R Ex) : Nat → Nat → Ts → R Ex
 | 0, _, ts => sg ts
 | k + 1, least, ts => (sg ts).bind fun e ts => lineGo (lineK sg k) least (ts.length + 1) e ts
def signedF (d : Nat) (sg : Ts → R Ex) (ts : Ts) : R Ex :=
 if isW ts [[45]] = true then (withinF d [45] [] sg ts).bind fun e ts' => .ok (.mk 8 [] 0 [e] ts.length) ts'
 else if isW ts [[126]] = true then (withinF d [126] [] sg ts).bind fun e ts' => .ok (.mk 9 [] 0 [e] ts.length) ts'
 else primaryF d (lineK sg 6 1) ts
def signedD : Nat → Ts → R Ex
 | 0 => signedF 0 fun _ => .err 0 150
 | d + 1 => signedF (d + 1) (signedD d)
def exprD (d : Nat) (ts : Ts) : R Ex := lineK (signedD d) 6 1 ts
def exprB : Nat → Ts → R Ex
 | 0 => fun _ => .err 0 150
 | d + 1 => exprD d
def idxW (ts : Ts) : Nat → List Bs → Option Nat
 | _, [] => none
 | i, w :: ws => if isW ts [w] = true then some i else idxW ts (i + 1) ws
def relWords : List Bs := [[61], [33, 61], [60], [60, 61], [62], [62, 61]]
def aggWords : List Bs := [[99, 111, 117, 110, 116], [115, 117, 109], [109, 105, 110], [109, 97, 120]]
def litOp (ts : Ts) : R Nat := match idxW ts 0 relWords with
 | none => .err ts.length 150
 | some 0 => match idxW ts.tail 0 aggWords with
  | some j => .ok (9 + j) ts.tail.tail
  | none => .ok 3 ts.tail
 | some k => .ok (3 + k) ts.tail
def litAtom (d op a : Nat) (ts : Ts) : R Li := (nameP ts).bind fun nm ts => (argsF d (exprB d) [40] [41] ts).bind fun l ts => .ok (.mk op nm l [] a) ts
def litEnd (d : Nat) (bd : Ts → R (List Li)) (a op : Nat) (l : List Ex) (ts : Ts) : R Li :=
 if 9 ≤ op then (mustF [58] ts).bind fun _ ts => (withinF d [123] [125] bd ts).bind fun b ts => .ok (.mk op [] l b a) ts
 else .ok (.mk op [] l [] a) ts
def litRel (d : Nat) (bd : Ts → R (List Li)) (t0 : Ts) : R Li := (exprD d t0).bind fun e ts => (litOp ts).bind fun op ts =>
 if op = 9 then litEnd d bd t0.length op [e] ts else (exprD d ts).bind fun g ts => litEnd d bd t0.length op [e, g] ts
def litF (d : Nat) (bd : Ts → R (List Li)) (t0 : Ts) : R Li :=
 if isW t0 [[33]] = true then litAtom d 2 t0.length t0.tail
 else if namedF t0 = true ∧ (hd t0.tail).kind = 4 ∧ (hd t0.tail).text = [40] then litAtom d 1 t0.length t0
 else litRel d bd t0
def litStarts (ts : Ts) : Bool := startsF ts || isW ts [[33]]
def bodyD : Nat → Ts → R (List Li)
 | 0 => manyF [44] 32 litStarts (litF 0 fun _ => .err 0 150)
 | d + 1 => manyF [44] 32 litStarts (litF (d + 1) (bodyD d))
def bodyB : Nat → Ts → R (List Li)
 | 0 => fun _ => .err 0 150
 | d + 1 => bodyD d
def ruleF (d : Nat) (bodies : Bool) (t0 : Ts) : R Ru := (nameP t0).bind fun nm ts => (argsF d (exprB d) [40] [41] ts).bind fun l ts =>
 if bodies = true ∧ isW ts [[58, 45]] = true then (bodyD d ts.tail).bind fun b ts => (mustF [46] ts).bind fun _ ts => .ok ⟨nm, l, b, t0.length⟩ ts
 else (mustF [46] ts).bind fun _ ts => .ok ⟨nm, l, [], t0.length⟩ ts
def compF (d : Nat) (un : Ts → R Un) (t0 : Ts) : R Co := (nameP t0).bind fun nm ts => (namesF ts).bind fun ps ts =>
 if isW ts [[58]] = true then (nameP ts.tail).bind fun b ts => (namesF ts).bind fun tys ts => (withinF d [123] [125] un ts).bind fun u ts => .ok (.mk nm ps b tys u t0.length) ts
 else (withinF d [123] [125] un ts).bind fun u ts => .ok (.mk nm ps [] [] u t0.length) ts
def initF (t0 : Ts) : R Ini := (nameP t0).bind fun nm ts => (mustF [61] ts).bind fun _ ts => (nameP ts).bind fun c ts => (namesF ts).bind fun tys ts => .ok ⟨nm, c, tys, t0.length⟩ ts
def overF (t0 : Ts) : R Ov := (nameP t0).bind fun nm ts => .ok ⟨nm, t0.length⟩ ts
def unitGo (inside : Bool) (d : Nat) (un : Ts → R Un) : Nat → Un → Ts → R Un
 | 0, _, _ => .err 0 150
 | f + 1, .mk tys rels rules comps inits overs, ts =>
  if ts = [] ∨ (inside = true ∧ isW ts [[125]] = true) then .ok (.mk tys rels rules comps inits overs) ts
  else if isW ts [[116, 121, 112, 101]] = true then (if tys.length = 256 then .err ts.length 3 else (typedF ts.tail).bind fun x ts => unitGo inside d un f (.mk (tys ++ [x]) rels rules comps inits overs) ts)
  else if isW ts [[100, 101, 99, 108]] = true then (if rels.length = 256 then .err ts.length 3 else (declF ts.tail).bind fun x ts => unitGo inside d un f (.mk tys (rels ++ [x]) rules comps inits overs) ts)
  else if isW ts [[99, 111, 109, 112]] = true then (if comps.length = 64 then .err ts.length 3 else (compF d un ts.tail).bind fun x ts => unitGo inside d un f (.mk tys rels rules (comps ++ [x]) inits overs) ts)
  else if isW ts [[105, 110, 105, 116]] = true then (if inits.length = 256 then .err ts.length 3 else (initF ts.tail).bind fun x ts => unitGo inside d un f (.mk tys rels rules comps (inits ++ [x]) overs) ts)
  else if isW ts [[111, 118, 101, 114, 114, 105, 100, 101]] = true then (if overs.length = 256 then .err ts.length 3 else (overF ts.tail).bind fun x ts => unitGo inside d un f (.mk tys rels rules comps inits (overs ++ [x])) ts)
  else if namedF ts = true then (if rules.length = 1024 then .err ts.length 3 else (ruleF d true ts).bind fun x ts => unitGo inside d un f (.mk tys rels (rules ++ [x]) comps inits overs) ts)
  else .err ts.length 150
def Un.nil : Un := .mk [] [] [] [] [] []
def unitF (inside : Bool) (d : Nat) (un : Ts → R Un) (ts : Ts) : R Un := unitGo inside d un (ts.length + 1) .nil ts
def unitD : Nat → Ts → R Un
 | 0 => unitF true 0 fun _ => .err 0 150
 | d + 1 => unitF true (d + 1) (unitD d)
def unitTop (ts : Ts) : R Un := unitF false 64 (unitD 63) ts
end Go.PM.Lex
end

section
noncomputable section
namespace Go.PM.Lex
open Go.Proofs
def tz (L : List Tok) (a : Int) : Ts := (L.drop a.toNat).map Tok.t0
def placeOf (L : List Tok) (en : Int) (r : Nat) : Int := match L.drop (L.length - r) with
 | [] => en
 | t :: _ => t.at'
structure ROK (L : List Tok) (a : Int) (ts : Ts) : Prop where
 lo : 0 ≤ a
 hi : a ≤ L.length
 big : L.length ≤ 1048576
 eq : tz L a = ts
theorem ROK.len {L : List Tok} {a : Int} {ts : Ts} (h : ROK L a ts) : (ts.length : Int) = L.length - a := by
 rw [← h.eq]; simp only [tz, List.length_map, List.length_drop]; have := h.lo; have := h.hi; omega
theorem ROK.next {L : List Tok} {a : Int} {t : T0} {ts : Ts} (h : ROK L a (t :: ts)) : ROK L (a + 1) ts := by
 have hl := h.len
 have h0 := h.lo
 refine ⟨by omega, by simp at hl; omega, h.big, ?_⟩
 have := h.eq
 simp only [tz] at this ⊢
 rw [show (a + 1).toNat = a.toNat + 1 by omega, ← List.drop_drop, List.map_drop, this]; rfl
theorem isW_ne {ts : Ts} {ws : List Bs} (h : isW ts ws = true) : ts ≠ [] := by rintro rfl; simp [isW, hd] at h
theorem namedF_ne {ts : Ts} (h : namedF ts = true) : ts ≠ [] := by rintro rfl; simp [namedF, hd] at h
theorem ROK.tl {L : List Tok} {a : Int} {ts : Ts} (h : ROK L a ts) (hn : ts ≠ []) : ROK L (a + 1) ts.tail := by
 cases ts with
 | nil => exact absurd rfl hn
 | cons t ts => exact h.next
theorem ROK.get {L : List Tok} {a : Int} {t : T0} {ts : Ts} (h : ROK L a (t :: ts)) : ∃ x, L[a.toNat]? = some x ∧ x.t0 = t ∧ ∀ en, placeOf L en (ts.length + 1) = x.at' := by
 have hl := h.len
 have h0 := h.lo
 have h1 := h.eq
 simp only [List.length_cons] at hl
 have hlt : a.toNat < L.length := by omega
 refine ⟨L[a.toNat], List.getElem?_eq_getElem hlt, ?_, fun en => ?_⟩
 ·simp only [tz] at h1
  rw [List.drop_eq_getElem_cons hlt] at h1
  simp only [List.map_cons, List.cons.injEq] at h1
  exact h1.1
 ·unfold placeOf
  rw [show L.length - (ts.length + 1) = a.toNat by omega, List.drop_eq_getElem_cons hlt]
theorem ROK.none {L : List Tok} {a : Int} (h : ROK L a []) : a = L.length := by have := h.len; simp at this; omega
theorem placeOf_zero (L : List Tok) (en : Int) : placeOf L en 0 = en := by simp [placeOf]
abbrev Pl := Nat → Int
mutual
def encE (pl : Pl) : Ex → List D
 | .mk op text n args a => [.int .u8 op, .str text, .int .i64 n, .sl (encEs pl args), .int .i64 (pl a)]
def encEs (pl : Pl) : List Ex → List (List D)
 | [] => []
 | e :: l => encE pl e :: encEs pl l
end
mutual
def encL (pl : Pl) : Li → List D
 | .mk op rel args body a => [.int .u8 op, .str rel, .sl (encEs pl args), .sl (encLs pl body), .int .i64 (pl a)]
def encLs (pl : Pl) : List Li → List (List D)
 | [] => []
 | e :: l => encL pl e :: encLs pl l
end
def encRu (pl : Pl) (r : Ru) : List D := [.str r.head, .sl (encEs pl r.args), .sl (encLs pl r.body), .int .i64 (pl r.at')]
def encFi (f : Fi) : List D := [.str f.name, .str f.typ]
def encCa (c : Ca) : List D := [.str c.name, .sl (c.fields.map encFi)]
def encTy (pl : Pl) (t : Ty) : List D := [.int .u8 t.kind, .str t.name, .str t.base, .sl (t.fields.map encFi), .sl (t.cases.map encCa), .int .i64 (pl t.at')]
def encRe (pl : Pl) (r : Re) : List D := [.str r.name, .sl (r.fields.map encFi), .bool r.inn, .bool r.out, .bool r.inl, .int .i64 (pl r.at')]
def encBs (s : Bs) : List D := [.str s]
def encIn (pl : Pl) (i : Ini) : List D := [.str i.name, .str i.comp, .sl (i.types.map encBs), .int .i64 (pl i.at')]
def encOv (pl : Pl) (o : Ov) : List D := [.str o.rel, .int .i64 (pl o.at')]
mutual
def encUn (pl : Pl) : Un → List D
 | .mk tys rels rules comps inits overs => [.sl (tys.map (encTy pl)), .sl (rels.map (encRe pl)), .sl (rules.map (encRu pl)), .sl (encCos pl comps), .sl (inits.map (encIn pl)), .sl (overs.map (encOv pl))]
def encCo (pl : Pl) : Co → List D
 | .mk name params base types u a => [.str name, .sl (params.map encBs), .str base, .sl (types.map encBs)] ++ encUn pl u ++ [.int .i64 (pl a)]
def encCos (pl : Pl) : List Co → List (List D)
 | [] => []
 | e :: l => encCo pl e :: encCos pl l
end
theorem encEs_eq (pl : Pl) (l : List Ex) : encEs pl l = l.map (encE pl) := by induction l with | nil => rfl | cons x l ih => simp [encEs, ih]
theorem encLs_eq (pl : Pl) (l : List Li) : encLs pl l = l.map (encL pl) := by induction l with | nil => rfl | cons x l ih => simp [encLs, ih]
theorem encCos_eq (pl : Pl) (l : List Co) : encCos pl l = l.map (encCo pl) := by induction l with | nil => rfl | cons x l ih => simp [encCos, ih]
abbrev aggD (l : List D) : PV := .agg (l.map .d)
abbrev flt (L : List Tok) (en : Int) (r e : Nat) : PV := .iface 139 (.agg [.d (.int .i64 (placeOf L en r)), .d (.int .i64 e)])
abbrev RK := PEnd → Int → Int → Prop
def RKk {α : Type} (enc : α → PV) (L : List Tok) (en dp lo : Int) (x : R α) (K : RK) : Prop := match x with
 | .ok v ts' => ∀ a', lo ≤ a' → ROK L a' ts' → K (.ret (enc v)) a' dp
 | .err r e => ∀ a' dp', K (.panic (flt L en r e)) a' dp'
theorem RKk_mono {α : Type} {enc : α → PV} {L : List Tok} {en dp lo : Int} {x : R α} {K K' : RK} (hK : ∀ pe a d, K pe a d → K' pe a d) (h : RKk enc L en dp lo x K) : RKk enc L en dp lo x K' := by
 cases x with
 | ok v ts => exact fun a' h1 h2 => hK _ _ _ (h a' h1 h2)
 | err r e => exact fun a' d => hK _ _ _ (h a' d)
def rdSp (body : List PV → List Tok → Int → Int → Int → Ts → RK → Prop) : Spec := fun args σ K => match args, σ with
 | .ptr 0 0 :: rest, ⟨[.cells t [.d (.sl rows), .d (.int .i64 a), .d (.int .i64 en), .d (.int .i64 dp)]], [], 0⟩ => ∃ L ts, rows = toksR L ∧ ROK L a ts ∧
   body rest L en dp a ts fun pe a' dp' => K pe ⟨[.cells t [.d (.sl (toksR L)), .d (.int .i64 a'), .d (.int .i64 en), .d (.int .i64 dp')]], [], 0⟩
 | _, _ => False
theorem rdSp_mono {body : List PV → List Tok → Int → Int → Int → Ts → RK → Prop} (hb : ∀ rest L en dp a ts (K K' : RK), (∀ pe a d, K pe a d → K' pe a d) → body rest L en dp a ts K → body rest L en dp a ts K') : SpecMono (rdSp body) := fun args σ K K' hK h => by
 unfold rdSp at h ⊢
 split at h
 ·obtain ⟨L, ts, h1, h2, h3⟩ := h
  exact ⟨L, ts, h1, h2, hb _ _ _ _ _ _ _ _ (fun pe a d hk => hK _ _ hk) h3⟩
 ·exact h.elim
def spFunctor : Spec := fun args σ K => match args, σ with
 | [.d (.str s)], ⟨[], [], 0⟩ => ∀ n : Int, (functorF s : Int) = n → K (.ret (.d (.int .u8 n))) ⟨[], [], 0⟩
 | _, _ => False
theorem spFunctor_mono : SpecMono spFunctor := fun args σ K K' hK h => by
 unfold spFunctor at h ⊢; split at h <;> first | exact fun n hn => hK _ _ (h n hn) | exact h.elim
def spKept : Spec := fun args σ K => match args, σ with
 | [.d (.str s)], ⟨[], [], 0⟩ => ∀ b, keptF s = b → K (.ret (.d (.bool b))) ⟨[], [], 0⟩
 | _, _ => False
theorem spKept_mono : SpecMono spKept := fun args σ K K' hK h => by
 unfold spKept at h ⊢; split at h <;> first | exact fun n hn => hK _ _ (h n hn) | exact h.elim
def idxIn (s : Bs) : Nat → List Bs → Int
 | _, [] => -1
 | i, w :: ws => if s = w then i else idxIn s (i + 1) ws
def spIndexS : Spec := fun args σ K => match args, σ with
 | [.d (.sl rows), .d (.str s)], ⟨[], [], 0⟩ => ∃ ws : List Bs, rows = ws.map encBs ∧ ws.length ≤ 1048576 ∧ K (.ret (.d (.int .i64 (idxIn s 0 ws)))) ⟨[], [], 0⟩
 | _, _ => False
theorem spIndexS_mono : SpecMono spIndexS := fun args σ K K' hK h => by
 unfold spIndexS at h ⊢; split at h
 ·obtain ⟨ws, h1, h2, h3⟩ := h; exact ⟨ws, h1, h2, hK _ _ h3⟩
 ·exact h.elim
def spContains : Spec := fun args σ K => match args, σ with
 | [.d (.sl rows), .d (.str s)], ⟨[], [], 0⟩ => ∃ ws : List Bs, rows = ws.map encBs ∧ ws.length ≤ 1048576 ∧ ∀ b, ws.contains s = b → K (.ret (.d (.bool b))) ⟨[], [], 0⟩
 | _, _ => False
theorem spContains_mono : SpecMono spContains := fun args σ K K' hK h => by
 unfold spContains at h ⊢; split at h
 ·obtain ⟨ws, h1, h2, h3⟩ := h; exact ⟨ws, h1, h2, fun b hb => hK _ _ (h3 b hb)⟩
 ·exact h.elim
def spMore : Spec := rdSp fun rest L en dp a ts K => match rest with
 | [.d (.int .i64 n)] => ∀ fin, (n = 0 ∧ K (.ret (.agg [.d (.int .u8 (hd ts).kind), .d (.str (hd ts).text), .d (.int .i64 (hd ts).n), .d (.int .i64 (placeOf L en ts.length)), .d (.int .i64 fin)])) a dp) ∨
   (n = 1 ∧ K (.ret (.agg [.d (.int .u8 (hd ts.tail).kind), .d (.str (hd ts.tail).text), .d (.int .i64 (hd ts.tail).n), .d (.int .i64 (placeOf L en ts.tail.length)), .d (.int .i64 fin)])) a dp)
 | _ => False
theorem spMore_mono : SpecMono spMore := rdSp_mono fun rest L en dp a ts K K' hK h => by
 split at h
 ·exact fun fin => Or.imp (fun g => ⟨g.1, hK _ _ _ g.2⟩) (fun g => ⟨g.1, hK _ _ _ g.2⟩) (h fin)
 ·exact h.elim
def spPlace : Spec := rdSp fun rest L en dp a ts K => match rest with
 | [] => K (.ret (.d (.int .i64 (placeOf L en ts.length)))) a dp
 | _ => False
theorem spPlace_mono : SpecMono spPlace := rdSp_mono fun rest L en dp a ts K K' hK h => by
 split at h
 ·exact hK _ _ _ h
 ·exact h.elim
def spIs : Spec := rdSp fun rest L en dp a ts K => match rest with
 | [.d (.sl rows)] => ∃ ws : List Bs, rows = ws.map encBs ∧ ws.length ≤ 1048576 ∧ ∀ b, isW ts ws = b → K (.ret (.d (.bool b))) a dp
 | _ => False
theorem spIs_mono : SpecMono spIs := rdSp_mono fun rest L en dp a ts K K' hK h => by
 split at h
 ·obtain ⟨ws, h1, h2, h3⟩ := h; exact ⟨ws, h1, h2, fun b hb => hK _ _ _ (h3 b hb)⟩
 ·exact h.elim
def spAsk (p : Ts → Bool) : Spec := rdSp fun rest L en dp a ts K => match rest with
 | [] => ∀ b, p ts = b → K (.ret (.d (.bool b))) a dp
 | _ => False
theorem spAsk_mono (p : Ts → Bool) : SpecMono (spAsk p) := rdSp_mono fun rest L en dp a ts K K' hK h => by
 split at h
 ·exact fun b hb => hK _ _ _ (h b hb)
 ·exact h.elim
def spFail : Spec := rdSp fun rest L en dp a ts K => match rest with
 | [.d (.int .i64 e)] => K (.panic (.iface 139 (.agg [.d (.int .i64 (placeOf L en ts.length)), .d (.int .i64 e)]))) a dp
 | _ => False
theorem spFail_mono : SpecMono spFail := rdSp_mono fun rest L en dp a ts K K' hK h => by
 split at h
 ·exact hK _ _ _ h
 ·exact h.elim
def spTake : Spec := rdSp fun rest L en dp a ts K => match rest with
 | [.d (.sl rows)] => ∃ ws : List Bs, rows = ws.map encBs ∧ ws.length ≤ 1048576 ∧ (isW ts ws = true → ROK L (a + 1) ts.tail → K (.ret (.d (.bool true))) (a + 1) dp) ∧ (isW ts ws = false → K (.ret (.d (.bool false))) a dp)
 | _ => False
theorem spTake_mono : SpecMono spTake := rdSp_mono fun rest L en dp a ts K K' hK h => by
 split at h
 ·obtain ⟨ws, h1, h2, h3, h4⟩ := h; exact ⟨ws, h1, h2, fun b hb => hK _ _ _ (h3 b hb), fun b => hK _ _ _ (h4 b)⟩
 ·exact h.elim
def spRoom : Spec := rdSp fun rest L en dp a ts K => match rest with
 | [.d (.int .i64 n), .d (.int .i64 m)] => (n = m → K (.panic (flt L en ts.length 3)) a dp) ∧ (n ≠ m → K (.ret (.tuple [])) (a + 1) dp)
 | _ => False
theorem spRoom_mono : SpecMono spRoom := rdSp_mono fun rest L en dp a ts K K' hK h => by
 split at h
 ·exact ⟨fun g => hK _ _ _ (h.1 g), fun g => hK _ _ _ (h.2 g)⟩
 ·exact h.elim
def spR {α : Type} (enc : List Tok → Int → α → PV) (P : Ts → R α) (lo : Int) : Spec := rdSp fun rest L en dp a ts K => match rest with
 | [] => ∀ x, P ts = x → RKk (enc L en) L en dp (a + lo) x K
 | _ => False
theorem spR_mono {α : Type} (enc : List Tok → Int → α → PV) (P : Ts → R α) (lo : Int) : SpecMono (spR enc P lo) := rdSp_mono fun rest L en dp a ts K K' hK h => by
 split at h
 ·exact fun x hx => RKk_mono hK (h x hx)
 ·exact h.elim
def spMust : Spec := rdSp fun rest L en dp a ts K => match rest with
 | [.d (.str w)] => ∀ x, mustF w ts = x → RKk (fun _ => .tuple []) L en dp (a + 1) x K
 | _ => False
theorem spMust_mono : SpecMono spMust := rdSp_mono fun rest L en dp a ts K K' hK h => by
 split at h
 ·exact fun x hx => RKk_mono hK (h x hx)
 ·exact h.elim
abbrev spNameP : Spec := spR (fun _ _ (v : Bs) => .d (.str v)) nameP 1
end Go.PM.Lex
end
end

section
set_option maxRecDepth 100000
set_option maxHeartbeats 4000000
namespace Go.PM.Lex
open Go.Proofs
variable {w0 : World} {nG : Nat}
theorem functor_ok : PCalls (GG w0 nG) 96 spFunctor := by
 refine pcalls tab_ok mixed (tbl := []) trivial Tryz.func96 rfl (by kernel_rfl) (by kernel_rfl) ?_
 intro args σ K h
 unfold spFunctor at h
 split at h
 ·rename_i s
  refine ⟨loopsOf [], 0, false, by simp, Nat.le_of_ble_eq_true rfl, ?_⟩
  repeat' ((conv => whnf); refine CondP.dec (fun hc => ?_) (fun hc => ?_))
  all_goals (conv => whnf)
  all_goals exact h _ (by simp [functorF, *])
 ·exact h.elim
noncomputable def tblKept : Tbl := [(96, spFunctor)]
theorem kept_ok : PCalls (GG w0 nG) 40 spKept := by
 refine pcalls tab_ok mixed (tbl := tblKept) ⟨⟨functor_ok, spFunctor_mono⟩, trivial⟩ Tryz.func40 rfl (by kernel_rfl) (by kernel_rfl) ?_
 intro args σ K h
 unfold spKept at h
 split at h
 ·rename_i s
  refine ⟨loopsOf [], 0, false, by simp, Nat.le_of_ble_eq_true rfl, ?_⟩
  repeat' ((conv => whnf); refine CondP.dec (fun hc => ?_) (fun hc => ?_))
  all_goals (conv => whnf)
  all_goals first
   | contradiction
   | exact h _ (by subst_vars; decide)
   | skip
  intro n hn
  conv => whnf
  refine h _ ?_
  have hk : keptWords.contains s = false := by
   have : ¬ s ∈ keptWords := by
    simp only [keptWords, List.mem_cons, List.not_mem_nil, or_false, not_or]
    repeat' (first | assumption | refine ⟨by assumption, ?_⟩)
   rw [Bool.eq_false_iff]; intro g
   exact this (List.contains_iff_mem.1 g)
  rw [keptF, hk, ← hn]
  by_cases h0 : functorF s = 0 <;> simp [h0]
 ·exact h.elim
end Go.PM.Lex
end

section
set_option maxRecDepth 100000
set_option maxHeartbeats 4000000
namespace Go.PM.Lex
open Go.Proofs
variable {w0 : World} {nG : Nat}
theorem idxIn_cons (s w : Bs) (i : Nat) (ws : List Bs) : idxIn s i (w :: ws) = if s = w then (i : Int) else idxIn s (i + 1) ws := rfl
theorem idxIn_neg (s : Bs) : ∀ (ws : List Bs) (i : Nat), (0 ≤ idxIn s i ws) ↔ ws.contains s = true
 | [], i => by simp [idxIn]
 | w :: ws, i => by
  rw [idxIn_cons]
  split
  ·rename_i h; subst h; simp
  ·rename_i h; rw [idxIn_neg s ws]; simp [h]
theorem idxIn_drop (s : Bs) (ws : List Bs) (i : Nat) (h : i < ws.length) : idxIn s i (ws.drop i) = if s = ws[i] then (i : Int) else idxIn s (i + 1) (ws.drop (i + 1)) := by
 rw [List.drop_eq_getElem_cons h, idxIn_cons]
theorem indexS_ok : PCalls (GG w0 nG) 237 spIndexS := by
 refine pcalls tab_ok mixed (tbl := []) trivial Tryz.func237 rfl (by kernel_rfl) (by kernel_rfl) ?_
 intro args σ K h
 unfold spIndexS at h
 split at h
 ·rename_i rows s
  obtain ⟨ws, rfl, hw, h⟩ := h
  refine ⟨loopsOf [(2, ⟨[8], [0, 1, 7], fun vs σ => ∃ i : Nat, vs = [.d (.int .i64 i)] ∧ σ = ⟨[], [], 0⟩ ∧ i ≤ ws.length ∧ idxIn s 0 ws = idxIn s i (ws.drop i), fun vs _ => match vs with | [.d (.int _ i)] => ((ws.length : Int) - i).toNat | _ => 0⟩)], 0, false, by simp, Nat.le_of_ble_eq_true rfl, ?_⟩
  conv => whnf
  refine ⟨⟨0, rfl, rfl, by omega, rfl⟩, ?_⟩
  intro vs σ hI
  obtain ⟨i, rfl, rfl, hi, hx⟩ := hI
  conv => whnf
  refine CondP.dec (fun hc => ?_) (fun hc => ?_)
  ·have hc : i < ws.length := by have hc : (i : Int) < ((ws.map encBs).length : Int) := hc; rw [List.length_map] at hc; omega
   conv => whnf
   refine ⟨encBs ws[i], by omega, by simp [hc], ?_⟩
   rw [idxIn_drop s ws i hc] at hx
   conv => whnf
   refine CondP.dec (fun h1 => ?_) (fun h1 => ?_)
   ·conv => whnf
    rw [hx, if_pos h1] at h
    exact h
   ·conv => whnf
    rw [if_neg h1] at hx
    refine Or.inl ⟨InR.i64 (by omega) (by omega), ?_⟩
    conv => whnf
    refine ⟨⟨i + 1, rfl, rfl, by omega, hx⟩, ?_⟩
    show ((ws.length : Int) - ((i : Int) + 1)).toNat < ((ws.length : Int) - (i : Int)).toNat
    omega
  ·have hc : ws.length ≤ i := by have hc : ¬ (i : Int) < ((ws.map encBs).length : Int) := hc; rw [List.length_map] at hc; omega
   rw [List.drop_eq_nil_of_le hc] at hx
   conv => whnf
   rw [hx] at h
   exact h
 ·exact h.elim
noncomputable def tblCont : Tbl := [(237, spIndexS)]
theorem contains_ok : PCalls (GG w0 nG) 167 spContains := by
 refine pcalls tab_ok mixed (tbl := tblCont) ⟨⟨indexS_ok, spIndexS_mono⟩, trivial⟩ Tryz.func167 rfl (by kernel_rfl) (by kernel_rfl) ?_
 intro args σ K h
 unfold spContains at h
 split at h
 ·rename_i rows s
  obtain ⟨ws, rfl, hw, h⟩ := h
  refine ⟨loopsOf [], 0, false, by simp, Nat.le_of_ble_eq_true rfl, ?_⟩
  conv => whnf
  refine ⟨ws, rfl, hw, ?_⟩
  conv => whnf
  exact h _ (by rw [Bool.eq_iff_iff, decide_eq_true_eq, ← idxIn_neg s ws 0])
 ·exact h.elim
end Go.PM.Lex
end

section
set_option maxRecDepth 100000
set_option maxHeartbeats 4000000
namespace Go.PM.Lex
open Go.Proofs
variable {w0 : World} {nG : Nat}
theorem more_ok : PCalls (GG w0 nG) 166 spMore := by
 refine pcalls tab_ok mixed (tbl := []) trivial Tryz.func166 rfl (by kernel_rfl) (by kernel_rfl) ?_
 intro args σ K h
 unfold spMore rdSp at h
 split at h
 ·rename_i t rows a en dp
  obtain ⟨L, ts, rfl, ho, h⟩ := h
  split at h
  ·rename_i n
   have hl := ho.len
   have h0 := ho.lo
   have h1 := ho.hi
   have h2 := ho.big
   have hn : n = 0 ∨ n = 1 := by rcases h 0 with g | g <;> simp [g.1]
   refine ⟨loopsOf [], 1, false, by simp, Nat.le_of_ble_eq_true rfl, ?_⟩
   conv => whnf
   refine Or.inl ⟨InR.i64 (by omega) (by omega), ?_⟩
   conv => whnf
   refine CondP.dec (fun hc => ?_) (fun hc => ?_)
   ·have hc : a + n < L.length := by have hc : a + n < ((toksR L).length : Int) := hc; rw [toksR_len] at hc; exact hc
    rcases hn with rfl | rfl
    ·cases ts with
     | nil => simp at hl; omega
     | cons t0 ts =>
      obtain ⟨x, hx, rfl, hp⟩ := ho.get
      conv => whnf
      refine ⟨tokR x, by omega, by simp [toksR, hx], ?_⟩
      conv => whnf
      have h := h x.fin
      rw [List.length_cons, hp] at h
      rcases h with h | h
      ·exact h.2
      ·exact absurd h.1 (by omega)
    ·cases ts with
     | nil => simp at hl; omega
     | cons t1 ts =>
     cases ts with
     | nil => simp at hl; omega
     | cons t0 ts =>
      obtain ⟨x, hx, rfl, hp⟩ := ho.next.get
      conv => whnf
      refine ⟨tokR x, by omega, by simp [toksR, hx], ?_⟩
      conv => whnf
      have h := h x.fin
      simp only [List.tail_cons, List.length_cons, hp] at h
      rcases h with h | h
      ·exact absurd h.1 (by omega)
      ·exact h.2
   ·have hc : ¬ a + n < L.length := by have hc : ¬ a + n < ((toksR L).length : Int) := hc; rw [toksR_len] at hc; exact hc
    conv => whnf
    have h := h 0
    rcases hn with rfl | rfl
    ·cases ts with
     | nil => rcases h with h | h
              ·have h := h.2; simp only [List.length_nil, placeOf_zero] at h; exact h
              ·exact absurd h.1 (by omega)
     | cons t0 ts => simp at hl; omega
    ·have : ts.tail = [] := by
      cases ts with
      | nil => rfl
      | cons t1 ts => cases ts with
       | nil => rfl
       | cons t0 ts => simp at hl; omega
     rw [this] at h
     rcases h with h | h
     ·exact absurd h.1 (by omega)
     ·have h := h.2; simp only [List.length_nil, placeOf_zero] at h; exact h
  ·exact h.elim
 ·exact h.elim
end Go.PM.Lex
end

section
set_option maxRecDepth 100000
set_option maxHeartbeats 4000000
namespace Go.PM.Lex
open Go.Proofs
variable {w0 : World} {nG : Nat}
noncomputable def tblPlace : Tbl := [(166, spMore)]
theorem place_ok (ht : TblOK (GG w0 nG) tblPlace) : PCalls (GG w0 nG) 91 spPlace := by
 refine pcalls tab_ok mixed (tbl := tblPlace) ht Tryz.func91 rfl (by kernel_rfl) (by kernel_rfl) ?_
 intro args σ K h
 unfold spPlace rdSp at h
 split at h
 ·rename_i rest t rows a en dp
  obtain ⟨L, ts, rfl, ho, h⟩ := h
  split at h
  ·skip
   refine ⟨loopsOf [], 1, false, by simp, Nat.le_of_ble_eq_true rfl, ?_⟩
   conv => whnf
   refine ⟨L, ts, rfl, ho, fun fin => Or.inl ⟨rfl, ?_⟩⟩
   conv => whnf
   exact h
  ·exact h.elim
 ·exact h.elim
noncomputable def tblIs : Tbl := [(166, spMore), (167, spContains)]
theorem is_ok (ht : TblOK (GG w0 nG) tblIs) : PCalls (GG w0 nG) 86 spIs := by
 refine pcalls tab_ok mixed (tbl := tblIs) ht Tryz.func86 rfl (by kernel_rfl) (by kernel_rfl) ?_
 intro args σ K h
 unfold spIs rdSp at h
 split at h
 ·rename_i rest t rows a en dp
  obtain ⟨L, ts, rfl, ho, h⟩ := h
  split at h
  ·rename_i rows
   obtain ⟨ws, rfl, hw, h⟩ := h
   refine ⟨loopsOf [], 1, false, by simp, Nat.le_of_ble_eq_true rfl, ?_⟩
   conv => whnf
   refine ⟨L, ts, rfl, ho, fun fin => Or.inl ⟨rfl, ?_⟩⟩
   conv => whnf
   refine CondP.dec (fun h1 => ?_) (fun h1 => ?_)
   ·conv => whnf
    refine ⟨ws, rfl, hw, fun b hb => ?_⟩
    conv => whnf
    exact h _ (by simp only [isW, hb]; simp [show (hd ts).kind = 1 by omega])
   ·conv => whnf
    refine CondP.dec (fun h2 => ?_) (fun h2 => ?_)
    ·conv => whnf
     refine ⟨ws, rfl, hw, fun b hb => ?_⟩
     conv => whnf
     exact h _ (by simp only [isW, hb]; simp [show (hd ts).kind = 4 by omega])
    ·conv => whnf
     exact h _ (by simp [isW, show ¬ (hd ts).kind = 1 by omega, show ¬ (hd ts).kind = 4 by omega])
  ·exact h.elim
 ·exact h.elim
noncomputable def tblNamed : Tbl := [(166, spMore), (40, spKept)]
theorem named_ok (ht : TblOK (GG w0 nG) tblNamed) : PCalls (GG w0 nG) 95 (spAsk namedF) := by
 refine pcalls tab_ok mixed (tbl := tblNamed) ht Tryz.func95 rfl (by kernel_rfl) (by kernel_rfl) ?_
 intro args σ K h
 unfold spAsk rdSp at h
 split at h
 ·rename_i rest t rows a en dp
  obtain ⟨L, ts, rfl, ho, h⟩ := h
  split at h
  ·skip
   refine ⟨loopsOf [], 1, false, by simp, Nat.le_of_ble_eq_true rfl, ?_⟩
   conv => whnf
   refine ⟨L, ts, rfl, ho, fun fin => Or.inl ⟨rfl, ?_⟩⟩
   conv => whnf
   refine CondP.dec (fun h1 => ?_) (fun h1 => ?_)
   ·conv => whnf
    refine CondP.ndec (fun h2 => ?_) (fun h2 => ?_)
    ·conv => whnf
     intro b hb
     conv => whnf
     exact h _ (by simp only [namedF, hb]; rw [decide_eq_true (show (hd ts).kind = 1 by omega), decide_eq_false h2]; simp)
    ·conv => whnf
     exact h _ (by simp only [namedF]; rw [decide_eq_true (p := (hd ts).text = [95]) h2]; simp)
   ·conv => whnf
    exact h _ (by simp [namedF, show ¬ (hd ts).kind = 1 by omega])
  ·exact h.elim
 ·exact h.elim
noncomputable def tblFail : Tbl := [(91, spPlace)]
theorem fail_ok (ht : TblOK (GG w0 nG) tblFail) : PCalls (GG w0 nG) 85 spFail := by
 refine pcalls tab_ok mixed (tbl := tblFail) ht Tryz.func85 rfl (by kernel_rfl) (by kernel_rfl) ?_
 intro args σ K h
 unfold spFail rdSp at h
 split at h
 ·rename_i rest t rows a en dp
  obtain ⟨L, ts, rfl, ho, h⟩ := h
  split at h
  ·skip
   refine ⟨loopsOf [], 1, false, by simp, Nat.le_of_ble_eq_true rfl, ?_⟩
   conv => whnf
   refine ⟨L, ts, rfl, ho, ?_⟩
   conv => whnf
   exact h
  ·exact h.elim
 ·exact h.elim
noncomputable def tblTake : Tbl := [(86, spIs)]
theorem take_ok (ht : TblOK (GG w0 nG) tblTake) : PCalls (GG w0 nG) 104 spTake := by
 refine pcalls tab_ok mixed (tbl := tblTake) ht Tryz.func104 rfl (by kernel_rfl) (by kernel_rfl) ?_
 intro args σ K h
 unfold spTake rdSp at h
 split at h
 ·rename_i rest t rows a en dp
  obtain ⟨L, ts, rfl, ho, h⟩ := h
  split at h
  ·rename_i rows
   obtain ⟨ws, rfl, hw, h1, h2⟩ := h
   refine ⟨loopsOf [], 1, false, by simp, Nat.le_of_ble_eq_true rfl, ?_⟩
   conv => whnf
   refine ⟨L, ts, rfl, ho, ws, rfl, hw, fun b hb => ?_⟩
   cases b with
   | true =>
    have ho2 := ho.tl (isW_ne hb)
    have g1 := ho.lo
    have g2 := ho2.hi
    have g3 := ho2.big
    conv => whnf
    refine Or.inl ⟨InR.i64 (by omega) (by omega), ?_⟩
    conv => whnf
    exact h1 hb ho2
   | false =>
    conv => whnf
    exact h2 hb
  ·exact h.elim
 ·exact h.elim
noncomputable def tblMust : Tbl := [(104, spTake), (85, spFail)]
theorem must_ok (ht : TblOK (GG w0 nG) tblMust) : PCalls (GG w0 nG) 93 spMust := by
 refine pcalls tab_ok mixed (tbl := tblMust) ht Tryz.func93 rfl (by kernel_rfl) (by kernel_rfl) ?_
 intro args σ K h
 unfold spMust rdSp at h
 split at h
 ·rename_i rest t rows a en dp
  obtain ⟨L, ts, rfl, ho, h⟩ := h
  split at h
  ·rename_i w
   refine ⟨loopsOf [], 1, false, by simp, Nat.le_of_ble_eq_true rfl, ?_⟩
   conv => whnf
   refine ⟨L, ts, rfl, ho, [w], rfl, by simp, fun hb ho2 => ?_, fun hb => ?_⟩
   ·conv => whnf
    have h := h _ rfl
    rw [mustF, if_pos hb] at h
    exact h _ (by omega) ho2
   ·conv => whnf
    refine ⟨L, ts, rfl, ho, ?_⟩
    conv => whnf
    have h := h _ rfl
    rw [mustF, if_neg (by rw [hb]; simp)] at h
    exact h _ _
  ·exact h.elim
 ·exact h.elim
noncomputable def tblRoom : Tbl := [(85, spFail)]
theorem room_ok (ht : TblOK (GG w0 nG) tblRoom) : PCalls (GG w0 nG) 87 spRoom := by
 refine pcalls tab_ok mixed (tbl := tblRoom) ht Tryz.func87 rfl (by kernel_rfl) (by kernel_rfl) ?_
 intro args σ K h
 unfold spRoom rdSp at h
 split at h
 ·rename_i rest t rows a en dp
  obtain ⟨L, ts, rfl, ho, h⟩ := h
  split at h
  ·rename_i n m
   refine ⟨loopsOf [], 1, false, by simp, Nat.le_of_ble_eq_true rfl, ?_⟩
   have g1 := ho.lo
   have g2 := ho.hi
   have g3 := ho.big
   conv => whnf
   refine CondP.dec (fun hc => ?_) (fun hc => ?_)
   ·conv => whnf
    refine ⟨L, ts, rfl, ho, ?_⟩
    conv => whnf
    exact h.1 hc
   ·conv => whnf
    refine Or.inl ⟨InR.i64 (by omega) (by omega), ?_⟩
    conv => whnf
    exact h.2 hc
  ·exact h.elim
 ·exact h.elim
noncomputable def tblPName : Tbl := [(95, (spAsk namedF)), (85, spFail)]
theorem pname_ok (ht : TblOK (GG w0 nG) tblPName) : PCalls (GG w0 nG) 92 spNameP := by
 refine pcalls tab_ok mixed (tbl := tblPName) ht Tryz.func92 rfl (by kernel_rfl) (by kernel_rfl) ?_
 intro args σ K h
 unfold spNameP spR rdSp at h
 split at h
 ·rename_i rest t rows a en dp
  obtain ⟨L, ts, rfl, ho, h⟩ := h
  split at h
  ·skip
   refine ⟨loopsOf [], 1, false, by simp, Nat.le_of_ble_eq_true rfl, ?_⟩
   have h := h _ rfl
   conv => whnf
   refine ⟨L, ts, rfl, ho, fun b hb => ?_⟩
   cases b with
   | true =>
    have ho2 := ho.tl (namedF_ne hb)
    have g1 := ho.lo
    have g2 := ho2.hi
    have g3 := ho2.big
    rw [nameP, if_pos hb] at h
    conv => whnf
    refine Or.inl ⟨InR.i64 (by omega) (by omega), ?_⟩
    conv => whnf
    refine Or.inl ⟨InR.i64 (by omega) (by omega), ?_⟩
    conv => whnf
    cases ts with
    | nil => exact absurd rfl (namedF_ne hb)
    | cons t0 ts =>
     obtain ⟨x, hx, rfl, hp⟩ := ho.get
     refine ⟨tokR x, by omega, by rw [show a + 1 - 1 = a by omega]; simp [toksR, hx], ?_⟩
     conv => whnf
     exact h _ (by omega) ho2
   | false =>
    rw [nameP, if_neg (by rw [hb]; simp)] at h
    conv => whnf
    refine ⟨L, ts, rfl, ho, ?_⟩
    conv => whnf
    exact h _ _
  ·exact h.elim
 ·exact h.elim
noncomputable def tblStarts : Tbl := [(166, spMore), (86, spIs), (40, spKept), (96, spFunctor)]
theorem starts_ok (ht : TblOK (GG w0 nG) tblStarts) : PCalls (GG w0 nG) 184 (spAsk startsF) := by
 refine pcalls tab_ok mixed (tbl := tblStarts) ht Tryz.func184 rfl (by kernel_rfl) (by kernel_rfl) ?_
 intro args σ K h
 unfold spAsk rdSp at h
 split at h
 ·rename_i rest t rows a en dp
  obtain ⟨L, ts, rfl, ho, h⟩ := h
  split at h
  ·skip
   refine ⟨loopsOf [], 1, false, by simp, Nat.le_of_ble_eq_true rfl, ?_⟩
   conv => whnf
   refine ⟨L, ts, rfl, ho, fun fin => Or.inl ⟨rfl, ?_⟩⟩
   conv => whnf
   refine CondP.dec (fun h1 => ?_) (fun h1 => ?_)
   ·conv => whnf
    refine CondP.dec (fun _ => ?_) (fun g => absurd h1 g)
    conv => whnf
    exact h _ (by rw [startsF, if_pos (by omega)])
   conv => whnf
   refine CondP.dec (fun h2 => ?_) (fun h2 => ?_)
   ·conv => whnf
    exact h _ (by rw [startsF, if_pos (by omega)])
   conv => whnf
   refine CondP.dec (fun h3 => ?_) (fun h3 => ?_)
   ·conv => whnf
    refine ⟨L, ts, rfl, ho, [[45], [126], [40], [91], [36]], rfl, by simp, fun b hb => ?_⟩
    conv => whnf
    exact h _ (by rw [startsF, if_neg (by omega), if_pos (by omega)]; exact hb)
   conv => whnf
   refine CondP.dec (fun h4 => ?_) (fun h4 => ?_)
   ·have e0 : startsF ts = (!keptF (hd ts).text || (decide ((hd ts).text = [110, 105, 108]) || decide (functorF (hd ts).text ≠ 0))) := by rw [startsF, if_neg (by omega), if_neg (by omega), if_pos (by omega)]
    rw [e0] at h
    conv => whnf
    intro b hb
    rw [hb] at h
    cases b with
    | false => conv => whnf
               exact h _ rfl
    | true =>
     conv => whnf
     refine CondP.dec (fun h5 => ?_) (fun h5 => ?_)
     ·conv => whnf
      exact h _ (by rw [decide_eq_true (p := (hd ts).text = [110, 105, 108]) h5]; rfl)
     ·conv => whnf
      intro n hn
      conv => whnf
      exact h _ (by rw [decide_eq_false (p := (hd ts).text = [110, 105, 108]) h5, ← hn]; by_cases g : functorF (hd ts).text = 0 <;> simp [g])
   ·conv => whnf
    exact h _ (by rw [startsF, if_neg (by omega), if_neg (by omega), if_neg (by omega)])
  ·exact h.elim
 ·exact h.elim
noncomputable def spBin : Spec := rdSp fun rest L en dp a ts K => match rest with
 | [] => ∀ n k : Int, ((binF ts).1 : Int) = n → ((binF ts).2 : Int) = k → K (.ret (.tuple [.d (.int .i64 n), .d (.int .u8 k)])) a dp
 | _ => False
theorem spBin_mono : SpecMono spBin := rdSp_mono fun rest L en dp a ts K K' hK h => by
 split at h
 ·exact fun n k h1 h2 => hK _ _ _ (h n k h1 h2)
 ·exact h.elim
noncomputable def tblBin : Tbl := [(166, spMore)]
theorem binary_ok (ht : TblOK (GG w0 nG) tblBin) : PCalls (GG w0 nG) 181 spBin := by
 refine pcalls tab_ok mixed (tbl := tblBin) ht Tryz.func181 rfl (by kernel_rfl) (by kernel_rfl) ?_
 intro args σ K h
 unfold spBin rdSp at h
 split at h
 ·rename_i rest t rows a en dp
  obtain ⟨L, ts, rfl, ho, h⟩ := h
  split at h
  ·skip
   refine ⟨loopsOf [], 1, false, by simp, Nat.le_of_ble_eq_true rfl, ?_⟩
   conv => whnf
   refine ⟨L, ts, rfl, ho, fun fin => Or.inl ⟨rfl, ?_⟩⟩
   conv => whnf
   refine CondP.ndec (fun h1 => ?_) (fun h1 => ?_)
   ·conv => whnf
    refine CondP.ndec (fun h2 => ?_) (fun h2 => ?_)
    ·conv => whnf
     have e0 : binF ts = (0, 0) := by rw [binF, if_pos (by omega)]
     exact h _ _ (by rw [e0]; rfl) (by rw [e0]; rfl)
    ·have hn : ¬ ((hd ts).kind ≠ 1 ∧ (hd ts).kind ≠ 4) := by omega
     clear h1 h2
     repeat' ((conv => whnf); refine CondP.dec (fun hc => ?_) (fun hc => ?_))
     all_goals (conv => whnf)
     all_goals exact h _ _ (by rw [binF, if_neg hn]; simp [*]) (by rw [binF, if_neg hn]; simp [*])
   ·have hn : ¬ ((hd ts).kind ≠ 1 ∧ (hd ts).kind ≠ 4) := by omega
    clear h1
    repeat' ((conv => whnf); refine CondP.dec (fun hc => ?_) (fun hc => ?_))
    all_goals (conv => whnf)
    all_goals exact h _ _ (by rw [binF, if_neg hn]; simp [*]) (by rw [binF, if_neg hn]; simp [*])
  ·exact h.elim
 ·exact h.elim
end Go.PM.Lex
end

section
set_option maxRecDepth 100000
set_option maxHeartbeats 4000000
namespace Go.PM.Lex
open Go.Proofs
variable {w0 : World} {nG : Nat}
noncomputable def rdSp1 (body : List PV → List Tok → Int → Int → Int → Ts → RK → Prop) : Spec := fun args σ K => match args, σ with
 | .ptr 0 0 :: rest, ⟨[.cells t0 [.ptr 1 0], .cells t [.d (.sl rows), .d (.int .i64 a), .d (.int .i64 en), .d (.int .i64 dp)]], [], 0⟩ => ∃ L ts, rows = toksR L ∧ ROK L a ts ∧
   body rest L en dp a ts fun pe a' dp' => K pe ⟨[.cells t0 [.ptr 1 0], .cells t [.d (.sl (toksR L)), .d (.int .i64 a'), .d (.int .i64 en), .d (.int .i64 dp')]], [], 0⟩
 | _, _ => False
theorem rdSp1_mono {body : List PV → List Tok → Int → Int → Int → Ts → RK → Prop} (hb : ∀ rest L en dp a ts (K K' : RK), (∀ pe a d, K pe a d → K' pe a d) → body rest L en dp a ts K → body rest L en dp a ts K') : SpecMono (rdSp1 body) := fun args σ K K' hK h => by
 unfold rdSp1 at h ⊢
 split at h
 ·obtain ⟨L, ts, h1, h2, h3⟩ := h
  exact ⟨L, ts, h1, h2, hb _ _ _ _ _ _ _ _ (fun pe a d hk => hK _ _ hk) h3⟩
 ·exact h.elim
noncomputable def spR1 {α : Type} (enc : List Tok → Int → α → PV) (P : Ts → R α) (lo : Int) : Spec := rdSp1 fun rest L en dp a ts K => match rest with
 | [] => ∀ x, P ts = x → RKk (enc L en) L en dp (a + lo) x K
 | _ => False
theorem spR1_mono {α : Type} (enc : List Tok → Int → α → PV) (P : Ts → R α) (lo : Int) : SpecMono (spR1 enc P lo) := rdSp1_mono fun rest L en dp a ts K K' hK h => by
 split at h
 ·exact fun x hx => RKk_mono hK (h x hx)
 ·exact h.elim
noncomputable def spAsk1 (p : Ts → Bool) : Spec := rdSp1 fun rest L en dp a ts K => match rest with
 | [] => ∀ b, p ts = b → K (.ret (.d (.bool b))) a dp
 | _ => False
theorem spAsk1_mono (p : Ts → Bool) : SpecMono (spAsk1 p) := rdSp1_mono fun rest L en dp a ts K K' hK h => by
 split at h
 ·exact fun b hb => hK _ _ _ (h b hb)
 ·exact h.elim
noncomputable def spRD {α : Type} (enc : List Tok → Int → α → PV) (P : Ts → R α) (lo : Int) (d : Nat) : Spec := rdSp fun rest L en dp a ts K => match rest with
 | [] => (dp = 64 - (d : Int) ∧ 0 ≤ dp) ∧ ∀ x, P ts = x → RKk (enc L en) L en dp (a + lo) x K
 | _ => False
theorem spRD_mono {α : Type} (enc : List Tok → Int → α → PV) (P : Ts → R α) (lo : Int) (d : Nat) : SpecMono (spRD enc P lo d) := rdSp_mono fun rest L en dp a ts K K' hK h => by
 split at h
 ·exact ⟨h.1, fun x hx => RKk_mono hK (h.2 x hx)⟩
 ·exact h.elim
theorem map_snoc {α β : Type} (f : α → β) (l : List α) (x : α) : l.map f ++ [f x] = (l ++ [x]).map f := by simp
theorem manyGo_eq {α : Type} (sign : Bs) (most : Nat) (st : Ts → Bool) (one : Ts → R α) (f : Nat) (l : List α) (ts : Ts) : manyGo sign most st one (f + 1) l ts = if st ts = true ∧ l.length = most then .err ts.length 3
      else (one ts).bind fun x ts => if isW ts [sign] = true then manyGo sign most st one f (l ++ [x]) ts.tail else .ok (l ++ [x]) ts := rfl
noncomputable def spManyField : Spec := fun args σ K => match args, σ with
 | [.ptr 0 0, .d (.str sg), .d (.int .i64 m), .func g1 [.ptr 0 0] [], .func g2 [] [.ptr 1 0]], ⟨[.cells t [.d (.sl rows), .d (.int .i64 a), .d (.int .i64 en), .d (.int .i64 dp)], .cells t0 [.ptr 0 0]], [], 0⟩ =>
   (sg = [44] ∧ m = 12 ∧ g1 = 95 ∧ g2 = 239) ∧ ∃ L ts, rows = toksR L ∧ ROK L a ts ∧ ∀ x, manyF [44] 12 namedF fieldF ts = x →
    RKk (fun (l : List Fi) => .d (.sl (l.map (encFi)))) L en dp a x fun pe a' dp' => K pe ⟨[.cells t [.d (.sl (toksR L)), .d (.int .i64 a'), .d (.int .i64 en), .d (.int .i64 dp')], .cells t0 [.ptr 0 0]], [], 0⟩
 | _, _ => False
theorem spManyField_mono : SpecMono (spManyField) := fun args σ K K' hK h => by
 unfold spManyField at h ⊢
 split at h
 ·obtain ⟨h0, L, ts, h1, h2, h3⟩ := h
  exact ⟨h0, L, ts, h1, h2, fun x hx => RKk_mono (fun _ _ _ hk => hK _ _ hk) (h3 x hx)⟩
 ·exact h.elim
noncomputable def tblManyField : Tbl := [(95, (spAsk namedF)), (85, spFail), (239, (spR1 (fun _ _ (v : Fi) => aggD (encFi v)) fieldF 1)), (104, spTake)]
theorem manyField_ok (ht : TblOK (GG w0 nG) (tblManyField)) : PCalls (GG w0 nG) 238 (spManyField) := by
 refine pcalls tab_ok mixed (tbl := tblManyField) ht Tryz.func238 rfl (by kernel_rfl) (by kernel_rfl) ?_
 intro args σ K h
 unfold spManyField at h
 split at h
 ·rename_i sg m g1 g2 t rows a en dp t0
  obtain ⟨⟨rfl, rfl, rfl, rfl⟩, L, ts, rfl, ho, h⟩ := h
  have h := h _ rfl
  have hl := ho.len
  have hbig := ho.big
  have ha0 := ho.lo
  refine ⟨loopsOf [(2, ⟨[11], [0, 1, 2, 3, 4], fun vs σ => ∃ (l : List Fi) (a' : Int) (ts' : Ts) (f : Nat), vs = [.sl 0 46 (l.map (encFi))] ∧
   σ = ⟨[.cells t [.d (.sl (toksR L)), .d (.int .i64 a'), .d (.int .i64 en), .d (.int .i64 dp)], .cells t0 [.ptr 0 0]], [0], 1⟩ ∧ ROK L a' ts' ∧ a + l.length ≤ a' ∧ ts'.length < f ∧
   manyF [44] 12 namedF fieldF ts = manyGo [44] 12 namedF fieldF f l ts',
   fun _ σ => match σ with | ⟨.cells _ [_, .d (.int _ i), _, _] :: _, _, _⟩ => ((L.length : Int) - i).toNat | _ => 0⟩)], 2, false, by simp, Nat.le_of_ble_eq_true rfl, ?_⟩
  conv => whnf
  refine ⟨⟨[], a, ts, ts.length + 1, rfl, rfl, ho, by simp, by omega, rfl⟩, ?_⟩
  intro vs σ hI
  obtain ⟨l, a1, ts1, f, rfl, rfl, ho1, hla, hf, hm⟩ := hI
  obtain ⟨f, rfl⟩ : ∃ g, f = g + 1 := ⟨f - 1, by omega⟩
  rw [manyGo_eq] at hm
  have hl1 := ho1.len
  have hhi1 := ho1.hi
  conv => whnf
  refine ⟨L, ts1, rfl, ho1, fun b hb => ?_⟩
  have step : (¬ (namedF ts1 = true ∧ l.length = 12)) → manyF [44] 12 namedF fieldF ts = ((fieldF) ts1).bind fun x ts => if isW ts [[44]] = true then manyGo [44] 12 namedF fieldF f (l ++ [x]) ts.tail else .ok (l ++ [x]) ts := fun g => by rw [hm, if_neg g]
  cases b with
  | false =>
   have step := step (by rw [hb]; simp)
   conv => whnf
   refine ⟨L, ts1, rfl, ho1, fun x hx => ?_⟩
   rw [hx] at step
   cases x with
   | err r e =>
    rw [step, R.bind_err] at h
    intro a2 dp2
    conv => whnf
    exact h _ _
   | ok v ts2 =>
    rw [R.bind_ok] at step
    intro a2 hle ho2
    have hl2 := ho2.len
    have hhi2 := ho2.hi
    obtain ⟨v1, v2⟩ := v
    conv => whnf
    refine ⟨List.forall_mem_singleton.2 rfl, (show ((l.map (encFi)).length + 1) * 32 ≤ 2 ^ 47 by rw [List.length_map]; omega), (show (l.map (encFi)).length + 1 ≤ 2 ^ 47 by rw [List.length_map]; omega), ?_⟩
    conv => whnf
    refine ⟨L, ts2, rfl, ho2, [[44]], rfl, by simp, fun hw ho3 => ?_, fun hw => ?_⟩
    ·conv => whnf
     rw [if_pos hw] at step
     have hl3 := ho3.len
     refine ⟨⟨_, a2 + 1, ts2.tail, f, congrArg (fun r => [PV.sl 0 46 r]) (map_snoc (encFi) l _), rfl, ho3, by simp only [List.length_append, List.length_singleton]; omega, by omega, step⟩, ?_⟩
     show ((L.length : Int) - (a2 + 1)).toNat < ((L.length : Int) - a1).toNat
     omega
    ·conv => whnf
     rw [if_neg (by rw [hw]; simp)] at step
     rw [step] at h
     exact K_of (h a2 (by omega) ho2) (congrArg (fun r => PEnd.ret (PV.d (D.sl r))) (map_snoc (encFi) l _).symm) rfl
  | true =>
   conv => whnf
   refine CondP.dec (fun hc => ?_) (fun hc => ?_)
   ·have hc : l.length = 12 := by
     have hc : ((l.map (encFi)).length : Int) = 12 := hc
     rw [List.length_map] at hc; omega
    rw [hm, if_pos ⟨hb, hc⟩] at h
    conv => whnf
    refine ⟨L, ts1, rfl, ho1, ?_⟩
    conv => whnf
    exact h _ _
   ·have step := step (fun g => hc (by show ((l.map (encFi)).length : Int) = 12; rw [List.length_map, g.2]; rfl))
    conv => whnf
    refine ⟨L, ts1, rfl, ho1, fun x hx => ?_⟩
    rw [hx] at step
    cases x with
    | err r e =>
     rw [step, R.bind_err] at h
     intro a2 dp2
     conv => whnf
     exact h _ _
    | ok v ts2 =>
     rw [R.bind_ok] at step
     intro a2 hle ho2
     have hl2 := ho2.len
     have hhi2 := ho2.hi
     obtain ⟨v1, v2⟩ := v
     conv => whnf
     refine ⟨List.forall_mem_singleton.2 rfl, (show ((l.map (encFi)).length + 1) * 32 ≤ 2 ^ 47 by rw [List.length_map]; omega), (show (l.map (encFi)).length + 1 ≤ 2 ^ 47 by rw [List.length_map]; omega), ?_⟩
     conv => whnf
     refine ⟨L, ts2, rfl, ho2, [[44]], rfl, by simp, fun hw ho3 => ?_, fun hw => ?_⟩
     ·conv => whnf
      rw [if_pos hw] at step
      have hl3 := ho3.len
      refine ⟨⟨_, a2 + 1, ts2.tail, f, congrArg (fun r => [PV.sl 0 46 r]) (map_snoc (encFi) l _), rfl, ho3, by simp only [List.length_append, List.length_singleton]; omega, by omega, step⟩, ?_⟩
      show ((L.length : Int) - (a2 + 1)).toNat < ((L.length : Int) - a1).toNat
      omega
     ·conv => whnf
      rw [if_neg (by rw [hw]; simp)] at step
      rw [step] at h
      exact K_of (h a2 (by omega) ho2) (congrArg (fun r => PEnd.ret (PV.d (D.sl r))) (map_snoc (encFi) l _).symm) rfl
 ·exact h.elim
noncomputable def spManyStr : Spec := fun args σ K => match args, σ with
 | [.ptr 0 0, .d (.str sg), .d (.int .i64 m), .func g1 [.ptr 0 0] [], .func g2 [.ptr 0 0] []], ⟨[.cells t [.d (.sl rows), .d (.int .i64 a), .d (.int .i64 en), .d (.int .i64 dp)]], [], 0⟩ =>
   (sg = [44] ∧ m = 12 ∧ g1 = 95 ∧ g2 = 92) ∧ ∃ L ts, rows = toksR L ∧ ROK L a ts ∧ ∀ x, manyF [44] 12 namedF nameP ts = x →
    RKk (fun (l : List Bs) => .d (.sl (l.map (encBs)))) L en dp a x fun pe a' dp' => K pe ⟨[.cells t [.d (.sl (toksR L)), .d (.int .i64 a'), .d (.int .i64 en), .d (.int .i64 dp')]], [], 0⟩
 | _, _ => False
theorem spManyStr_mono : SpecMono (spManyStr) := fun args σ K K' hK h => by
 unfold spManyStr at h ⊢
 split at h
 ·obtain ⟨h0, L, ts, h1, h2, h3⟩ := h
  exact ⟨h0, L, ts, h1, h2, fun x hx => RKk_mono (fun _ _ _ hk => hK _ _ hk) (h3 x hx)⟩
 ·exact h.elim
noncomputable def tblManyStr : Tbl := [(95, (spAsk namedF)), (85, spFail), (92, spNameP), (104, spTake)]
theorem manyStr_ok (ht : TblOK (GG w0 nG) (tblManyStr)) : PCalls (GG w0 nG) 173 (spManyStr) := by
 refine pcalls tab_ok mixed (tbl := tblManyStr) ht Tryz.func173 rfl (by kernel_rfl) (by kernel_rfl) ?_
 intro args σ K h
 unfold spManyStr at h
 split at h
 ·rename_i sg m g1 g2 t rows a en dp
  obtain ⟨⟨rfl, rfl, rfl, rfl⟩, L, ts, rfl, ho, h⟩ := h
  have h := h _ rfl
  have hl := ho.len
  have hbig := ho.big
  have ha0 := ho.lo
  refine ⟨loopsOf [(2, ⟨[11], [0, 1, 2, 3, 4], fun vs σ => ∃ (l : List Bs) (a' : Int) (ts' : Ts) (f : Nat), vs = [.sl 0 9 (l.map (encBs))] ∧
   σ = ⟨[.cells t [.d (.sl (toksR L)), .d (.int .i64 a'), .d (.int .i64 en), .d (.int .i64 dp)]], [0], 1⟩ ∧ ROK L a' ts' ∧ a + l.length ≤ a' ∧ ts'.length < f ∧
   manyF [44] 12 namedF nameP ts = manyGo [44] 12 namedF nameP f l ts',
   fun _ σ => match σ with | ⟨.cells _ [_, .d (.int _ i), _, _] :: _, _, _⟩ => ((L.length : Int) - i).toNat | _ => 0⟩)], 1, false, by simp, Nat.le_of_ble_eq_true rfl, ?_⟩
  conv => whnf
  refine ⟨⟨[], a, ts, ts.length + 1, rfl, rfl, ho, by simp, by omega, rfl⟩, ?_⟩
  intro vs σ hI
  obtain ⟨l, a1, ts1, f, rfl, rfl, ho1, hla, hf, hm⟩ := hI
  obtain ⟨f, rfl⟩ : ∃ g, f = g + 1 := ⟨f - 1, by omega⟩
  rw [manyGo_eq] at hm
  have hl1 := ho1.len
  have hhi1 := ho1.hi
  conv => whnf
  refine ⟨L, ts1, rfl, ho1, fun b hb => ?_⟩
  have step : (¬ (namedF ts1 = true ∧ l.length = 12)) → manyF [44] 12 namedF nameP ts = ((nameP) ts1).bind fun x ts => if isW ts [[44]] = true then manyGo [44] 12 namedF nameP f (l ++ [x]) ts.tail else .ok (l ++ [x]) ts := fun g => by rw [hm, if_neg g]
  cases b with
  | false =>
   have step := step (by rw [hb]; simp)
   conv => whnf
   refine ⟨L, ts1, rfl, ho1, fun x hx => ?_⟩
   rw [hx] at step
   cases x with
   | err r e =>
    rw [step, R.bind_err] at h
    intro a2 dp2
    conv => whnf
    exact h _ _
   | ok v ts2 =>
    rw [R.bind_ok] at step
    intro a2 hle ho2
    have hl2 := ho2.len
    have hhi2 := ho2.hi
    skip
    conv => whnf
    refine ⟨List.forall_mem_singleton.2 rfl, (show ((l.map (encBs)).length + 1) * 16 ≤ 2 ^ 47 by rw [List.length_map]; omega), (show (l.map (encBs)).length + 1 ≤ 2 ^ 47 by rw [List.length_map]; omega), ?_⟩
    conv => whnf
    refine ⟨L, ts2, rfl, ho2, [[44]], rfl, by simp, fun hw ho3 => ?_, fun hw => ?_⟩
    ·conv => whnf
     rw [if_pos hw] at step
     have hl3 := ho3.len
     refine ⟨⟨_, a2 + 1, ts2.tail, f, congrArg (fun r => [PV.sl 0 9 r]) (map_snoc (encBs) l _), rfl, ho3, by simp only [List.length_append, List.length_singleton]; omega, by omega, step⟩, ?_⟩
     show ((L.length : Int) - (a2 + 1)).toNat < ((L.length : Int) - a1).toNat
     omega
    ·conv => whnf
     rw [if_neg (by rw [hw]; simp)] at step
     rw [step] at h
     exact K_of (h a2 (by omega) ho2) (congrArg (fun r => PEnd.ret (PV.d (D.sl r))) (map_snoc (encBs) l _).symm) rfl
  | true =>
   conv => whnf
   refine CondP.dec (fun hc => ?_) (fun hc => ?_)
   ·have hc : l.length = 12 := by
     have hc : ((l.map (encBs)).length : Int) = 12 := hc
     rw [List.length_map] at hc; omega
    rw [hm, if_pos ⟨hb, hc⟩] at h
    conv => whnf
    refine ⟨L, ts1, rfl, ho1, ?_⟩
    conv => whnf
    exact h _ _
   ·have step := step (fun g => hc (by show ((l.map (encBs)).length : Int) = 12; rw [List.length_map, g.2]; rfl))
    conv => whnf
    refine ⟨L, ts1, rfl, ho1, fun x hx => ?_⟩
    rw [hx] at step
    cases x with
    | err r e =>
     rw [step, R.bind_err] at h
     intro a2 dp2
     conv => whnf
     exact h _ _
    | ok v ts2 =>
     rw [R.bind_ok] at step
     intro a2 hle ho2
     have hl2 := ho2.len
     have hhi2 := ho2.hi
     skip
     conv => whnf
     refine ⟨List.forall_mem_singleton.2 rfl, (show ((l.map (encBs)).length + 1) * 16 ≤ 2 ^ 47 by rw [List.length_map]; omega), (show (l.map (encBs)).length + 1 ≤ 2 ^ 47 by rw [List.length_map]; omega), ?_⟩
     conv => whnf
     refine ⟨L, ts2, rfl, ho2, [[44]], rfl, by simp, fun hw ho3 => ?_, fun hw => ?_⟩
     ·conv => whnf
      rw [if_pos hw] at step
      have hl3 := ho3.len
      refine ⟨⟨_, a2 + 1, ts2.tail, f, congrArg (fun r => [PV.sl 0 9 r]) (map_snoc (encBs) l _), rfl, ho3, by simp only [List.length_append, List.length_singleton]; omega, by omega, step⟩, ?_⟩
      show ((L.length : Int) - (a2 + 1)).toNat < ((L.length : Int) - a1).toNat
      omega
     ·conv => whnf
      rw [if_neg (by rw [hw]; simp)] at step
      rw [step] at h
      exact K_of (h a2 (by omega) ho2) (congrArg (fun r => PEnd.ret (PV.d (D.sl r))) (map_snoc (encBs) l _).symm) rfl
 ·exact h.elim
noncomputable def spManyCase : Spec := fun args σ K => match args, σ with
 | [.ptr 0 0, .d (.str sg), .d (.int .i64 m), .func g1 [.ptr 0 0] [], .func g2 [] [.ptr 1 0]], ⟨[.cells t [.d (.sl rows), .d (.int .i64 a), .d (.int .i64 en), .d (.int .i64 dp)], .cells t0 [.ptr 0 0]], [], 0⟩ =>
   (sg = [124] ∧ m = 64 ∧ g1 = 95 ∧ g2 = 170) ∧ ∃ L ts, rows = toksR L ∧ ROK L a ts ∧ ∀ x, manyF [124] 64 namedF caseF ts = x →
    RKk (fun (l : List Ca) => .d (.sl (l.map (encCa)))) L en dp a x fun pe a' dp' => K pe ⟨[.cells t [.d (.sl (toksR L)), .d (.int .i64 a'), .d (.int .i64 en), .d (.int .i64 dp')], .cells t0 [.ptr 0 0]], [], 0⟩
 | _, _ => False
theorem spManyCase_mono : SpecMono (spManyCase) := fun args σ K K' hK h => by
 unfold spManyCase at h ⊢
 split at h
 ·obtain ⟨h0, L, ts, h1, h2, h3⟩ := h
  exact ⟨h0, L, ts, h1, h2, fun x hx => RKk_mono (fun _ _ _ hk => hK _ _ hk) (h3 x hx)⟩
 ·exact h.elim
noncomputable def tblManyCase : Tbl := [(95, (spAsk namedF)), (85, spFail), (170, (spR1 (fun _ _ (v : Ca) => aggD (encCa v)) caseF 1)), (104, spTake)]
theorem manyCase_ok (ht : TblOK (GG w0 nG) (tblManyCase)) : PCalls (GG w0 nG) 169 (spManyCase) := by
 refine pcalls tab_ok mixed (tbl := tblManyCase) ht Tryz.func169 rfl (by kernel_rfl) (by kernel_rfl) ?_
 intro args σ K h
 unfold spManyCase at h
 split at h
 ·rename_i sg m g1 g2 t rows a en dp t0
  obtain ⟨⟨rfl, rfl, rfl, rfl⟩, L, ts, rfl, ho, h⟩ := h
  have h := h _ rfl
  have hl := ho.len
  have hbig := ho.big
  have ha0 := ho.lo
  refine ⟨loopsOf [(2, ⟨[11], [0, 1, 2, 3, 4], fun vs σ => ∃ (l : List Ca) (a' : Int) (ts' : Ts) (f : Nat), vs = [.sl 0 59 (l.map (encCa))] ∧
   σ = ⟨[.cells t [.d (.sl (toksR L)), .d (.int .i64 a'), .d (.int .i64 en), .d (.int .i64 dp)], .cells t0 [.ptr 0 0]], [0], 1⟩ ∧ ROK L a' ts' ∧ a + l.length ≤ a' ∧ ts'.length < f ∧
   manyF [124] 64 namedF caseF ts = manyGo [124] 64 namedF caseF f l ts',
   fun _ σ => match σ with | ⟨.cells _ [_, .d (.int _ i), _, _] :: _, _, _⟩ => ((L.length : Int) - i).toNat | _ => 0⟩)], 2, false, by simp, Nat.le_of_ble_eq_true rfl, ?_⟩
  conv => whnf
  refine ⟨⟨[], a, ts, ts.length + 1, rfl, rfl, ho, by simp, by omega, rfl⟩, ?_⟩
  intro vs σ hI
  obtain ⟨l, a1, ts1, f, rfl, rfl, ho1, hla, hf, hm⟩ := hI
  obtain ⟨f, rfl⟩ : ∃ g, f = g + 1 := ⟨f - 1, by omega⟩
  rw [manyGo_eq] at hm
  have hl1 := ho1.len
  have hhi1 := ho1.hi
  conv => whnf
  refine ⟨L, ts1, rfl, ho1, fun b hb => ?_⟩
  have step : (¬ (namedF ts1 = true ∧ l.length = 64)) → manyF [124] 64 namedF caseF ts = ((caseF) ts1).bind fun x ts => if isW ts [[124]] = true then manyGo [124] 64 namedF caseF f (l ++ [x]) ts.tail else .ok (l ++ [x]) ts := fun g => by rw [hm, if_neg g]
  cases b with
  | false =>
   have step := step (by rw [hb]; simp)
   conv => whnf
   refine ⟨L, ts1, rfl, ho1, fun x hx => ?_⟩
   rw [hx] at step
   cases x with
   | err r e =>
    rw [step, R.bind_err] at h
    intro a2 dp2
    conv => whnf
    exact h _ _
   | ok v ts2 =>
    rw [R.bind_ok] at step
    intro a2 hle ho2
    have hl2 := ho2.len
    have hhi2 := ho2.hi
    obtain ⟨v1, v2⟩ := v
    conv => whnf
    refine ⟨List.forall_mem_singleton.2 rfl, (show ((l.map (encCa)).length + 1) * 40 ≤ 2 ^ 47 by rw [List.length_map]; omega), (show (l.map (encCa)).length + 1 ≤ 2 ^ 47 by rw [List.length_map]; omega), ?_⟩
    conv => whnf
    refine ⟨L, ts2, rfl, ho2, [[124]], rfl, by simp, fun hw ho3 => ?_, fun hw => ?_⟩
    ·conv => whnf
     rw [if_pos hw] at step
     have hl3 := ho3.len
     refine ⟨⟨_, a2 + 1, ts2.tail, f, congrArg (fun r => [PV.sl 0 59 r]) (map_snoc (encCa) l _), rfl, ho3, by simp only [List.length_append, List.length_singleton]; omega, by omega, step⟩, ?_⟩
     show ((L.length : Int) - (a2 + 1)).toNat < ((L.length : Int) - a1).toNat
     omega
    ·conv => whnf
     rw [if_neg (by rw [hw]; simp)] at step
     rw [step] at h
     exact K_of (h a2 (by omega) ho2) (congrArg (fun r => PEnd.ret (PV.d (D.sl r))) (map_snoc (encCa) l _).symm) rfl
  | true =>
   conv => whnf
   refine CondP.dec (fun hc => ?_) (fun hc => ?_)
   ·have hc : l.length = 64 := by
     have hc : ((l.map (encCa)).length : Int) = 64 := hc
     rw [List.length_map] at hc; omega
    rw [hm, if_pos ⟨hb, hc⟩] at h
    conv => whnf
    refine ⟨L, ts1, rfl, ho1, ?_⟩
    conv => whnf
    exact h _ _
   ·have step := step (fun g => hc (by show ((l.map (encCa)).length : Int) = 64; rw [List.length_map, g.2]; rfl))
    conv => whnf
    refine ⟨L, ts1, rfl, ho1, fun x hx => ?_⟩
    rw [hx] at step
    cases x with
    | err r e =>
     rw [step, R.bind_err] at h
     intro a2 dp2
     conv => whnf
     exact h _ _
    | ok v ts2 =>
     rw [R.bind_ok] at step
     intro a2 hle ho2
     have hl2 := ho2.len
     have hhi2 := ho2.hi
     obtain ⟨v1, v2⟩ := v
     conv => whnf
     refine ⟨List.forall_mem_singleton.2 rfl, (show ((l.map (encCa)).length + 1) * 40 ≤ 2 ^ 47 by rw [List.length_map]; omega), (show (l.map (encCa)).length + 1 ≤ 2 ^ 47 by rw [List.length_map]; omega), ?_⟩
     conv => whnf
     refine ⟨L, ts2, rfl, ho2, [[124]], rfl, by simp, fun hw ho3 => ?_, fun hw => ?_⟩
     ·conv => whnf
      rw [if_pos hw] at step
      have hl3 := ho3.len
      refine ⟨⟨_, a2 + 1, ts2.tail, f, congrArg (fun r => [PV.sl 0 59 r]) (map_snoc (encCa) l _), rfl, ho3, by simp only [List.length_append, List.length_singleton]; omega, by omega, step⟩, ?_⟩
      show ((L.length : Int) - (a2 + 1)).toNat < ((L.length : Int) - a1).toNat
      omega
     ·conv => whnf
      rw [if_neg (by rw [hw]; simp)] at step
      rw [step] at h
      exact K_of (h a2 (by omega) ho2) (congrArg (fun r => PEnd.ret (PV.d (D.sl r))) (map_snoc (encCa) l _).symm) rfl
 ·exact h.elim
noncomputable def spManyEx (d : Nat) : Spec := fun args σ K => match args, σ with
 | [.ptr 0 0, .d (.str sg), .d (.int .i64 m), .func g1 [.ptr 0 0] [], .func g2 [.ptr 0 0] []], ⟨[.cells t [.d (.sl rows), .d (.int .i64 a), .d (.int .i64 en), .d (.int .i64 dp)]], [], 0⟩ =>
   (sg = [44] ∧ m = 12 ∧ g1 = 184 ∧ g2 = 47 ∧ (dp = 64 - (d : Int) ∧ 0 ≤ dp)) ∧ ∃ L ts, rows = toksR L ∧ ROK L a ts ∧ ∀ x, manyF [44] 12 startsF (exprD d) ts = x →
    RKk (fun (l : List Ex) => .d (.sl (l.map (encE (placeOf L en))))) L en dp a x fun pe a' dp' => K pe ⟨[.cells t [.d (.sl (toksR L)), .d (.int .i64 a'), .d (.int .i64 en), .d (.int .i64 dp')]], [], 0⟩
 | _, _ => False
noncomputable def tblManyEx (d : Nat) : Tbl := [(184, (spAsk startsF)), (85, spFail), (47, (spRD (fun L en (v : Ex) => aggD (encE (placeOf L en) v)) (exprD d) 0 d)), (104, spTake)]
theorem manyEx_ok (d : Nat) (ht : TblOK (GG w0 nG) (tblManyEx d)) : PCalls (GG w0 nG) 183 (spManyEx d) := by
 refine pcalls tab_ok mixed (tbl := tblManyEx d) ht Tryz.func183 rfl (by kernel_rfl) (by kernel_rfl) ?_
 intro args σ K h
 unfold spManyEx at h
 split at h
 ·rename_i sg m g1 g2 t rows a en dp
  obtain ⟨⟨rfl, rfl, rfl, rfl, hdp⟩, L, ts, rfl, ho, h⟩ := h
  have h := h _ rfl
  have hl := ho.len
  have hbig := ho.big
  have ha0 := ho.lo
  refine ⟨loopsOf [(2, ⟨[11], [0, 1, 2, 3, 4], fun vs σ => ∃ (l : List Ex) (a' : Int) (ts' : Ts) (f : Nat), vs = [.sl 0 49 (l.map (encE (placeOf L en)))] ∧
   σ = ⟨[.cells t [.d (.sl (toksR L)), .d (.int .i64 a'), .d (.int .i64 en), .d (.int .i64 dp)]], [0], 1⟩ ∧ ROK L a' ts' ∧ a + l.length ≤ a' ∧ ts'.length < f ∧
   manyF [44] 12 startsF (exprD d) ts = manyGo [44] 12 startsF (exprD d) f l ts',
   fun _ σ => match σ with | ⟨.cells _ [_, .d (.int _ i), _, _] :: _, _, _⟩ => ((L.length : Int) - i).toNat | _ => 0⟩)], 1, false, by simp, Nat.le_of_ble_eq_true rfl, ?_⟩
  conv => whnf
  refine ⟨⟨[], a, ts, ts.length + 1, rfl, rfl, ho, by simp, by omega, rfl⟩, ?_⟩
  intro vs σ hI
  obtain ⟨l, a1, ts1, f, rfl, rfl, ho1, hla, hf, hm⟩ := hI
  obtain ⟨f, rfl⟩ : ∃ g, f = g + 1 := ⟨f - 1, by omega⟩
  rw [manyGo_eq] at hm
  have hl1 := ho1.len
  have hhi1 := ho1.hi
  conv => whnf
  refine ⟨L, ts1, rfl, ho1, fun b hb => ?_⟩
  have step : (¬ (startsF ts1 = true ∧ l.length = 12)) → manyF [44] 12 startsF (exprD d) ts = (((exprD d)) ts1).bind fun x ts => if isW ts [[44]] = true then manyGo [44] 12 startsF (exprD d) f (l ++ [x]) ts.tail else .ok (l ++ [x]) ts := fun g => by rw [hm, if_neg g]
  cases b with
  | false =>
   have step := step (by rw [hb]; simp)
   conv => whnf
   refine ⟨L, ts1, rfl, ho1, hdp, fun x hx => ?_⟩
   rw [hx] at step
   cases x with
   | err r e =>
    rw [step, R.bind_err] at h
    intro a2 dp2
    conv => whnf
    exact h _ _
   | ok v ts2 =>
    rw [R.bind_ok] at step
    intro a2 hle ho2
    have hl2 := ho2.len
    have hhi2 := ho2.hi
    obtain ⟨v1, v2, v3, v4, v5⟩ := v
    conv => whnf
    refine ⟨List.forall_mem_singleton.2 rfl, (show ((l.map (encE (placeOf L en))).length + 1) * 64 ≤ 2 ^ 47 by rw [List.length_map]; omega), (show (l.map (encE (placeOf L en))).length + 1 ≤ 2 ^ 47 by rw [List.length_map]; omega), ?_⟩
    conv => whnf
    refine ⟨L, ts2, rfl, ho2, [[44]], rfl, by simp, fun hw ho3 => ?_, fun hw => ?_⟩
    ·conv => whnf
     rw [if_pos hw] at step
     have hl3 := ho3.len
     refine ⟨⟨_, a2 + 1, ts2.tail, f, congrArg (fun r => [PV.sl 0 49 r]) (map_snoc (encE (placeOf L en)) l (.mk v1 v2 v3 v4 v5)), rfl, ho3, by simp only [List.length_append, List.length_singleton]; omega, by omega, step⟩, ?_⟩
     show ((L.length : Int) - (a2 + 1)).toNat < ((L.length : Int) - a1).toNat
     omega
    ·conv => whnf
     rw [if_neg (by rw [hw]; simp)] at step
     rw [step] at h
     exact K_of (h a2 (by omega) ho2) (congrArg (fun r => PEnd.ret (PV.d (D.sl r))) (map_snoc (encE (placeOf L en)) l (.mk v1 v2 v3 v4 v5)).symm) rfl
  | true =>
   conv => whnf
   refine CondP.dec (fun hc => ?_) (fun hc => ?_)
   ·have hc : l.length = 12 := by
     have hc : ((l.map (encE (placeOf L en))).length : Int) = 12 := hc
     rw [List.length_map] at hc; omega
    rw [hm, if_pos ⟨hb, hc⟩] at h
    conv => whnf
    refine ⟨L, ts1, rfl, ho1, ?_⟩
    conv => whnf
    exact h _ _
   ·have step := step (fun g => hc (by show ((l.map (encE (placeOf L en))).length : Int) = 12; rw [List.length_map, g.2]; rfl))
    conv => whnf
    refine ⟨L, ts1, rfl, ho1, hdp, fun x hx => ?_⟩
    rw [hx] at step
    cases x with
    | err r e =>
     rw [step, R.bind_err] at h
     intro a2 dp2
     conv => whnf
     exact h _ _
    | ok v ts2 =>
     rw [R.bind_ok] at step
     intro a2 hle ho2
     have hl2 := ho2.len
     have hhi2 := ho2.hi
     obtain ⟨v1, v2, v3, v4, v5⟩ := v
     conv => whnf
     refine ⟨List.forall_mem_singleton.2 rfl, (show ((l.map (encE (placeOf L en))).length + 1) * 64 ≤ 2 ^ 47 by rw [List.length_map]; omega), (show (l.map (encE (placeOf L en))).length + 1 ≤ 2 ^ 47 by rw [List.length_map]; omega), ?_⟩
     conv => whnf
     refine ⟨L, ts2, rfl, ho2, [[44]], rfl, by simp, fun hw ho3 => ?_, fun hw => ?_⟩
     ·conv => whnf
      rw [if_pos hw] at step
      have hl3 := ho3.len
      refine ⟨⟨_, a2 + 1, ts2.tail, f, congrArg (fun r => [PV.sl 0 49 r]) (map_snoc (encE (placeOf L en)) l (.mk v1 v2 v3 v4 v5)), rfl, ho3, by simp only [List.length_append, List.length_singleton]; omega, by omega, step⟩, ?_⟩
      show ((L.length : Int) - (a2 + 1)).toNat < ((L.length : Int) - a1).toNat
      omega
     ·conv => whnf
      rw [if_neg (by rw [hw]; simp)] at step
      rw [step] at h
      exact K_of (h a2 (by omega) ho2) (congrArg (fun r => PEnd.ret (PV.d (D.sl r))) (map_snoc (encE (placeOf L en)) l (.mk v1 v2 v3 v4 v5)).symm) rfl
 ·exact h.elim
noncomputable def spManyLi (d : Nat) : Spec := fun args σ K => match args, σ with
 | [.ptr 0 0, .d (.str sg), .d (.int .i64 m), .func g1 [] [.ptr 1 0], .func g2 [.ptr 0 0] []], ⟨[.cells t [.d (.sl rows), .d (.int .i64 a), .d (.int .i64 en), .d (.int .i64 dp)], .cells t0 [.ptr 0 0]], [], 0⟩ =>
   (sg = [44] ∧ m = 32 ∧ g1 = 186 ∧ g2 = 187 ∧ (dp = 64 - (d : Int) ∧ 0 ≤ dp)) ∧ ∃ L ts, rows = toksR L ∧ ROK L a ts ∧ ∀ x, manyF [44] 32 litStarts (litF d (bodyB d)) ts = x →
    RKk (fun (l : List Li) => .d (.sl (l.map (encL (placeOf L en))))) L en dp a x fun pe a' dp' => K pe ⟨[.cells t [.d (.sl (toksR L)), .d (.int .i64 a'), .d (.int .i64 en), .d (.int .i64 dp')], .cells t0 [.ptr 0 0]], [], 0⟩
 | _, _ => False
theorem spManyLi_mono (d : Nat) : SpecMono (spManyLi d) := fun args σ K K' hK h => by
 unfold spManyLi at h ⊢
 split at h
 ·obtain ⟨h0, L, ts, h1, h2, h3⟩ := h
  exact ⟨h0, L, ts, h1, h2, fun x hx => RKk_mono (fun _ _ _ hk => hK _ _ hk) (h3 x hx)⟩
 ·exact h.elim
noncomputable def tblManyLi (d : Nat) : Tbl := [(186, (spAsk1 litStarts)), (85, spFail), (187, (spRD (fun L en (v : Li) => aggD (encL (placeOf L en) v)) (litF d (bodyB d)) 0 d)), (104, spTake)]
theorem manyLi_ok (d : Nat) (ht : TblOK (GG w0 nG) (tblManyLi d)) : PCalls (GG w0 nG) 185 (spManyLi d) := by
 refine pcalls tab_ok mixed (tbl := tblManyLi d) ht Tryz.func185 rfl (by kernel_rfl) (by kernel_rfl) ?_
 intro args σ K h
 unfold spManyLi at h
 split at h
 ·rename_i sg m g1 g2 t rows a en dp t0
  obtain ⟨⟨rfl, rfl, rfl, rfl, hdp⟩, L, ts, rfl, ho, h⟩ := h
  have h := h _ rfl
  have hl := ho.len
  have hbig := ho.big
  have ha0 := ho.lo
  refine ⟨loopsOf [(2, ⟨[11], [0, 1, 2, 3, 4], fun vs σ => ∃ (l : List Li) (a' : Int) (ts' : Ts) (f : Nat), vs = [.sl 0 54 (l.map (encL (placeOf L en)))] ∧
   σ = ⟨[.cells t [.d (.sl (toksR L)), .d (.int .i64 a'), .d (.int .i64 en), .d (.int .i64 dp)], .cells t0 [.ptr 0 0]], [0], 1⟩ ∧ ROK L a' ts' ∧ a + l.length ≤ a' ∧ ts'.length < f ∧
   manyF [44] 32 litStarts (litF d (bodyB d)) ts = manyGo [44] 32 litStarts (litF d (bodyB d)) f l ts',
   fun _ σ => match σ with | ⟨.cells _ [_, .d (.int _ i), _, _] :: _, _, _⟩ => ((L.length : Int) - i).toNat | _ => 0⟩)], 2, false, by simp, Nat.le_of_ble_eq_true rfl, ?_⟩
  conv => whnf
  refine ⟨⟨[], a, ts, ts.length + 1, rfl, rfl, ho, by simp, by omega, rfl⟩, ?_⟩
  intro vs σ hI
  obtain ⟨l, a1, ts1, f, rfl, rfl, ho1, hla, hf, hm⟩ := hI
  obtain ⟨f, rfl⟩ : ∃ g, f = g + 1 := ⟨f - 1, by omega⟩
  rw [manyGo_eq] at hm
  have hl1 := ho1.len
  have hhi1 := ho1.hi
  conv => whnf
  refine ⟨L, ts1, rfl, ho1, fun b hb => ?_⟩
  have step : (¬ (litStarts ts1 = true ∧ l.length = 32)) → manyF [44] 32 litStarts (litF d (bodyB d)) ts = (((litF d (bodyB d))) ts1).bind fun x ts => if isW ts [[44]] = true then manyGo [44] 32 litStarts (litF d (bodyB d)) f (l ++ [x]) ts.tail else .ok (l ++ [x]) ts := fun g => by rw [hm, if_neg g]
  cases b with
  | false =>
   have step := step (by rw [hb]; simp)
   conv => whnf
   refine ⟨L, ts1, rfl, ho1, hdp, fun x hx => ?_⟩
   rw [hx] at step
   cases x with
   | err r e =>
    rw [step, R.bind_err] at h
    intro a2 dp2
    conv => whnf
    exact h _ _
   | ok v ts2 =>
    rw [R.bind_ok] at step
    intro a2 hle ho2
    have hl2 := ho2.len
    have hhi2 := ho2.hi
    obtain ⟨v1, v2, v3, v4, v5⟩ := v
    conv => whnf
    refine ⟨List.forall_mem_singleton.2 rfl, (show ((l.map (encL (placeOf L en))).length + 1) * 80 ≤ 2 ^ 47 by rw [List.length_map]; omega), (show (l.map (encL (placeOf L en))).length + 1 ≤ 2 ^ 47 by rw [List.length_map]; omega), ?_⟩
    conv => whnf
    refine ⟨L, ts2, rfl, ho2, [[44]], rfl, by simp, fun hw ho3 => ?_, fun hw => ?_⟩
    ·conv => whnf
     rw [if_pos hw] at step
     have hl3 := ho3.len
     refine ⟨⟨_, a2 + 1, ts2.tail, f, congrArg (fun r => [PV.sl 0 54 r]) (map_snoc (encL (placeOf L en)) l (.mk v1 v2 v3 v4 v5)), rfl, ho3, by simp only [List.length_append, List.length_singleton]; omega, by omega, step⟩, ?_⟩
     show ((L.length : Int) - (a2 + 1)).toNat < ((L.length : Int) - a1).toNat
     omega
    ·conv => whnf
     rw [if_neg (by rw [hw]; simp)] at step
     rw [step] at h
     exact K_of (h a2 (by omega) ho2) (congrArg (fun r => PEnd.ret (PV.d (D.sl r))) (map_snoc (encL (placeOf L en)) l (.mk v1 v2 v3 v4 v5)).symm) rfl
  | true =>
   conv => whnf
   refine CondP.dec (fun hc => ?_) (fun hc => ?_)
   ·have hc : l.length = 32 := by
     have hc : ((l.map (encL (placeOf L en))).length : Int) = 32 := hc
     rw [List.length_map] at hc; omega
    rw [hm, if_pos ⟨hb, hc⟩] at h
    conv => whnf
    refine ⟨L, ts1, rfl, ho1, ?_⟩
    conv => whnf
    exact h _ _
   ·have step := step (fun g => hc (by show ((l.map (encL (placeOf L en))).length : Int) = 32; rw [List.length_map, g.2]; rfl))
    conv => whnf
    refine ⟨L, ts1, rfl, ho1, hdp, fun x hx => ?_⟩
    rw [hx] at step
    cases x with
    | err r e =>
     rw [step, R.bind_err] at h
     intro a2 dp2
     conv => whnf
     exact h _ _
    | ok v ts2 =>
     rw [R.bind_ok] at step
     intro a2 hle ho2
     have hl2 := ho2.len
     have hhi2 := ho2.hi
     obtain ⟨v1, v2, v3, v4, v5⟩ := v
     conv => whnf
     refine ⟨List.forall_mem_singleton.2 rfl, (show ((l.map (encL (placeOf L en))).length + 1) * 80 ≤ 2 ^ 47 by rw [List.length_map]; omega), (show (l.map (encL (placeOf L en))).length + 1 ≤ 2 ^ 47 by rw [List.length_map]; omega), ?_⟩
     conv => whnf
     refine ⟨L, ts2, rfl, ho2, [[44]], rfl, by simp, fun hw ho3 => ?_, fun hw => ?_⟩
     ·conv => whnf
      rw [if_pos hw] at step
      have hl3 := ho3.len
      refine ⟨⟨_, a2 + 1, ts2.tail, f, congrArg (fun r => [PV.sl 0 54 r]) (map_snoc (encL (placeOf L en)) l (.mk v1 v2 v3 v4 v5)), rfl, ho3, by simp only [List.length_append, List.length_singleton]; omega, by omega, step⟩, ?_⟩
      show ((L.length : Int) - (a2 + 1)).toNat < ((L.length : Int) - a1).toNat
      omega
     ·conv => whnf
      rw [if_neg (by rw [hw]; simp)] at step
      rw [step] at h
      exact K_of (h a2 (by omega) ho2) (congrArg (fun r => PEnd.ret (PV.d (D.sl r))) (map_snoc (encL (placeOf L en)) l (.mk v1 v2 v3 v4 v5)).symm) rfl
 ·exact h.elim
end Go.PM.Lex
end

section
set_option maxRecDepth 100000
set_option maxHeartbeats 4000000
namespace Go.PM.Lex
open Go.Proofs
variable {w0 : World} {nG : Nat}
noncomputable abbrev spField1 : Spec := spR1 (fun _ _ (v : Fi) => aggD (encFi v)) fieldF 1
noncomputable abbrev spCase1 : Spec := spR1 (fun _ _ (v : Ca) => aggD (encCa v)) caseF 1
noncomputable def spFields : Spec := rdSp fun rest L en dp a ts K => match rest with
 | [.d (.str w)] => ∀ x, fieldsF w ts = x → RKk (fun (v : List Fi) => .d (.sl (v.map encFi))) L en dp a x K
 | _ => False
theorem spFields_mono : SpecMono spFields := rdSp_mono fun rest L en dp a ts K K' hK h => by
 split at h
 ·exact fun x hx => RKk_mono hK (h x hx)
 ·exact h.elim
noncomputable abbrev spNames : Spec := spR (fun _ _ (v : List Bs) => .d (.sl (v.map encBs))) namesF 0
noncomputable abbrev spTyped : Spec := spR (fun L en (v : Ty) => aggD (encTy (placeOf L en) v)) typedF 0
noncomputable abbrev spDecl : Spec := spR (fun L en (v : Re) => aggD (encRe (placeOf L en) v)) declF 0
noncomputable def tblField1 : Tbl := [(92, spNameP), (93, spMust)]
theorem field1_ok (ht : TblOK (GG w0 nG) tblField1) : PCalls (GG w0 nG) 239 spField1 := by
 refine pcalls tab_ok mixed (tbl := tblField1) ht Tryz.func239 rfl (by kernel_rfl) (by kernel_rfl) ?_
 intro args σ K h
 unfold spField1 spR1 rdSp1 at h
 split at h
 ·rename_i rest t0 t rows a en dp
  obtain ⟨L, ts, rfl, ho, h⟩ := h
  split at h
  ·skip
   have h0 := ho.lo
   have h1 := ho.hi
   have h2 := ho.big
   refine ⟨loopsOf [], 2, false, by simp, Nat.le_of_ble_eq_true rfl, ?_⟩
   have h := h _ rfl
   unfold fieldF at h
   conv => whnf
   refine ⟨L, ts, rfl, ho, fun x hx1 => ?_⟩
   rcases x with ⟨v1, ts1⟩ | ⟨r1, e1⟩
   rotate_left
   ·rw [hx1, R.bind_err] at h; intro a9 d9; (conv => whnf); exact h _ _
   rw [hx1, R.bind_ok] at h
   intro a1 hle1 ho1
   have hb1 := ho1.hi
   conv => whnf
   refine ⟨L, ts1, rfl, ho1, fun x hx2 => ?_⟩
   rcases x with ⟨v2, ts2⟩ | ⟨r2, e2⟩
   rotate_left
   ·rw [hx2, R.bind_err] at h; intro a9 d9; (conv => whnf); exact h _ _
   rw [hx2, R.bind_ok] at h
   intro a2 hle2 ho2
   have hb2 := ho2.hi
   conv => whnf
   refine ⟨L, ts2, rfl, ho2, fun x hx3 => ?_⟩
   rcases x with ⟨v3, ts3⟩ | ⟨r3, e3⟩
   rotate_left
   ·rw [hx3, R.bind_err] at h; intro a9 d9; (conv => whnf); exact h _ _
   rw [hx3, R.bind_ok] at h
   intro a3 hle3 ho3
   have hb3 := ho3.hi
   conv => whnf
   exact h _ (by omega) ho3
  ·exact h.elim
 ·exact h.elim
noncomputable def tblFields : Tbl := [(86, spIs), (238, spManyField)]
theorem fields_ok (ht : TblOK (GG w0 nG) tblFields) : PCalls (GG w0 nG) 168 spFields := by
 refine pcalls tab_ok mixed (tbl := tblFields) ht Tryz.func168 rfl (by kernel_rfl) (by kernel_rfl) ?_
 intro args σ K h
 unfold spFields rdSp at h
 split at h
 ·rename_i rest t rows a en dp
  obtain ⟨L, ts, rfl, ho, h⟩ := h
  split at h
  ·rename_i w
   have h0 := ho.lo
   have h1 := ho.hi
   have h2 := ho.big
   refine ⟨loopsOf [], 1, false, by simp, Nat.le_of_ble_eq_true rfl, ?_⟩
   have h := h _ rfl
   unfold fieldsF at h
   conv => whnf
   refine ⟨L, ts, rfl, ho, [w], rfl, by simp, fun b1 hw1 => ?_⟩
   cases b1 with
   | true =>
    rw [if_pos hw1] at h
    conv => whnf
    exact h _ (by omega) ho
   | false =>
    rw [if_neg (by rw [hw1]; simp)] at h
    conv => whnf
    refine ⟨⟨rfl, rfl, rfl, rfl⟩, L, ts, rfl, ho, fun x hx2 => ?_⟩
    rcases x with ⟨v2, ts2⟩ | ⟨r2, e2⟩
    rotate_left
    ·rw [hx2] at h; intro a9 d9; (conv => whnf); exact h _ _
    rw [hx2] at h
    intro a2 hle2 ho2
    have hb2 := ho2.hi
    conv => whnf
    exact h _ (by omega) ho2
  ·exact h.elim
 ·exact h.elim
noncomputable def tblNames : Tbl := [(104, spTake), (173, spManyStr), (93, spMust)]
theorem names_ok (ht : TblOK (GG w0 nG) tblNames) : PCalls (GG w0 nG) 94 spNames := by
 refine pcalls tab_ok mixed (tbl := tblNames) ht Tryz.func94 rfl (by kernel_rfl) (by kernel_rfl) ?_
 intro args σ K h
 unfold spNames spR rdSp at h
 split at h
 ·rename_i rest t rows a en dp
  obtain ⟨L, ts, rfl, ho, h⟩ := h
  split at h
  ·skip
   have h0 := ho.lo
   have h1 := ho.hi
   have h2 := ho.big
   refine ⟨loopsOf [], 1, false, by simp, Nat.le_of_ble_eq_true rfl, ?_⟩
   have h := h _ rfl
   unfold namesF at h
   conv => whnf
   refine ⟨L, ts, rfl, ho, [[60]], rfl, by simp, fun hw1 ho1 => ?_, fun hw1 => ?_⟩
   ·rw [if_pos hw1] at h
    have hb1 := ho1.hi
    conv => whnf
    refine ⟨⟨rfl, rfl, rfl, rfl⟩, L, ts.tail, rfl, ho1, fun x hx2 => ?_⟩
    rcases x with ⟨v2, ts2⟩ | ⟨r2, e2⟩
    rotate_left
    ·rw [hx2, R.bind_err] at h; intro a9 d9; (conv => whnf); exact h _ _
    rw [hx2, R.bind_ok] at h
    intro a2 hle2 ho2
    have hb2 := ho2.hi
    conv => whnf
    refine ⟨L, ts2, rfl, ho2, fun x hx3 => ?_⟩
    rcases x with ⟨v3, ts3⟩ | ⟨r3, e3⟩
    rotate_left
    ·rw [hx3, R.bind_err] at h; intro a9 d9; (conv => whnf); exact h _ _
    rw [hx3, R.bind_ok] at h
    intro a3 hle3 ho3
    have hb3 := ho3.hi
    conv => whnf
    exact h _ (by omega) ho3
   ·rw [if_neg (by rw [hw1]; simp)] at h
    conv => whnf
    exact h _ (by omega) ho
  ·exact h.elim
 ·exact h.elim
noncomputable def tblCase1 : Tbl := [(92, spNameP), (93, spMust), (168, spFields)]
theorem case1_ok (ht : TblOK (GG w0 nG) tblCase1) : PCalls (GG w0 nG) 170 spCase1 := by
 refine pcalls tab_ok mixed (tbl := tblCase1) ht Tryz.func170 rfl (by kernel_rfl) (by kernel_rfl) ?_
 intro args σ K h
 unfold spCase1 spR1 rdSp1 at h
 split at h
 ·rename_i rest t0 t rows a en dp
  obtain ⟨L, ts, rfl, ho, h⟩ := h
  split at h
  ·skip
   have h0 := ho.lo
   have h1 := ho.hi
   have h2 := ho.big
   refine ⟨loopsOf [], 2, false, by simp, Nat.le_of_ble_eq_true rfl, ?_⟩
   have h := h _ rfl
   unfold caseF at h
   conv => whnf
   refine ⟨L, ts, rfl, ho, fun x hx1 => ?_⟩
   rcases x with ⟨v1, ts1⟩ | ⟨r1, e1⟩
   rotate_left
   ·rw [hx1, R.bind_err] at h; intro a9 d9; (conv => whnf); exact h _ _
   rw [hx1, R.bind_ok] at h
   intro a1 hle1 ho1
   have hb1 := ho1.hi
   conv => whnf
   refine ⟨L, ts1, rfl, ho1, fun x hx2 => ?_⟩
   rcases x with ⟨v2, ts2⟩ | ⟨r2, e2⟩
   rotate_left
   ·rw [hx2, R.bind_err] at h; intro a9 d9; (conv => whnf); exact h _ _
   rw [hx2, R.bind_ok] at h
   intro a2 hle2 ho2
   have hb2 := ho2.hi
   conv => whnf
   refine ⟨L, ts2, rfl, ho2, fun x hx3 => ?_⟩
   rcases x with ⟨v3, ts3⟩ | ⟨r3, e3⟩
   rotate_left
   ·rw [hx3, R.bind_err] at h; intro a9 d9; (conv => whnf); exact h _ _
   rw [hx3, R.bind_ok] at h
   intro a3 hle3 ho3
   have hb3 := ho3.hi
   conv => whnf
   refine ⟨L, ts3, rfl, ho3, fun x hx4 => ?_⟩
   rcases x with ⟨v4, ts4⟩ | ⟨r4, e4⟩
   rotate_left
   ·rw [hx4, R.bind_err] at h; intro a9 d9; (conv => whnf); exact h _ _
   rw [hx4, R.bind_ok] at h
   intro a4 hle4 ho4
   have hb4 := ho4.hi
   conv => whnf
   exact h _ (by omega) ho4
  ·exact h.elim
 ·exact h.elim
noncomputable def tblTyped : Tbl := [(91, spPlace), (92, spNameP), (104, spTake), (93, spMust), (168, spFields), (169, spManyCase)]
theorem typed_ok (ht : TblOK (GG w0 nG) tblTyped) : PCalls (GG w0 nG) 88 spTyped := by
 refine pcalls tab_ok mixed (tbl := tblTyped) ht Tryz.func88 rfl (by kernel_rfl) (by kernel_rfl) ?_
 intro args σ K h
 unfold spTyped spR rdSp at h
 split at h
 ·rename_i rest t rows a en dp
  obtain ⟨L, ts, rfl, ho, h⟩ := h
  split at h
  ·skip
   have h0 := ho.lo
   have h1 := ho.hi
   have h2 := ho.big
   refine ⟨loopsOf [], 1, false, by simp, Nat.le_of_ble_eq_true rfl, ?_⟩
   have h := h _ rfl
   unfold typedF at h
   conv => whnf
   refine ⟨L, ts, rfl, ho, ?_⟩
   conv => whnf
   refine ⟨L, ts, rfl, ho, fun x hx1 => ?_⟩
   rcases x with ⟨v1, ts1⟩ | ⟨r1, e1⟩
   rotate_left
   ·rw [hx1, R.bind_err] at h; intro a9 d9; (conv => whnf); exact h _ _
   rw [hx1, R.bind_ok] at h
   intro a1 hle1 ho1
   have hb1 := ho1.hi
   conv => whnf
   refine ⟨L, ts1, rfl, ho1, [[60, 58]], rfl, by simp, fun hw2 ho2 => ?_, fun hw2 => ?_⟩
   ·rw [if_pos hw2] at h
    have hb2 := ho2.hi
    conv => whnf
    refine ⟨L, ts1.tail, rfl, ho2, fun x hx3 => ?_⟩
    rcases x with ⟨v3, ts3⟩ | ⟨r3, e3⟩
    rotate_left
    ·rw [hx3, R.bind_err] at h; intro a9 d9; (conv => whnf); exact h _ _
    rw [hx3, R.bind_ok] at h
    intro a3 hle3 ho3
    have hb3 := ho3.hi
    conv => whnf
    exact h _ (by omega) ho3
   ·rw [if_neg (by rw [hw2]; simp)] at h
    conv => whnf
    refine ⟨L, ts1, rfl, ho1, fun x hx3 => ?_⟩
    rcases x with ⟨v3, ts3⟩ | ⟨r3, e3⟩
    rotate_left
    ·rw [hx3, R.bind_err] at h; intro a9 d9; (conv => whnf); exact h _ _
    rw [hx3, R.bind_ok] at h
    intro a3 hle3 ho3
    have hb3 := ho3.hi
    conv => whnf
    refine ⟨L, ts3, rfl, ho3, [[91]], rfl, by simp, fun hw4 ho4 => ?_, fun hw4 => ?_⟩
    ·rw [if_pos hw4] at h
     have hb4 := ho4.hi
     conv => whnf
     refine ⟨L, ts3.tail, rfl, ho4, fun x hx5 => ?_⟩
     rcases x with ⟨v5, ts5⟩ | ⟨r5, e5⟩
     rotate_left
     ·rw [hx5, R.bind_err] at h; intro a9 d9; (conv => whnf); exact h _ _
     rw [hx5, R.bind_ok] at h
     intro a5 hle5 ho5
     have hb5 := ho5.hi
     conv => whnf
     refine ⟨L, ts5, rfl, ho5, fun x hx6 => ?_⟩
     rcases x with ⟨v6, ts6⟩ | ⟨r6, e6⟩
     rotate_left
     ·rw [hx6, R.bind_err] at h; intro a9 d9; (conv => whnf); exact h _ _
     rw [hx6, R.bind_ok] at h
     intro a6 hle6 ho6
     have hb6 := ho6.hi
     conv => whnf
     exact h _ (by omega) ho6
    ·rw [if_neg (by rw [hw4]; simp)] at h
     conv => whnf
     refine ⟨⟨rfl, rfl, rfl, rfl⟩, L, ts3, rfl, ho3, fun x hx5 => ?_⟩
     rcases x with ⟨v5, ts5⟩ | ⟨r5, e5⟩
     rotate_left
     ·rw [hx5, R.bind_err] at h; intro a9 d9; (conv => whnf); exact h _ _
     rw [hx5, R.bind_ok] at h
     intro a5 hle5 ho5
     have hb5 := ho5.hi
     conv => whnf
     exact h _ (by omega) ho5
  ·exact h.elim
 ·exact h.elim
end Go.PM.Lex
end

section
set_option maxRecDepth 100000
set_option maxHeartbeats 4000000
namespace Go.PM.Lex
open Go.Proofs
variable {w0 : World} {nG : Nat}
def cntF (i o n : Bool) : Nat := (match i with | true => 0 | false => 1) + (match o with | true => 0 | false => 1) + (match n with | true => 0 | false => 1)
theorem flagsGo_eq (f : Nat) (i o n : Bool) (ts : Ts) : flagsGo (f + 1) i o n ts = if i = false ∧ isW ts [[105, 110, 112, 117, 116]] = true then flagsGo f true o n ts.tail
      else if o = false ∧ isW ts [[111, 117, 116, 112, 117, 116]] = true then flagsGo f i true n ts.tail
      else if n = false ∧ isW ts [[105, 110, 108, 105, 110, 101]] = true then flagsGo f i o true ts.tail
      else ((i, o, n), ts) := rfl
noncomputable def tblDecl : Tbl := [(91, spPlace), (92, spNameP), (104, spTake), (93, spMust), (168, spFields)]
theorem decl_ok (ht : TblOK (GG w0 nG) tblDecl) : PCalls (GG w0 nG) 89 spDecl := by
 refine pcalls tab_ok mixed (tbl := tblDecl) ht Tryz.func89 rfl (by kernel_rfl) (by kernel_rfl) ?_
 intro args σ K h
 unfold spDecl spR rdSp at h
 split at h
 ·rename_i rest t rows a en dp
  obtain ⟨L, ts, rfl, ho, h⟩ := h
  split at h
  ·skip
   have h0 := ho.lo
   have h1 := ho.hi
   have h2 := ho.big
   refine ⟨loopsOf [(7, ⟨[], [0, 2, 3], fun vs σ => ∃ (nm : Bs) (l : List Fi) (a5 : Int) (ts5 : Ts) (i o n : Bool) (a' : Int) (ts' : Ts) (f : Nat), vs = [] ∧ σ = ⟨[.cells t [.d (.sl (toksR L)), .d (.int .i64 a'), .d (.int .i64 en), .d (.int .i64 dp)], .cells 44 [.d (.str []), .sl 0 46 [], .d (.bool false), .d (.bool false), .d (.bool false), .d (.int .i64 0)], .cells 44 [.d (.str nm), .d (.sl (l.map encFi)), .d (.bool i), .d (.bool o), .d (.bool n), .d (.int .i64 (placeOf L en ts.length))]], [0], 1⟩ ∧ ROK L a' ts' ∧ a ≤ a' ∧ cntF i o n < f ∧ RKk (fun (v : Re) => aggD (encRe (placeOf L en) v)) L en dp (a + 0) (R.ok ⟨nm, l, (flagsGo f i o n ts').1.1, (flagsGo f i o n ts').1.2.1, (flagsGo f i o n ts').1.2.2, ts.length⟩ (flagsGo f i o n ts').2) (fun pe a' dp' => K pe ⟨[.cells t [.d (.sl (toksR L)), .d (.int .i64 a'), .d (.int .i64 en), .d (.int .i64 dp')]], [], 0⟩), fun _ σ => match σ with | ⟨[_, _, .cells _ [_, _, .d (.bool i), .d (.bool o), .d (.bool n), _]], _, _⟩ => cntF i o n | _ => 0⟩)], 1, false, by simp, Nat.le_of_ble_eq_true rfl, ?_⟩
   have h := h _ rfl
   unfold declF at h
   conv => whnf
   refine ⟨L, ts, rfl, ho, ?_⟩
   conv => whnf
   refine ⟨L, ts, rfl, ho, fun x hx1 => ?_⟩
   rcases x with ⟨v1, ts1⟩ | ⟨r1, e1⟩
   rotate_left
   ·rw [hx1, R.bind_err] at h; intro a9 d9; (conv => whnf); exact h _ _
   rw [hx1, R.bind_ok] at h
   intro a1 hle1 ho1
   have hb1 := ho1.hi
   conv => whnf
   refine ⟨L, ts1, rfl, ho1, fun x hx2 => ?_⟩
   rcases x with ⟨v2, ts2⟩ | ⟨r2, e2⟩
   rotate_left
   ·rw [hx2, R.bind_err] at h; intro a9 d9; (conv => whnf); exact h _ _
   rw [hx2, R.bind_ok] at h
   intro a2 hle2 ho2
   have hb2 := ho2.hi
   conv => whnf
   refine ⟨L, ts2, rfl, ho2, fun x hx3 => ?_⟩
   rcases x with ⟨v3, ts3⟩ | ⟨r3, e3⟩
   rotate_left
   ·rw [hx3, R.bind_err] at h; intro a9 d9; (conv => whnf); exact h _ _
   rw [hx3, R.bind_ok] at h
   intro a3 hle3 ho3
   have hb3 := ho3.hi
   conv => whnf
   refine ⟨L, ts3, rfl, ho3, fun x hx4 => ?_⟩
   rcases x with ⟨v4, ts4⟩ | ⟨r4, e4⟩
   rotate_left
   ·rw [hx4, R.bind_err] at h; intro a9 d9; (conv => whnf); exact h _ _
   rw [hx4, R.bind_ok] at h
   intro a4 hle4 ho4
   have hb4 := ho4.hi
   conv => whnf
   refine ⟨⟨v1, v3, a4, ts4, false, false, false, a4, ts4, 4, rfl, rfl, ho4, by omega, by decide, h⟩, ?_⟩
   clear h hx1 hx2 hx3 hx4 ho1 ho2 ho3 ho4 hb1 hb2 hb3 hb4 hle1 hle2 hle3 hle4
   intro vs σ hI
   obtain ⟨nm, l, a5, ts5, i, o, n, a', ts', f, rfl, rfl, ho', hle, hf, h⟩ := hI
   obtain ⟨f, rfl⟩ : ∃ g, f = g + 1 := ⟨f - 1, by omega⟩
   rw [flagsGo_eq] at h
   have hhi := ho'.hi
   conv => whnf
   cases i with
   | true =>
    rw [if_neg (by simp)] at h
    conv => whnf
    cases o with
    | true =>
     rw [if_neg (by simp)] at h
     conv => whnf
     cases n with
     | true =>
      rw [if_neg (by simp)] at h
      conv => whnf
      exact h _ (by omega) ho'
     | false =>
      conv => whnf
      refine ⟨L, ts', rfl, ho', [[105, 110, 108, 105, 110, 101]], rfl, by simp, fun hw9 ho9 => ?_, fun hw9 => ?_⟩
      ·rw [if_pos ⟨rfl, hw9⟩] at h
       have hb9 := ho9.hi
       conv => whnf
       refine ⟨⟨nm, l, a5, ts5, true, true, true, a' + 1, ts'.tail, f, rfl, rfl, ho9, by omega, ?_, h⟩, ?_⟩
       ·(simp only [cntF] at hf ⊢; omega)
       ·show cntF true true true < cntF true true false
        (simp only [cntF]; omega)
      ·rw [if_neg (by rw [hw9]; simp)] at h
       conv => whnf
       exact h _ (by omega) ho'
    | false =>
     conv => whnf
     refine ⟨L, ts', rfl, ho', [[111, 117, 116, 112, 117, 116]], rfl, by simp, fun hw9 ho9 => ?_, fun hw9 => ?_⟩
     ·rw [if_pos ⟨rfl, hw9⟩] at h
      have hb9 := ho9.hi
      conv => whnf
      refine ⟨⟨nm, l, a5, ts5, true, true, n, a' + 1, ts'.tail, f, rfl, rfl, ho9, by omega, ?_, h⟩, ?_⟩
      ·cases n <;> (simp only [cntF] at hf ⊢; omega)
      ·show cntF true true n < cntF true false n
       cases n <;> (simp only [cntF]; omega)
     ·rw [if_neg (by rw [hw9]; simp)] at h
      conv => whnf
      cases n with
      | true =>
       rw [if_neg (by simp)] at h
       conv => whnf
       exact h _ (by omega) ho'
      | false =>
       conv => whnf
       refine ⟨L, ts', rfl, ho', [[105, 110, 108, 105, 110, 101]], rfl, by simp, fun hw9 ho9 => ?_, fun hw9 => ?_⟩
       ·rw [if_pos ⟨rfl, hw9⟩] at h
        have hb9 := ho9.hi
        conv => whnf
        refine ⟨⟨nm, l, a5, ts5, true, false, true, a' + 1, ts'.tail, f, rfl, rfl, ho9, by omega, ?_, h⟩, ?_⟩
        ·(simp only [cntF] at hf ⊢; omega)
        ·show cntF true false true < cntF true false false
         (simp only [cntF]; omega)
       ·rw [if_neg (by rw [hw9]; simp)] at h
        conv => whnf
        exact h _ (by omega) ho'
   | false =>
    conv => whnf
    refine ⟨L, ts', rfl, ho', [[105, 110, 112, 117, 116]], rfl, by simp, fun hw9 ho9 => ?_, fun hw9 => ?_⟩
    ·rw [if_pos ⟨rfl, hw9⟩] at h
     have hb9 := ho9.hi
     conv => whnf
     refine ⟨⟨nm, l, a5, ts5, true, o, n, a' + 1, ts'.tail, f, rfl, rfl, ho9, by omega, ?_, h⟩, ?_⟩
     ·cases o <;> cases n <;> (simp only [cntF] at hf ⊢; omega)
     ·show cntF true o n < cntF false o n
      cases o <;> cases n <;> (simp only [cntF]; omega)
    ·rw [if_neg (by rw [hw9]; simp)] at h
     conv => whnf
     cases o with
     | true =>
      rw [if_neg (by simp)] at h
      conv => whnf
      cases n with
      | true =>
       rw [if_neg (by simp)] at h
       conv => whnf
       exact h _ (by omega) ho'
      | false =>
       conv => whnf
       refine ⟨L, ts', rfl, ho', [[105, 110, 108, 105, 110, 101]], rfl, by simp, fun hw9 ho9 => ?_, fun hw9 => ?_⟩
       ·rw [if_pos ⟨rfl, hw9⟩] at h
        have hb9 := ho9.hi
        conv => whnf
        refine ⟨⟨nm, l, a5, ts5, false, true, true, a' + 1, ts'.tail, f, rfl, rfl, ho9, by omega, ?_, h⟩, ?_⟩
        ·(simp only [cntF] at hf ⊢; omega)
        ·show cntF false true true < cntF false true false
         (simp only [cntF]; omega)
       ·rw [if_neg (by rw [hw9]; simp)] at h
        conv => whnf
        exact h _ (by omega) ho'
     | false =>
      conv => whnf
      refine ⟨L, ts', rfl, ho', [[111, 117, 116, 112, 117, 116]], rfl, by simp, fun hw9 ho9 => ?_, fun hw9 => ?_⟩
      ·rw [if_pos ⟨rfl, hw9⟩] at h
       have hb9 := ho9.hi
       conv => whnf
       refine ⟨⟨nm, l, a5, ts5, false, true, n, a' + 1, ts'.tail, f, rfl, rfl, ho9, by omega, ?_, h⟩, ?_⟩
       ·cases n <;> (simp only [cntF] at hf ⊢; omega)
       ·show cntF false true n < cntF false false n
        cases n <;> (simp only [cntF]; omega)
      ·rw [if_neg (by rw [hw9]; simp)] at h
       conv => whnf
       cases n with
       | true =>
        rw [if_neg (by simp)] at h
        conv => whnf
        exact h _ (by omega) ho'
       | false =>
        conv => whnf
        refine ⟨L, ts', rfl, ho', [[105, 110, 108, 105, 110, 101]], rfl, by simp, fun hw9 ho9 => ?_, fun hw9 => ?_⟩
        ·rw [if_pos ⟨rfl, hw9⟩] at h
         have hb9 := ho9.hi
         conv => whnf
         refine ⟨⟨nm, l, a5, ts5, false, false, true, a' + 1, ts'.tail, f, rfl, rfl, ho9, by omega, ?_, h⟩, ?_⟩
         ·(simp only [cntF] at hf ⊢; omega)
         ·show cntF false false true < cntF false false false
          (simp only [cntF]; omega)
        ·rw [if_neg (by rw [hw9]; simp)] at h
         conv => whnf
         exact h _ (by omega) ho'
  ·exact h.elim
 ·exact h.elim
end Go.PM.Lex
end

section
set_option maxRecDepth 100000
set_option maxHeartbeats 4000000
namespace Go.PM.Lex
open Go.Proofs
variable {w0 : World} {nG : Nat}
noncomputable def spIn (fn : Func) (tb : Tbl) : Spec := fun args σ K => ∃ K0 : PEnd → St → Prop, (∀ e σ, K0 e σ → K e σ) ∧ args.length ≤ fn.ntmps ∧ WF (ctx Tab0 tb (loopsOf [])) fn σ.bx.length false args σ K0
theorem spIn_mono (fn : Func) (tb : Tbl) : SpecMono (spIn fn tb) := fun args σ K K' hK ⟨K0, h1, h2⟩ => ⟨K0, fun e σ h => hK _ _ (h1 e σ h), h2⟩
noncomputable def spInU (fn : Func) (unr : Nat → Nat) (tb : Tbl) : Spec := fun args σ K => ∃ K0 : PEnd → St → Prop, (∀ e σ, K0 e σ → K e σ) ∧ args.length ≤ fn.ntmps ∧ WF (ctxU Tab0 tb noIter (loopsOf []) unr (tieOf [])) fn σ.bx.length false args σ K0
theorem spInU_mono (fn : Func) (unr : Nat → Nat) (tb : Tbl) : SpecMono (spInU fn unr tb) := fun args σ K K' hK ⟨K0, h1, h2⟩ => ⟨K0, fun e σ h => hK _ _ (h1 e σ h), h2⟩
theorem _root_.Go.PM.PCalls.closed {G : GE} {g : FuncId} {sp : Spec} (h : PCalls G g sp) : PCalls G g (fun args σ K => ∃ K0 : PEnd → St → Prop, (∀ e σ, K0 e σ → K e σ) ∧ sp args σ K0) := ⟨h.enters, fun args σ K ⟨K0, hK, hs⟩ n e w vs hS ha =>
 (h.calls args σ K0 hs n e w vs hS ha).mono fun en w' ⟨pe, σ', e', hk, hr⟩ => ⟨pe, σ', e', hK _ _ hk, hr⟩⟩
theorem in_ok {g : FuncId} {fn : Func} {c : Code} {tb : Tbl} (ht : TblOK (GG w0 nG) tb) (hf : (GG w0 nG).P.funcs[g]? = some fn) (hb : fn.body = some c) (hname : (fn.name == "runtime.NumGoroutine") = false) (hok : codeOK fn.ntmps c = true) : PCalls (GG w0 nG) g (spIn fn tb) := by
 have h : PCalls (GG w0 nG) g (fun args σ K => args.length ≤ fn.ntmps ∧ WF (ctx Tab0 tb (loopsOf [])) fn σ.bx.length false args σ K) := by
  refine pcalls tab_ok mixed ht hf hb hname hok ?_
  intro args σ K h
  exact ⟨loopsOf [], σ.bx.length, false, Nat.le_refl _, h.1, h.2⟩
 exact h.closed
theorem inU_ok {g : FuncId} {fn : Func} {c : Code} {unr : Nat → Nat} {tb : Tbl} (ht : TblOK (GG w0 nG) tb) (hf : (GG w0 nG).P.funcs[g]? = some fn) (hb : fn.body = some c) (hname : (fn.name == "runtime.NumGoroutine") = false) (hok : codeOK fn.ntmps c = true) : PCalls (GG w0 nG) g (spInU fn unr tb) := by
 have h : PCalls (GG w0 nG) g (fun args σ K => args.length ≤ fn.ntmps ∧ WF (ctxU Tab0 tb noIter (loopsOf []) unr (tieOf [])) fn σ.bx.length false args σ K) := by
  refine pcallsN tab_ok mixed ht hf hb hname hok ?_
  intro args σ K h
  exact ⟨loopsOf [], unr, tieOf [], σ.bx.length, false, Nat.le_refl _, h.1, h.2⟩
 exact h.closed
noncomputable def spRB {α : Type} (enc : List Tok → Int → α → PV) (P : Ts → R α) (lo : Int) (d : Nat) : Spec := rdSp fun rest L en dp a ts K => match rest with
 | [] => (0 < d ∧ dp = 65 - (d : Int) ∧ 0 ≤ dp) ∧ ∀ x, P ts = x → RKk (enc L en) L en dp (a + lo) x K
 | _ => False
theorem spRB_mono {α : Type} (enc : List Tok → Int → α → PV) (P : Ts → R α) (lo : Int) (d : Nat) : SpecMono (spRB enc P lo d) := rdSp_mono fun rest L en dp a ts K K' hK h => by
 split at h
 ·exact ⟨h.1, fun x hx => RKk_mono hK (h.2 x hx)⟩
 ·exact h.elim
theorem spRB_zero {α : Type} {enc : List Tok → Int → α → PV} {P : Ts → R α} {lo : Int} {g : FuncId} (h : Enters (GG w0 nG).P g) : PCalls (GG w0 nG) g (spRB enc P lo 0) := ⟨h, fun args σ K hs => by
 exfalso
 unfold spRB rdSp at hs
 split at hs
 ·obtain ⟨L, ts, _, _, hs⟩ := hs
  split at hs
  ·have := hs.1.1; omega
  ·exact hs
 ·exact hs⟩
theorem _root_.Go.PM.PCalls.weaken1 {G : GE} {g : FuncId} {sp sp' : Spec} (h : PCalls G g sp) (hw : ∀ args σ K, sp' args σ K → sp args σ K) : PCalls G g sp' := ⟨h.enters, fun args σ K hs => h.calls args σ K (hw _ _ _ hs)⟩
theorem spRB_succ {α : Type} {enc : List Tok → Int → α → PV} {P : Ts → R α} {lo : Int} {d : Nat} {g : FuncId} (h : PCalls (GG w0 nG) g (spRD enc P lo d)) : PCalls (GG w0 nG) g (spRB enc P lo (d + 1)) := h.weaken1 fun args σ K hs => by
 unfold spRB rdSp at hs
 unfold spRD rdSp
 split at hs
 ·obtain ⟨L, ts, h1, h2, hs⟩ := hs
  refine ⟨L, ts, h1, h2, ?_⟩
  split at hs
  ·exact ⟨by have := hs.1.2; omega, hs.2⟩
  ·exact hs.elim
 ·exact hs
noncomputable def spTake1 : Spec := fun args σ K => match args, σ with
 | [.d (.str w), .ptr 0 0], ⟨[.cells t0 [.ptr 1 0], .cells t [.d (.sl rows), .d (.int .i64 a), .d (.int .i64 en), .d (.int .i64 dp)]], [], 0⟩ => ∃ L ts, rows = toksR L ∧ ROK L a ts ∧
   (isW ts [w] = true → ROK L (a + 1) ts.tail → K (.ret (.d (.bool true))) ⟨[.cells t0 [.ptr 1 0], .cells t [.d (.sl (toksR L)), .d (.int .i64 (a + 1)), .d (.int .i64 en), .d (.int .i64 dp)]], [], 0⟩) ∧
   (isW ts [w] = false → K (.ret (.d (.bool false))) ⟨[.cells t0 [.ptr 1 0], .cells t [.d (.sl (toksR L)), .d (.int .i64 a), .d (.int .i64 en), .d (.int .i64 dp)]], [], 0⟩)
 | _, _ => False
theorem spTake1_mono : SpecMono spTake1 := fun args σ K K' hK h => by
 unfold spTake1 at h ⊢
 split at h
 ·obtain ⟨L, ts, h1, h2, h3, h4⟩ := h
  exact ⟨L, ts, h1, h2, fun g1 g2 => hK _ _ (h3 g1 g2), fun g => hK _ _ (h4 g)⟩
 ·exact h.elim
noncomputable def tblTake1 : Tbl := [(104, spTake)]
theorem take1a_ok (ht : TblOK (GG w0 nG) tblTake1) : PCalls (GG w0 nG) 245 spTake1 := by
 refine pcalls tab_ok mixed (tbl := tblTake1) ht Tryz.func245 rfl (by kernel_rfl) (by kernel_rfl) ?_
 intro args σ K h
 unfold spTake1 at h
 split at h
 ·rename_i w t0 t rows a en dp
  obtain ⟨L, ts, rfl, ho, h1, h2⟩ := h
  refine ⟨loopsOf [], 2, false, by simp, Nat.le_of_ble_eq_true rfl, ?_⟩
  conv => whnf
  refine ⟨L, ts, rfl, ho, [w], rfl, by simp, fun hw ho2 => ?_, fun hw => ?_⟩
  ·conv => whnf
   exact h1 hw ho2
  ·conv => whnf
   exact h2 hw
 ·exact h.elim
theorem take1b_ok (ht : TblOK (GG w0 nG) tblTake1) : PCalls (GG w0 nG) 246 spTake1 := by
 refine pcalls tab_ok mixed (tbl := tblTake1) ht Tryz.func246 rfl (by kernel_rfl) (by kernel_rfl) ?_
 intro args σ K h
 unfold spTake1 at h
 split at h
 ·rename_i w t0 t rows a en dp
  obtain ⟨L, ts, rfl, ho, h1, h2⟩ := h
  refine ⟨loopsOf [], 2, false, by simp, Nat.le_of_ble_eq_true rfl, ?_⟩
  conv => whnf
  refine ⟨L, ts, rfl, ho, [w], rfl, by simp, fun hw ho2 => ?_, fun hw => ?_⟩
  ·conv => whnf
   exact h1 hw ho2
  ·conv => whnf
   exact h2 hw
 ·exact h.elim
noncomputable def spIdx : Spec := fun args σ K => match args, σ with
 | [.asl 0 0 n, .func g [] [.ptr 1 0]], ⟨[.cells tA cs, .cells t0 [.ptr 2 0], .cells t [.d (.sl rows), .d (.int .i64 a), .d (.int .i64 en), .d (.int .i64 dp)]], [], 0⟩ => ∃ L ts ws, rows = toksR L ∧ ROK L a ts ∧
   ((ws = relWords ∧ g = 245) ∨ (ws = aggWords ∧ g = 246)) ∧ n = ws.length ∧ cs = ws.map (fun w => PV.d (.str w)) ∧
   (∀ k : Nat, idxW ts 0 ws = some k → ROK L (a + 1) ts.tail → K (.ret (.d (.int .i64 k))) ⟨[.cells tA cs, .cells t0 [.ptr 2 0], .cells t [.d (.sl (toksR L)), .d (.int .i64 (a + 1)), .d (.int .i64 en), .d (.int .i64 dp)]], [], 0⟩) ∧
   (idxW ts 0 ws = none → K (.ret (.d (.int .i64 (-1)))) ⟨[.cells tA cs, .cells t0 [.ptr 2 0], .cells t [.d (.sl (toksR L)), .d (.int .i64 a), .d (.int .i64 en), .d (.int .i64 dp)]], [], 0⟩)
 | _, _ => False
theorem spIdx_mono : SpecMono spIdx := fun args σ K K' hK h => by
 unfold spIdx at h ⊢
 split at h
 ·obtain ⟨L, ts, ws, h1, h2, h3, h4, h5, h6, h7⟩ := h
  exact ⟨L, ts, ws, h1, h2, h3, h4, h5, fun k g1 g2 => hK _ _ (h6 k g1 g2), fun g => hK _ _ (h7 g)⟩
 ·exact h.elim
noncomputable def tblIdx : Tbl := [(245, spTake1), (246, spTake1)]
theorem idx_ok (ht : TblOK (GG w0 nG) tblIdx) : PCalls (GG w0 nG) 244 spIdx := by
 refine pcallsN tab_ok mixed (tbl := tblIdx) ht Tryz.func244 rfl (by kernel_rfl) (by kernel_rfl) ?_
 intro args σ K h
 unfold spIdx at h
 split at h
 ·rename_i n g tA cs t0 t rows a en dp
  obtain ⟨L, ts, ws, rfl, ho, hws, rfl, rfl, h1, h2⟩ := h
  refine ⟨loopsOf [], unrOf [(2, 8)], tieOf [], 3, false, by simp, Nat.le_of_ble_eq_true rfl, ?_⟩
  rcases hws with ⟨rfl, rfl⟩ | ⟨rfl, rfl⟩
  ·conv => whnf
   refine ⟨by decide, by decide, ?_⟩
   conv => whnf
   refine ⟨L, ts, rfl, ho, fun hw0 ho2 => ?_, fun hw0 => ?_⟩
   ·conv => whnf
    exact h1 0 (by simp [idxW, relWords, *]) ho2
   conv => whnf
   refine Or.inl ⟨InR.i64 (by omega) (by omega), ?_⟩
   conv => whnf
   refine ⟨by decide, by decide, ?_⟩
   conv => whnf
   refine ⟨L, ts, rfl, ho, fun hw1 ho2 => ?_, fun hw1 => ?_⟩
   ·conv => whnf
    exact h1 1 (by simp [idxW, relWords, *]) ho2
   conv => whnf
   refine Or.inl ⟨InR.i64 (by omega) (by omega), ?_⟩
   conv => whnf
   refine ⟨by decide, by decide, ?_⟩
   conv => whnf
   refine ⟨L, ts, rfl, ho, fun hw2 ho2 => ?_, fun hw2 => ?_⟩
   ·conv => whnf
    exact h1 2 (by simp [idxW, relWords, *]) ho2
   conv => whnf
   refine Or.inl ⟨InR.i64 (by omega) (by omega), ?_⟩
   conv => whnf
   refine ⟨by decide, by decide, ?_⟩
   conv => whnf
   refine ⟨L, ts, rfl, ho, fun hw3 ho2 => ?_, fun hw3 => ?_⟩
   ·conv => whnf
    exact h1 3 (by simp [idxW, relWords, *]) ho2
   conv => whnf
   refine Or.inl ⟨InR.i64 (by omega) (by omega), ?_⟩
   conv => whnf
   refine ⟨by decide, by decide, ?_⟩
   conv => whnf
   refine ⟨L, ts, rfl, ho, fun hw4 ho2 => ?_, fun hw4 => ?_⟩
   ·conv => whnf
    exact h1 4 (by simp [idxW, relWords, *]) ho2
   conv => whnf
   refine Or.inl ⟨InR.i64 (by omega) (by omega), ?_⟩
   conv => whnf
   refine ⟨by decide, by decide, ?_⟩
   conv => whnf
   refine ⟨L, ts, rfl, ho, fun hw5 ho2 => ?_, fun hw5 => ?_⟩
   ·conv => whnf
    exact h1 5 (by simp [idxW, relWords, *]) ho2
   conv => whnf
   refine Or.inl ⟨InR.i64 (by omega) (by omega), ?_⟩
   conv => whnf
   exact h2 (by simp [idxW, relWords, *])
  ·conv => whnf
   refine ⟨by decide, by decide, ?_⟩
   conv => whnf
   refine ⟨L, ts, rfl, ho, fun hw0 ho2 => ?_, fun hw0 => ?_⟩
   ·conv => whnf
    exact h1 0 (by simp [idxW, aggWords, *]) ho2
   conv => whnf
   refine Or.inl ⟨InR.i64 (by omega) (by omega), ?_⟩
   conv => whnf
   refine ⟨by decide, by decide, ?_⟩
   conv => whnf
   refine ⟨L, ts, rfl, ho, fun hw1 ho2 => ?_, fun hw1 => ?_⟩
   ·conv => whnf
    exact h1 1 (by simp [idxW, aggWords, *]) ho2
   conv => whnf
   refine Or.inl ⟨InR.i64 (by omega) (by omega), ?_⟩
   conv => whnf
   refine ⟨by decide, by decide, ?_⟩
   conv => whnf
   refine ⟨L, ts, rfl, ho, fun hw2 ho2 => ?_, fun hw2 => ?_⟩
   ·conv => whnf
    exact h1 2 (by simp [idxW, aggWords, *]) ho2
   conv => whnf
   refine Or.inl ⟨InR.i64 (by omega) (by omega), ?_⟩
   conv => whnf
   refine ⟨by decide, by decide, ?_⟩
   conv => whnf
   refine ⟨L, ts, rfl, ho, fun hw3 ho2 => ?_, fun hw3 => ?_⟩
   ·conv => whnf
    exact h1 3 (by simp [idxW, aggWords, *]) ho2
   conv => whnf
   refine Or.inl ⟨InR.i64 (by omega) (by omega), ?_⟩
   conv => whnf
   exact h2 (by simp [idxW, aggWords, *])
 ·exact h.elim
end Go.PM.Lex
end

section
set_option maxRecDepth 100000
set_option maxHeartbeats 4000000
namespace Go.PM.Lex
open Go.Proofs
variable {w0 : World} {nG : Nat}
def signedB : Nat → Ts → R Ex
 | 0 => fun _ => .err 0 150
 | d + 1 => signedD d
theorem exprB_eq (d : Nat) : exprB d = fun ts => lineK (signedB d) 6 1 ts := by cases d <;> rfl
theorem signedD_eq (d : Nat) (ts : Ts) : signedD d ts = signedF d (signedB d) ts := by cases d <;> rfl
theorem startsF_ne {ts : Ts} (h : startsF ts = true) : ts ≠ [] := by rintro rfl; simp [startsF, hd] at h
noncomputable abbrev spExprB (d : Nat) : Spec := spRB (fun L en (v : Ex) => aggD (encE (placeOf L en) v)) (exprB d) 0 d
noncomputable abbrev spSignedB (d : Nat) : Spec := spRB (fun L en (v : Ex) => aggD (encE (placeOf L en) v)) (signedB d) 0 d
noncomputable abbrev spExpr (d : Nat) : Spec := spRD (fun L en (v : Ex) => aggD (encE (placeOf L en) v)) (exprD d) 0 d
noncomputable abbrev spSigned (d : Nat) : Spec := spRD (fun L en (v : Ex) => aggD (encE (placeOf L en) v)) (signedD d) 0 d
noncomputable abbrev spPrimary (d : Nat) : Spec := spRD (fun L en (v : Ex) => aggD (encE (placeOf L en) v)) (primaryF d (exprB d)) 0 d
noncomputable def spArgs (d : Nat) : Spec := rdSp fun rest L en dp a ts K => match rest with
 | [.d (.str fr), .d (.str to)] => ((dp = 64 - (d : Int) ∧ 0 ≤ dp) ∧ to ≠ []) ∧ ∀ x, argsF d (exprB d) fr to ts = x → RKk (fun (l : List Ex) => .d (.sl (l.map (encE (placeOf L en))))) L en dp a x K
 | _ => False
theorem spArgs_mono (d : Nat) : SpecMono (spArgs d) := rdSp_mono fun rest L en dp a ts K K' hK h => by
 split at h
 ·exact ⟨h.1, fun x hx => RKk_mono hK (h.2 x hx)⟩
 ·exact h.elim
noncomputable def spCall (d : Nat) : Spec := rdSp fun rest L en dp a ts K => match rest with
 | [.agg [.d (.int .u8 op), .d (.str []), .d (.int .i64 n), .nils e, .d (.int .i64 at')]] => ((dp = 64 - (d : Int) ∧ 0 ≤ dp) ∧ n = 0 ∧ e = 49) ∧ ∃ o : Nat, op = (o : Int) ∧ ∀ x, withinF d [40] [41] (callGo (exprB d) (arity o) []) ts = x →
   RKk (fun (l : List Ex) => .agg [.d (.int .u8 op), .d (.str []), .d (.int .i64 0), .d (.sl (l.map (encE (placeOf L en)))), .d (.int .i64 at')]) L en dp a x K
 | _ => False
theorem spCall_mono (d : Nat) : SpecMono (spCall d) := rdSp_mono fun rest L en dp a ts K K' hK h => by
 split at h
 ·obtain ⟨h0, o, h1, h2⟩ := h
  exact ⟨h0, o, h1, fun x hx => RKk_mono hK (h2 x hx)⟩
 ·exact h.elim
noncomputable def spManyExB (d : Nat) : Spec := fun args σ K => match args, σ with
 | [.ptr 0 0, .d (.str sg), .d (.int .i64 m), .func g1 [.ptr 0 0] [], .func g2 [.ptr 0 0] []], ⟨[.cells t [.d (.sl rows), .d (.int .i64 a), .d (.int .i64 en), .d (.int .i64 dp)]], [], 0⟩ =>
   (sg = [44] ∧ m = 12 ∧ g1 = 184 ∧ g2 = 47 ∧ 0 < d ∧ dp = 65 - (d : Int) ∧ 0 ≤ dp) ∧ ∃ L ts, rows = toksR L ∧ ROK L a ts ∧ ∀ x, manyF [44] 12 startsF (exprB d) ts = x →
    RKk (fun (l : List Ex) => .d (.sl (l.map (encE (placeOf L en))))) L en dp a x fun pe a' dp' => K pe ⟨[.cells t [.d (.sl (toksR L)), .d (.int .i64 a'), .d (.int .i64 en), .d (.int .i64 dp')]], [], 0⟩
 | _, _ => False
theorem spManyExB_mono (d : Nat) : SpecMono (spManyExB d) := fun args σ K K' hK h => by
 unfold spManyExB at h ⊢
 split at h
 ·obtain ⟨h0, L, ts, h1, h2, h3⟩ := h
  exact ⟨h0, L, ts, h1, h2, fun x hx => RKk_mono (fun _ _ _ hk => hK _ _ hk) (h3 x hx)⟩
 ·exact h.elim
noncomputable def tblArgs1 (d : Nat) : Tbl := [(86, spIs), (183, spManyExB d)]
noncomputable def tblArgsW (d : Nat) : Tbl := [(86, spIs), (93, spMust), (85, spFail), (182, spIn Tryz.f182 (tblArgs1 d))]
noncomputable def tblArgs (d : Nat) : Tbl := [(171, spIn Tryz.f171 (tblArgsW d))]
theorem args_ok {d : Nat} (ht : TblOK (GG w0 nG) (tblArgs d)) : PCalls (GG w0 nG) 103 (spArgs d) := by
 refine pcalls tab_ok mixed (tbl := tblArgs d) ht Tryz.func103 rfl (by kernel_rfl) (by kernel_rfl) ?_
 intro args σ K h
 unfold spArgs rdSp at h
 split at h
 ·rename_i rest t rows a en dp
  obtain ⟨L, ts, rfl, ho, h⟩ := h
  split at h
  ·rename_i fr to
   obtain ⟨⟨hdp, hto⟩, h⟩ := h
   have h0 := ho.lo
   have h1 := ho.hi
   have h2 := ho.big
   refine ⟨loopsOf [], 1, false, by simp, Nat.le_of_ble_eq_true rfl, ?_⟩
   have h := h _ rfl
   unfold argsF at h
   conv => whnf
   refine ⟨_, fun _ _ h => h, Nat.le_of_ble_eq_true rfl, ?_⟩
   conv => whnf
   refine ⟨L, ts, rfl, ho, [fr], rfl, by simp, fun b hw1 => ?_⟩
   cases b with
   | false =>
    rw [withinF, if_neg (by rw [hw1]; simp)] at h
    conv => whnf
    refine ⟨L, ts, rfl, ho, fun x hx => ?_⟩
    rw [mustF, if_neg (by rw [hw1]; simp)] at hx
    subst hx
    intro a9 d9
    conv => whnf
    exact h _ _
   | true =>
    rw [withinF, if_pos hw1] at h
    conv => whnf
    refine CondP.dec (fun hc => ?_) (fun hc => ?_)
    ·rw [if_pos (by omega)] at h
     conv => whnf
     refine ⟨L, ts, rfl, ho, ?_⟩
     conv => whnf
     exact h _ _
    ·rw [if_neg (by omega)] at h
     conv => whnf
     refine ⟨L, ts, rfl, ho, fun x hx => ?_⟩
     rw [mustF, if_pos hw1] at hx
     subst hx
     intro a1 hle1 ho1
     have hb1 := ho1.hi
     conv => whnf
     refine Or.inl ⟨InR.i64 (by omega) (by omega), ?_⟩
     conv => whnf
     refine ⟨_, fun _ _ h => h, Nat.le_of_ble_eq_true rfl, ?_⟩
     conv => whnf
     refine ⟨L, ts.tail, rfl, ho1, [to], rfl, by simp, fun b hw4 => ?_⟩
     have hgo : ∀ (x : R (List Ex)), (if isW ts.tail [to] = true then R.ok [] ts.tail else manyF [44] 12 startsF (exprB d) ts.tail) = x → True := fun _ _ => trivial
     cases b with
     | true =>
      rw [if_pos hw4, R.bind_ok] at h
      conv => whnf
      have ho2 := ho1
      refine CondP.ndec (fun _ => ?_) (fun g => absurd g hto)
      conv => whnf
      rw [if_neg hto] at h
      refine ⟨L, ts.tail, rfl, ho1, fun x hx3 => ?_⟩
      rcases x with ⟨v3, ts3⟩ | ⟨r3, e3⟩
      rotate_left
      ·rw [hx3, R.bind_err] at h; intro a9 d9; (conv => whnf); exact h _ _
      rw [hx3, R.bind_ok] at h
      intro a3 hle3 ho3
      have hb3 := ho3.hi
      conv => whnf
      refine Or.inl ⟨InR.i64 (by omega) (by omega), ?_⟩
      conv => whnf
      rw [Int.add_sub_cancel]
      exact h _ (by omega) ho3
     | false =>
      rw [if_neg (by rw [hw4]; simp)] at h
      conv => whnf
      refine ⟨⟨rfl, rfl, rfl, rfl, by omega, by omega, by omega⟩, L, ts.tail, rfl, ho1, fun x hx2 => ?_⟩
      rcases x with ⟨v2, ts2⟩ | ⟨r2, e2⟩
      rotate_left
      ·rw [hx2, R.bind_err] at h; intro a9 d9; (conv => whnf); exact h _ _
      rw [hx2, R.bind_ok] at h
      intro a2 hle2 ho2
      have hb2 := ho2.hi
      conv => whnf
      refine CondP.ndec (fun _ => ?_) (fun g => absurd g hto)
      conv => whnf
      rw [if_neg hto] at h
      refine ⟨L, ts2, rfl, ho2, fun x hx3 => ?_⟩
      rcases x with ⟨v3, ts3⟩ | ⟨r3, e3⟩
      rotate_left
      ·rw [hx3, R.bind_err] at h; intro a9 d9; (conv => whnf); exact h _ _
      rw [hx3, R.bind_ok] at h
      intro a3 hle3 ho3
      have hb3 := ho3.hi
      conv => whnf
      refine Or.inl ⟨InR.i64 (by omega) (by omega), ?_⟩
      conv => whnf
      rw [Int.add_sub_cancel]
      exact h _ (by omega) ho3
  ·exact h.elim
 ·exact h.elim
end Go.PM.Lex
end
