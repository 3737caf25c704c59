/- The plain lexer: what the walks show that the code computes. -/
import Derived.Lib.MapLaws
import Derived.Lib.Strings
import Derived.Lib.Bytealg
import Derived.Lib.Index
import Derived.Lib.SlTrimSet
set_option linter.unusedVariables false
set_option linter.unusedSimpArgs false
set_option linter.all false
namespace Go.PM.Lex
abbrev Bs := List UInt8
def isDigit (c : Int) : Bool := decide (48 ≤ c ∧ c ≤ 57)
def isLetter (c : Int) : Bool := decide (c = 95 ∨ 128 ≤ c ∨ (97 ≤ c ∧ c ≤ 122) ∨ (65 ≤ c ∧ c ≤ 90))
/-- The rune in front, and how many bytes it has; spoilt bytes, and the end, are -1. -/
def pk (r : Bs) : Int × Nat := if r = [] ∨ Lib.decodeL r = (65533, 1) then (-1, 1) else ((Lib.decodeL r).1, (Lib.decodeL r).2)
/-- How many bytes the name in front has. -/
def nameGo : Nat → Bs → Nat
  | 0, _ => 0
  | f + 1, r => if (pk r).1 = 46 then (if isLetter (pk (r.drop 1)).1 = true then (pk r).2 + nameGo f (r.drop (pk r).2) else 0)
      else if isLetter (pk r).1 = true ∨ isDigit (pk r).1 = true then (pk r).2 + nameGo f (r.drop (pk r).2) else 0
def nameF (r : Bs) : Nat := nameGo (r.length + 1) r
def isWs (b : UInt8) : Bool := ([32, 9, 13, 10] : Bs).contains b
/-- How many blank bytes stand in front; false: a remark without its end (and where it begins). -/
def blankGo : Nat → Bs → Bool × Nat
  | 0, _ => (false, 0)
  | f + 1, r =>
    let rest := Lib.trimLeftS r [32, 9, 13, 10]
    let k := r.length - rest.length
    if Lib.hasPrefix rest [47, 47] = true then
      let n := if Lib.indexByte rest 10 < 0 then rest.length else (Lib.indexByte rest 10).toNat
      let t := blankGo f (rest.drop n)
      (t.1, k + n + t.2)
    else if Lib.hasPrefix rest [47, 42] = true then
      if Lib.index (rest.drop 2) [42, 47] < 0 then (false, k) else
      let n := (Lib.index (rest.drop 2) [42, 47]).toNat + 4
      let t := blankGo f (rest.drop n)
      (t.1, k + n + t.2)
    else (true, k)
def blankF (r : Bs) : Bool × Nat := blankGo (r.length + 1) r
/-- Is a byte a digit (in hex)? -/
def digB (hex : Bool) (b : UInt8) : Bool := isDigit b.toNat || (hex && decide ((97 ≤ b.toNat ∧ b.toNat ≤ 102) ∨ (65 ≤ b.toNat ∧ b.toNat ≤ 70)))
def digV (b : UInt8) : Nat := if b.toNat ≤ 57 then b.toNat - 48 else if b.toNat ≤ 70 then b.toNat - 55 else b.toNat - 87
def numV (base : Nat) (l : Bs) : Nat := l.foldl (fun n b => n * base + digV b) 0
def isHex (r : Bs) : Bool := Lib.hasPrefix r [48, 120]
def numDigits (r : Bs) : Bs := (r.drop (if isHex r then 2 else 0)).takeWhile (digB (isHex r))
def numLen (r : Bs) : Nat := (if isHex r then 2 else 0) + (numDigits r).length
/-- The number in front: its value; none: ErrNumber. -/
def numberF (r : Bs) : Option Nat :=
  if numDigits r = [] then none
  else if (if isHex r then 18446744073709551616 else 9223372036854775808) ≤ numV (if isHex r then 16 else 10) (numDigits r) then none
  else if isLetter (pk (r.drop (numLen r))).1 = true ∨ isDigit (pk (r.drop (numLen r))).1 = true ∨ (isHex r = true ∧ 16 < (numDigits r).length) then none
  else some (numV (if isHex r then 16 else 10) (numDigits r))
/-- What an escaped rune stands for. -/
def escB (c : Nat) : Option UInt8 := if c = 110 then some 10 else if c = 116 then some 9 else if c = 34 then some 34 else if c = 92 then some 92 else none
inductive TR where
  | err (at' : Nat) | ok (txt : Bs) (len : Nat)
  deriving DecidableEq
/-- A string, behind its first sign: 'p' bytes stand ahead. -/
def textGo : Nat → Bs → Bool → Bs → Nat → TR
  | 0, _, _, _, _ => .err 0
  | f + 1, r, esc, acc, p =>
    if r = [] then .err 0
    else if esc = true then (match escB (Lib.decodeL r).1 with
      | none => .err (p - 1)
      | some b => textGo f (r.drop (Lib.decodeL r).2) false (acc ++ [b]) (p + (Lib.decodeL r).2))
    else if (Lib.decodeL r).1 = 34 then .ok acc (p + 1)
    else if (Lib.decodeL r).1 = 92 then textGo f (r.drop (Lib.decodeL r).2) true acc (p + (Lib.decodeL r).2)
    else if (pk r).1 < 32 then .err p
    else textGo f (r.drop (Lib.decodeL r).2) false (acc ++ Lib.encodeRune (Lib.decodeL r).1) (p + (Lib.decodeL r).2)
def textF (r : Bs) : TR := textGo (r.length + 1) (r.drop 1) false [] 1
def twos : List Bs := [[58, 45], [33, 61], [60, 61], [62, 61], [60, 58]]
def ones : Bs := [40, 41, 91, 93, 123, 125, 44, 46, 58, 33, 61, 60, 62, 43, 45, 42, 47, 37, 124, 36, 126]
def signF (r : Bs) : Nat := if twos.any (Lib.hasPrefix r) then 2 else if ones.contains (r.getD 0 0) then 1 else 0
structure Tok where
  kind : Nat
  text : Bs
  n : Int
  at' : Nat
  fin : Nat
  deriving DecidableEq
inductive NR where
  | bad (at' : Nat) (e : Nat) | tok (t : Tok)
  deriving DecidableEq
def numberR (a : Nat) (r : Bs) : NR := match numberF r with | none => .bad a 142 | some n => .tok ⟨2, [], IntKind.i64.wrap n, a, a + numLen r⟩
def textR (a : Nat) (r : Bs) : NR := match textF r with | .err p => .bad (a + p) 141 | .ok t l => .tok ⟨3, t, 0, a, a + l⟩
/-- The token in front: 'a' bytes stand ahead. -/
def nextF (a : Nat) (r : Bs) (room : Bool) : NR :=
  let c := (pk r).1
  let n := signF r
  if n = 0 ∧ c ≠ 34 ∧ isLetter c = false ∧ isDigit c = false then .bad a 140
  else if room = false then .bad a 3
  else if 0 < n then .tok ⟨4, r.take n, 0, a, a + n⟩
  else if c = 34 then textR a r
  else if isDigit c = true then numberR a r
  else .tok ⟨1, r.take (nameF r), 0, a, a + nameF r⟩
/-- The tokens as far as they go; and how it ends. -/
def allGo : Nat → Int → Nat → Bs → List Tok × (Nat × Nat)
  | 0, _, _, _ => ([], (0, 0))
  | f + 1, most, a, r =>
    if (blankF r).1 = false then ([], (a + (blankF r).2, 140))
    else
      let a := a + (blankF r).2
      let r := r.drop (blankF r).2
      if r = [] then ([], (0, 0))
      else match nextF a r (decide (0 < most)) with
        | .bad p e => ([], (p, e))
        | .tok t => let u := allGo f (most - 1) t.fin (r.drop (t.fin - a)); (t :: u.1, u.2)
def allF (s : Bs) (most : Int) : List Tok × (Nat × Nat) := allGo (s.length + 1) most 0 s
end Go.PM.Lex
