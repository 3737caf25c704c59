/- A part of the proof: plain logic, contracts and laws over the given program. -/
import Derived.Test.YtodfhajjdfbhgaaDoorQTab
import Derived.Test.YtodfhajjdfbhgaaDoorQSpec
import Derived.Lib.Small
set_option linter.unusedVariables false
set_option linter.unusedSimpArgs false
set_option linter.all false
noncomputable section
namespace Go.PM.Lex
open Go.Proofs
abbrev GG (w0 : World) (nG : Nat) : GE := ⟨Tryd.prog, w0, nG⟩
theorem dec_eq (s : Bs) (pos : Nat) : decodeL s pos = Lib.decodeL (s.drop pos) := by
  have := Lib.decodeL_drop ⟨s.toArray⟩ pos
  simpa [decodeL] using this.symm
def spHasPrefix : Spec := fun args σ K => match args with
  | [.d (.str s), .d (.str p)] => K (.ret (.d (.bool (Lib.hasPrefix s p)))) σ
  | _ => False
def spIndexByte : Spec := fun args σ K => match args with
  | [.d (.str s), .d (.int .u8 c)] => K (.ret (.d (.int .i64 (Lib.indexByte s c.toNat.toUInt8)))) σ
  | _ => False
def spIndex : Spec := fun args σ K => match args with
  | [.d (.str s), .d (.str p)] => s.length < 4294967281 ∧ K (.ret (.d (.int .i64 (Lib.index s p)))) σ
  | _ => False
def spRuneLen : Spec := fun args σ K => match args with
  | [.d (.int .i32 c)] => K (.ret (.d (.int .i64 (Lib.runeLen c)))) σ
  | _ => False
def spTrimLeft : Spec := fun args σ K => match args with
  | [.d (.str s), .d (.str p)] => (p.length < 4294967281 ∧ ∀ (j : Nat) b, p[j]? = some b → b.toNat < 128) ∧ K (.ret (.d (.str (Lib.trimLeftS s p)))) σ
  | _ => False
theorem spHasPrefix_mono : SpecMono spHasPrefix := fun args σ K K' hK h => by
  unfold spHasPrefix at h ⊢; split at h <;> first | exact hK _ _ h | exact h.elim
theorem spIndexByte_mono : SpecMono spIndexByte := fun args σ K K' hK h => by
  unfold spIndexByte at h ⊢; split at h <;> first | exact hK _ _ h | exact h.elim
theorem spIndex_mono : SpecMono spIndex := fun args σ K K' hK h => by
  unfold spIndex at h ⊢; split at h <;> first | exact ⟨h.1, hK _ _ h.2⟩ | exact h.elim
theorem spRuneLen_mono : SpecMono spRuneLen := fun args σ K K' hK h => by
  unfold spRuneLen at h ⊢; split at h <;> first | exact hK _ _ h | exact h.elim
theorem spTrimLeft_mono : SpecMono spTrimLeft := fun args σ K K' hK h => by
  unfold spTrimLeft at h ⊢; split at h <;> first | exact ⟨h.1, hK _ _ h.2⟩ | exact h.elim
/-- The scanner's box. -/
abbrev scan (t : TypeId) (s : Bs) (a : Int) : Box := .cells t [.d (.str s), .d (.int .i64 a)]
abbrev tokPV (k : Int) (x : Bs) (n a f : Int) : PV := .agg [.d (.int .u8 k), .d (.str x), .d (.int .i64 n), .d (.int .i64 a), .d (.int .i64 f)]
abbrev fltPV (a e : Int) : PV := .agg [.d (.int .i64 a), .d (.int .i64 e)]
def NR.t : NR → Tok | .bad _ _ => ⟨0, [], 0, 0, 0⟩ | .tok t => t
def NR.p : NR → Nat | .bad p _ => p | .tok _ => 0
def NR.e : NR → Nat | .bad _ e => e | .tok _ => 0
abbrev nrPV (x : NR) : PV := .tuple [tokPV x.t.kind x.t.text x.t.n x.t.at' x.t.fin, fltPV x.p x.e]
def spLetter : Spec := fun args σ K => match args, σ with
  | [.d (.int .i32 c)], ⟨[], [], 0⟩ => (-1 ≤ c ∧ c < 2147483648) ∧ K (.ret (.d (.bool (isLetter c)))) ⟨[], [], 0⟩
  | _, _ => False
def spDigit : Spec := fun args σ K => match args, σ with
  | [.d (.int .i32 c)], ⟨[], [], 0⟩ => K (.ret (.d (.bool (isDigit c)))) ⟨[], [], 0⟩
  | _, _ => False
def spPeek : Spec := fun args σ K => match args, σ with
  | [.ptr 0 0, .d (.int .i64 at')], ⟨[.cells t [.d (.str s), .d (.int .i64 a)]], [], 0⟩ => (0 ≤ at' ∧ s.length < 4611686018427387904) ∧
      K (.ret (.tuple [.d (.int .i32 (pk (s.drop at'.toNat)).1), .d (.int .i64 (pk (s.drop at'.toNat)).2)])) ⟨[.cells t [.d (.str s), .d (.int .i64 a)]], [], 0⟩
  | _, _ => False
def spName : Spec := fun args σ K => match args, σ with
  | [.ptr 0 0], ⟨[.cells t [.d (.str s), .d (.int .i64 a)]], [], 0⟩ => (0 ≤ a ∧ a ≤ s.length ∧ s.length < 4294967281) ∧
      K (.ret (tokPV 1 ((s.drop a.toNat).take (nameF (s.drop a.toNat))) 0 a (a + nameF (s.drop a.toNat)))) ⟨[.cells t [.d (.str s), .d (.int .i64 a)]], [], 0⟩
  | _, _ => False
def spBlank : Spec := fun args σ K => match args, σ with
  | [.ptr 0 0], ⟨[.cells t [.d (.str s), .d (.int .i64 a)]], [], 0⟩ => (0 ≤ a ∧ a ≤ s.length ∧ s.length < 4294967281) ∧
      K (.ret (.d (.bool (blankF (s.drop a.toNat)).1))) ⟨[.cells t [.d (.str s), .d (.int .i64 (a + (blankF (s.drop a.toNat)).2))]], [], 0⟩
  | _, _ => False
def spSign : Spec := fun args σ K => match args, σ with
  | [.ptr 0 0], ⟨[.cells t [.d (.str s), .d (.int .i64 a)]], [], 0⟩ => (0 ≤ a ∧ a < s.length ∧ s.length < 4294967281) ∧
      K (.ret (.d (.int .i64 (signF (s.drop a.toNat))))) ⟨[.cells t [.d (.str s), .d (.int .i64 a)]], [], 0⟩
  | _, _ => False
theorem spLetter_mono : SpecMono spLetter := fun args σ K K' hK h => by
  unfold spLetter at h ⊢; split at h <;> first | exact ⟨h.1, hK _ _ h.2⟩ | exact h.elim
theorem spDigit_mono : SpecMono spDigit := fun args σ K K' hK h => by
  unfold spDigit at h ⊢; split at h <;> first | exact hK _ _ h | exact h.elim
theorem spPeek_mono : SpecMono spPeek := fun args σ K K' hK h => by
  unfold spPeek at h ⊢; split at h <;> first | exact ⟨h.1, hK _ _ h.2⟩ | exact h.elim
theorem spName_mono : SpecMono spName := fun args σ K K' hK h => by
  unfold spName at h ⊢; split at h <;> first | exact ⟨h.1, hK _ _ h.2⟩ | exact h.elim
theorem spBlank_mono : SpecMono spBlank := fun args σ K K' hK h => by
  unfold spBlank at h ⊢; split at h <;> first | exact ⟨h.1, hK _ _ h.2⟩ | exact h.elim
theorem spSign_mono : SpecMono spSign := fun args σ K K' hK h => by
  unfold spSign at h ⊢; split at h <;> first | exact ⟨h.1, hK _ _ h.2⟩ | exact h.elim
end Go.PM.Lex
