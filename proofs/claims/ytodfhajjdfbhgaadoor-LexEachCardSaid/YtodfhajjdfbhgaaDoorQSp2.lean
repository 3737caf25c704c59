/- A part of the proof: plain logic, contracts and laws over the given program. -/
import Derived.Test.YtodfhajjdfbhgaaDoorQSp
set_option linter.unusedVariables false
set_option linter.unusedSimpArgs false
set_option linter.all false
noncomputable section
namespace Go.PM.Lex
open Go.Proofs
/-- A slice of bytes, as rows. -/
def bytesR (l : Bs) : List (List D) := l.map fun b => [.int .u8 b.toNat]
/-- strconv.ParseUint of digits alone. -/
def spParseUint : Spec := fun args σ K => match args, σ with
  | [.d (.str l), .d (.int .i64 base), .d (.int .i64 bits)], ⟨[], [], 0⟩ => ∃ hex : Bool, ((l.all (digB hex) = true ∧ l.length < 4294967281) ∧ base = (if hex then 16 else 10) ∧ bits = (if hex then 64 else 63)) ∧
      ((l = [] ∨ (if hex then 18446744073709551616 else 9223372036854775808) ≤ numV (if hex then 16 else 10) l) → ∀ n, K (.ret (.tuple [.d (.int .u64 n), .iface 107 .undef])) ⟨[], [], 0⟩) ∧
      (¬ (l = [] ∨ (if hex then 18446744073709551616 else 9223372036854775808) ≤ numV (if hex then 16 else 10) l) → K (.ret (.tuple [.d (.int .u64 (numV (if hex then 16 else 10) l)), .d .nili])) ⟨[], [], 0⟩)
  | _, _ => False
theorem spParseUint_mono : SpecMono spParseUint := fun args σ K K' hK h => by
  unfold spParseUint at h ⊢
  split at h
  · obtain ⟨x, h1, h2, h3⟩ := h; exact ⟨x, h1, fun g n => hK _ _ (h2 g n), fun g => hK _ _ (h3 g)⟩
  · exact h.elim
def spWriteByte : Spec := fun args σ K => match args, σ with
  | [.ptr 0 0, .d (.int .u8 c)], ⟨[.cells t [p, .sl 0 e rows]], [0], 1⟩ => ((p = .d .nilp ∨ p = .ptr 0 0) ∧ t = 82 ∧ e = 5 ∧ (∀ r ∈ rows, r.length = 1) ∧ rows.length < 70368744177664) ∧
      K (.ret (.d .nili)) ⟨[.cells t [.ptr 0 0, .sl 0 e (rows ++ [[.int .u8 c]])]], [0], 1⟩
  | _, _ => False
theorem spWriteByte_mono : SpecMono spWriteByte := fun args σ K K' hK h => by
  unfold spWriteByte at h ⊢; split at h <;> first | exact ⟨h.1, hK _ _ h.2⟩ | exact h.elim
def spWriteRune : Spec := fun args σ K => match args, σ with
  | [.ptr 0 0, .d (.int .i32 c)], ⟨[.cells t [p, .sl 0 e rows]], [0], 1⟩ => ((p = .d .nilp ∨ p = .ptr 0 0) ∧ t = 82 ∧ e = 5 ∧ (∀ r ∈ rows, r.length = 1) ∧ rows.length < 70368744177664 ∧ 0 ≤ c ∧ c ≤ 1114111) ∧
      K (.ret (.tuple [.d (.int .i64 (((rows ++ bytesR (Lib.encodeRune c)).length : Int) - (rows.length : Int))), .d .nili])) ⟨[.cells t [.ptr 0 0, .sl 0 e (rows ++ bytesR (Lib.encodeRune c))]], [0], 1⟩
  | _, _ => False
theorem spWriteRune_mono : SpecMono spWriteRune := fun args σ K K' hK h => by
  unfold spWriteRune at h ⊢; split at h <;> first | exact ⟨h.1, hK _ _ h.2⟩ | exact h.elim
def spString : Spec := fun args σ K => match args, σ with
  | [.ptr 0 0], ⟨[.cells t [p, .sl 0 e rows]], [0], 1⟩ => ∃ l : Bs, (rows = bytesR l ∧ t = 82 ∧ e = 5 ∧ (p = .d .nilp ∨ p = .ptr 0 0) ∧ l.length < 70368744177664) ∧ K (.ret (.d (.str l))) ⟨[.cells t [p, .d (.sl rows)]], [], 0⟩
  | _, _ => False
theorem spString_mono : SpecMono spString := fun args σ K K' hK h => by
  unfold spString at h ⊢
  split at h
  · obtain ⟨x, h1, h2⟩ := h; exact ⟨x, h1, hK _ _ h2⟩
  · exact h.elim
/-- strings.IndexRune in four ASCII bytes. -/
def idxR (s : Bs) (c : Int) : Int := if c < 128 then Lib.indexByte s c.toNat.toUInt8 else -1
def spIndexRune : Spec := fun args σ K => match args, σ with
  | [.d (.str s), .d (.int .i32 c)], ⟨[], [], 0⟩ => ((s = [110, 116, 34, 92] ∨ s = [10, 9, 34, 92]) ∧ 0 ≤ c ∧ c ≤ 1114111) ∧ K (.ret (.d (.int .i64 (idxR s c)))) ⟨[], [], 0⟩
  | _, _ => False
theorem spIndexRune_mono : SpecMono spIndexRune := fun args σ K K' hK h => by
  unfold spIndexRune at h ⊢; split at h <;> first | exact ⟨h.1, hK _ _ h.2⟩ | exact h.elim
def spNumber : Spec := fun args σ K => match args, σ with
  | [.ptr 0 0], ⟨[.cells t [.d (.str s), .d (.int .i64 a)]], [], 0⟩ => (0 ≤ a ∧ a < s.length ∧ s.length < 4294967281) ∧
      K (.ret (nrPV (numberR a.toNat (s.drop a.toNat)))) ⟨[.cells t [.d (.str s), .d (.int .i64 a)]], [], 0⟩
  | _, _ => False
def spText : Spec := fun args σ K => match args, σ with
  | [.ptr 0 0], ⟨[.cells t [.d (.str s), .d (.int .i64 a)]], [], 0⟩ => (0 ≤ a ∧ a < s.length ∧ s.length < 4294967281) ∧
      K (.ret (nrPV (textR a.toNat (s.drop a.toNat)))) ⟨[.cells t [.d (.str s), .d (.int .i64 a)]], [], 0⟩
  | _, _ => False
def spNext : Spec := fun args σ K => match args, σ with
  | [.ptr 0 0, .d (.bool room)], ⟨[.cells t [.d (.str s), .d (.int .i64 a)]], [], 0⟩ => (0 ≤ a ∧ a < s.length ∧ s.length < 4294967281) ∧
      K (.ret (nrPV (nextF a.toNat (s.drop a.toNat) room))) ⟨[.cells t [.d (.str s), .d (.int .i64 a)]], [], 0⟩
  | _, _ => False
theorem spNumber_mono : SpecMono spNumber := fun args σ K K' hK h => by
  unfold spNumber at h ⊢; split at h <;> first | exact ⟨h.1, hK _ _ h.2⟩ | exact h.elim
theorem spText_mono : SpecMono spText := fun args σ K K' hK h => by
  unfold spText at h ⊢; split at h <;> first | exact ⟨h.1, hK _ _ h.2⟩ | exact h.elim
theorem spNext_mono : SpecMono spNext := fun args σ K K' hK h => by
  unfold spNext at h ⊢; split at h <;> first | exact ⟨h.1, hK _ _ h.2⟩ | exact h.elim
end Go.PM.Lex
