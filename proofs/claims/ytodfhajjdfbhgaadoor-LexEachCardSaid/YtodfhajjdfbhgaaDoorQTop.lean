/- A part of the proof: plain logic, contracts and laws over the given program. -/
import Derived.Test.YtodfhajjdfbhgaaDoorQAll
set_option linter.unusedVariables false
set_option linter.unusedSimpArgs false
set_option linter.all false
namespace Go.PM.Lex
open Go.Proofs
variable {w0 : World} {nG : Nat}
theorem cPeek : PCalls (GG w0 nG) 29 spPeek := peek_ok ⟨⟨runeLen_ok, spRuneLen_mono⟩, ⟨hasPrefix_ok, spHasPrefix_mono⟩, trivial⟩
theorem cSign : PCalls (GG w0 nG) 30 spSign := sign_ok ⟨⟨hasPrefix_ok, spHasPrefix_mono⟩, ⟨indexByte_ok, spIndexByte_mono⟩, trivial⟩
theorem cName : PCalls (GG w0 nG) 35 spName := name_ok ⟨⟨cPeek, spPeek_mono⟩, ⟨letter_ok, spLetter_mono⟩, ⟨digit_ok, spDigit_mono⟩, trivial⟩
theorem cBlank (hg : GlobOK w0 nG) : PCalls (GG w0 nG) 20 spBlank := blank_ok ⟨⟨trimLeft_ok, spTrimLeft_mono⟩, ⟨hasPrefix_ok, spHasPrefix_mono⟩, ⟨indexByte_ok, spIndexByte_mono⟩, ⟨index_ok (by have := hg.big; omega) hg.maxLen, spIndex_mono⟩, trivial⟩
theorem cNumber (hg : GlobOK w0 nG) : PCalls (GG w0 nG) 34 spNumber := number_ok ⟨⟨hasPrefix_ok, spHasPrefix_mono⟩, ⟨digit_ok, spDigit_mono⟩, ⟨parseUint_ok hg, spParseUint_mono⟩, ⟨cPeek, spPeek_mono⟩, ⟨letter_ok, spLetter_mono⟩, trivial⟩
theorem validRune_ok : PCalls (GG w0 nG) 57 spValidRune := pcalls_lib (enters_of Tryd.func57 (by kernel_rfl) rfl) fun args σ K h e w vs hS ha => by
  unfold spValidRune at h
  split at h
  · obtain ⟨u, rfl, hu⟩ := args1 ha
    cases hu.dint
    exact ⟨_, h, _, fun _ _ => .mkbool, (Tryd.utf8_ValidRune _ w).mono fun en w' ⟨h1, h2⟩ => ⟨h1, by rw [h2]; exact Grows.refl _⟩⟩
  · exact h.elim
theorem cIndexRune : PCalls (GG w0 nG) 45 spIndexRune := indexRune_ok ⟨⟨indexByte_ok, spIndexByte_mono⟩, ⟨validRune_ok, spValidRune_mono⟩, trivial⟩
theorem cText : PCalls (GG w0 nG) 33 spText := text_ok ⟨⟨cIndexRune, spIndexRune_mono⟩, ⟨writeByte_ok, spWriteByte_mono⟩, ⟨cPeek, spPeek_mono⟩, ⟨writeRune_ok, spWriteRune_mono⟩, ⟨string_ok, spString_mono⟩, trivial⟩
theorem cNext (hg : GlobOK w0 nG) : PCalls (GG w0 nG) 21 spNext := next_ok ⟨⟨cPeek, spPeek_mono⟩, ⟨cSign, spSign_mono⟩, ⟨letter_ok, spLetter_mono⟩, ⟨digit_ok, spDigit_mono⟩, ⟨cText, spText_mono⟩, ⟨cNumber hg, spNumber_mono⟩, ⟨cName, spName_mono⟩, trivial⟩
theorem cAll1 (hg : GlobOK w0 nG) : TblOK (GG w0 nG) tblAll1 := ⟨⟨cBlank hg, spBlank_mono⟩, ⟨cNext hg, spNext_mono⟩, trivial⟩
theorem cTokens (hg : GlobOK w0 nG) : PCalls (GG w0 nG) 7 spTokens := tokens_ok (cAll1 hg) ⟨⟨all_ok, spAll_mono⟩, trivial⟩
theorem cWorks (hg : GlobOK w0 nG) : PCalls (GG w0 nG) 4 spTrue := works_ok ⟨⟨cTokens hg, spTokens_mono⟩, trivial⟩
end Go.PM.Lex
