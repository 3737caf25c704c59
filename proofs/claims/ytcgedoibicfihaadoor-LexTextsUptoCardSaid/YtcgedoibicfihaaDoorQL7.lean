/- A part of the proof: plain logic, contracts and laws over the given program. -/
import Derived.Test.YtcgedoibicfihaaDoorQR3
import Derived.Test.YtcgedoibicfihaaDoorQTop
set_option linter.unusedVariables false
set_option linter.unusedSimpArgs false
set_option linter.all false
set_option maxRecDepth 100000
set_option maxHeartbeats 8000000
namespace Go.PM.Lex
open Go.Proofs
variable {w0 : World} {nG : Nat}
/-- A law of a text of bounded length. -/
noncomputable def spLaw1u : Spec := fun args σ K => match args, σ with
  | [.d (.str s)], ⟨[], [], 0⟩ => s.length ≤ 1048576 ∧ K (.ret (.d (.bool true))) ⟨[], [], 0⟩
  | _, _ => False
noncomputable def tblLaw7 : Tbl := [(8, spTrue), (12, spQuote), (13, spQuote), (14, spNameB), (15, spNameB)]
theorem cLaw7 (hg : GlobOK w0 nG) (hT : Lib.Utf8Tabs 0 1 w0) : TblOK (GG w0 nG) tblLaw7 :=
  ⟨⟨cWorks hg, spTrue_mono⟩, ⟨quote_ok ⟨⟨valid_ok (by have := hg.big; omega) hT, spValid_mono⟩, ⟨writeByte_ok, spWriteByte_mono⟩, ⟨cIndexRune, spIndexRune_mono⟩, ⟨writeRune_ok, spWriteRune_mono⟩, ⟨string_ok, spString_mono⟩, trivial⟩, spQuote_mono⟩,
    ⟨quoR_ok, spQuote_mono⟩, ⟨nm_ok ⟨⟨cPeek, spPeek_mono⟩, ⟨letter_ok, spLetter_mono⟩, ⟨cName, spName_mono⟩, trivial⟩, spNameB_mono⟩, ⟨nmR_ok, spNameB_mono⟩, trivial⟩
theorem texts_law_ok (ht : TblOK (GG w0 nG) tblLaw7) : PCalls (GG w0 nG) 7 spLaw1u := by
  refine pcalls tab_ok mixed ht Tryd.func7 rfl (by kernel_rfl) (by kernel_rfl) ?_
  intro args σ K h
  unfold spLaw1u at h
  split at h
  · rename_i s
    obtain ⟨hs, h⟩ := h
    refine ⟨loopsOf [], 0, false, by simp, Nat.le_of_ble_eq_true rfl, ?_⟩
    conv => whnf
    refine ⟨by omega, fun h1 => ?_, fun q hq => ?_⟩
    · have h1' : quoteF s = none := h1
      conv => whnf
      refine ⟨by omega, fun h2 => ?_, fun q hq => ?_⟩
      · conv => whnf
        refine ⟨by omega, ?_⟩
        conv => whnf
        refine ⟨by omega, ?_⟩
        conv => whnf
        refine CondP.dec (fun h3 => ?_) (fun h3 => absurd rfl h3)
        conv => whnf
        exact h
      · have : quoteF s = some q := hq
        rw [h1'] at this; cases this
    · have hq' : quoteF s = some q := hq
      conv => whnf
      refine ⟨by omega, fun h2 => ?_, fun q2 hq2 => ?_⟩
      · have : quoteF s = none := h2
        rw [hq'] at this; cases this
      · have e : quoteF s = some q2 := hq2
        rw [hq'] at e
        cases e
        conv => whnf
        refine ⟨by omega, ?_⟩
        conv => whnf
        refine ⟨by omega, ?_⟩
        conv => whnf
        refine CondP.dec (fun h3 => ?_) (fun h3 => absurd rfl h3)
        conv => whnf
        refine CondP.dec (fun h3 => ?_) (fun h3 => absurd rfl h3)
        conv => whnf
        exact h
  · exact h.elim
end Go.PM.Lex
