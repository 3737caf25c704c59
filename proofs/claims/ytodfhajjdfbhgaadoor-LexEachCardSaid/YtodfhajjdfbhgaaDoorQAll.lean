/- A part of the proof: plain logic, contracts and laws over the given program. -/
import Derived.Test.YtodfhajjdfbhgaaDoorQPU
import Derived.Test.YtodfhajjdfbhgaaDoorQAR2
import Derived.Test.YtodfhajjdfbhgaaDoorQIR
import Derived.Test.YtodfhajjdfbhgaaDoorQW10
set_option linter.unusedVariables false
set_option linter.unusedSimpArgs false
set_option linter.all false
set_option maxRecDepth 100000
set_option maxHeartbeats 8000000
namespace Go.PM.Lex
open Go.Proofs
variable {w0 : World} {nG : Nat}
noncomputable def tblSPU : Tbl := [(60, spPU), (61, spToError)]
theorem parseUint_ok (hg : GlobOK w0 nG) : PCalls (GG w0 nG) 49 spParseUint := by
  refine pcalls tab_ok mixed (tbl := tblSPU) ⟨⟨pu_ok, spPU_mono⟩, ⟨toError_ok hg, spToError_mono⟩, trivial⟩ Tryd.func49 rfl (by kernel_rfl) (by kernel_rfl) ?_
  intro args σ K h
  unfold spParseUint at h
  split at h
  · rename_i l base bits
    obtain ⟨hex, ⟨hl, rfl, rfl⟩, hbad, hgood⟩ := h
    refine ⟨loopsOf [], 0, false, by simp, Nat.le_of_ble_eq_true rfl, ?_⟩
    conv => whnf
    refine ⟨hex, ⟨hl, rfl, rfl⟩, fun h0 => ?_, fun h0 h1 => ?_, fun h0 h1 => ?_⟩
    · conv => whnf
      refine ⟨⟨.inr rfl, hl.2⟩, ?_⟩
      conv => whnf
      exact hbad (.inl h0) _
    · conv => whnf
      refine ⟨⟨.inl rfl, hl.2⟩, ?_⟩
      conv => whnf
      exact hbad (.inr h1) _
    · conv => whnf
      exact hgood (by simp only [not_or]; exact ⟨h0, h1⟩)
  · exact h.elim
end Go.PM.Lex
