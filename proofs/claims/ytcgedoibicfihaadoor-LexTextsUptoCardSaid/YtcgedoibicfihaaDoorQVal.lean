/- A part of the proof: plain logic, contracts and laws over the given program. -/
import Derived.Test.YtcgedoibicfihaaDoorQLib
import Derived.Test.YtcgedoibicfihaaDoorValid
import Derived.Shelf.Unicode.ValidAny
import Derived.Lib.MapLaws
set_option linter.unusedVariables false
set_option linter.unusedSimpArgs false
set_option linter.all false
set_option maxRecDepth 100000
namespace Go.PM.Lex
open Go.Proofs
variable {w0 : World} {nG : Nat}
noncomputable def spValid : Spec := fun args σ K => match args with
  | [.d (.str s)] => s.length ≤ 9223372036854775807 ∧ K (.ret (.d (.bool (Lib.validD s)))) σ
  | _ => False
theorem spValid_mono : SpecMono spValid := fun args σ K K' hK h => by
  unfold spValid at h ⊢; split at h <;> first | exact ⟨h.1, hK _ _ h.2⟩ | exact h.elim
theorem valid_ok (h1 : 1 < nG) (hT : Lib.Utf8Tabs 0 1 w0) : PCalls (GG w0 nG) 21 spValid := pcalls_lib (enters_of Tryd.func21 (by kernel_rfl) rfl) fun args σ K h e w vs hS ha => by
  unfold spValid at h
  split at h
  · rename_i s
    obtain ⟨u, rfl, hu⟩ := args1 ha
    cases hu.dstr
    have hT' : Lib.Utf8Tabs 0 1 w := by
      have g0 := hS.glob 0 (show 0 < nG by omega)
      have g1 := hS.glob 1 h1
      obtain ⟨a, b⟩ := hT
      refine ⟨fun c hc => ?_, fun i hi => ?_⟩
      · have := a c hc
        simpa [World.cell?, g0] using this
      · have := b i hi
        simpa [World.cell?, g1] using this
    exact ⟨_, h.2, _, fun _ _ => .mkbool, (Any.utf8_ValidString Tryd.laysValid ⟨s.toArray⟩ w (show s.toArray.size ≤ _ by simpa using h.1) hT').mono fun en w' ⟨h1, h2⟩ => ⟨h1, Grows.of_below h2⟩⟩
  · exact h.elim
end Go.PM.Lex
