/- A part of the proof: plain logic, contracts and laws over the given program. -/
import Derived.Test.YtodfhajjdfbhgaaDoorQW9
import Derived.KernelRfl
set_option linter.unusedVariables false
set_option linter.unusedSimpArgs false
set_option linter.all false
set_option maxRecDepth 100000
set_option maxHeartbeats 4000000
namespace Go.PM.Lex
open Go.Proofs
variable {w0 : World} {nG : Nat}
noncomputable def spTrue : Spec := fun args σ K => match args, σ with
  | [], ⟨[], [], 0⟩ => K (.ret (.d (.bool true))) ⟨[], [], 0⟩
  | _, _ => False
theorem spTrue_mono : SpecMono spTrue := fun args σ K K' hK h => by
  unfold spTrue at h ⊢; split at h <;> first | exact hK _ _ h | exact h.elim
/-- "p(x) :- c.q(1)." -/
def wtext : Bs := [112, 40, 120, 41, 32, 58, 45, 32, 99, 46, 113, 40, 49, 41, 46]
theorem wtext_all : allF wtext 99 = ([⟨1, [112], 0, 0, 1⟩, ⟨4, [40], 0, 1, 2⟩, ⟨1, [120], 0, 2, 3⟩, ⟨4, [41], 0, 3, 4⟩, ⟨4, [58, 45], 0, 5, 7⟩, ⟨1, [99, 46, 113], 0, 8, 11⟩, ⟨4, [40], 0, 11, 12⟩, ⟨2, [], 1, 12, 13⟩, ⟨4, [41], 0, 13, 14⟩, ⟨4, [46], 0, 14, 15⟩], (0, 0)) := by kernel_rfl
noncomputable def tblWorks : Tbl := [(7, spTokens)]
theorem works_ok (ht : TblOK (GG w0 nG) tblWorks) : PCalls (GG w0 nG) 4 spTrue := by
  refine pcalls tab_ok mixed ht Tryd.func4 rfl (by kernel_rfl) (by kernel_rfl) ?_
  intro args σ K h
  unfold spTrue at h
  split at h
  · refine ⟨loopsOf [], 0, false, by simp, Nat.le_of_ble_eq_true rfl, ?_⟩
    conv => whnf
    refine ⟨by simp, ?_⟩
    have e : allF ({ data := #[112, 40, 120, 41, 32, 58, 45, 32, 99, 46, 113, 40, 49, 41, 46] } : ByteArray).data.toList 99 = _ := wtext_all
    rw [e]
    conv => whnf
    refine ⟨_, by decide, rfl, ?_⟩
    conv => whnf
    refine ⟨_, by decide, rfl, ?_⟩
    conv => whnf
    refine ⟨_, by decide, rfl, ?_⟩
    conv => whnf
    exact h
  · exact h.elim
end Go.PM.Lex
