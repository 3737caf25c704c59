/- A part of the proof: plain logic, contracts and laws over the given program. -/
import Derived.Test.YtodfhajjdfbhgaaDoorQW1
import Derived.Test.YtodfhajjdfbhgaaDoorQPk
set_option linter.unusedVariables false
set_option linter.unusedSimpArgs false
set_option linter.all false
set_option maxRecDepth 100000
namespace Go.PM.Lex
open Go.Proofs
variable {w0 : World} {nG : Nat}
theorem cut_end {s : Bs} {n : Nat} : cut s n s.length = s.drop n := by simp [cut]
noncomputable def tblPeek : Tbl := [(44, spRuneLen), (26, spHasPrefix)]
theorem peek_ok (ht : TblOK (GG w0 nG) tblPeek) : PCalls (GG w0 nG) 29 spPeek := by
  refine pcalls tab_ok mixed ht Tryd.func29 rfl (by kernel_rfl) (by kernel_rfl) ?_
  intro args σ K h
  unfold spPeek at h
  split at h
  · rename_i at' t s a
    obtain ⟨⟨h0, hs⟩, h⟩ := h
    refine ⟨loopsOf [(2, ⟨[], [0, 1, 21], fun vs σ => vs = [] ∧ σ = ⟨[.cells t [.d (.str s), .d (.int .i64 a)], .iter (s.drop at'.toNat) 0], [], 0⟩, fun _ _ => 0⟩)], 1, false, by simp, Nat.le_of_ble_eq_true rfl, ?_⟩
    have hcut : cut s (min at' (s.length : Int)).toNat s.length = s.drop at'.toNat := by
      rw [cut_end]
      by_cases hl : at' ≤ s.length
      · rw [Int.min_eq_left hl]
      · rw [Int.min_eq_right (by omega), List.drop_eq_nil_of_le (by omega), List.drop_eq_nil_of_le (by omega)]
    conv => whnf
    refine ⟨by omega, ?_⟩
    conv => whnf
    refine ⟨by omega, ?_⟩
    conv => whnf
    refine ⟨⟨rfl, ?_⟩, ?_⟩
    · rw [hcut]; rfl
    intro vs σ1 hI
    obtain ⟨rfl, rfl⟩ := hI
    refine CondP.dec (fun h1 => ?_) (fun h1 => ?_)
    · conv => whnf
      refine CondP.ndec (fun h2 => ?_) (fun h2 => ?_)
      · conv => whnf
        rw [dec_eq] at h2
        have hl : 0 < (s.drop at'.toNat).length := by simpa using h1
        rw [List.drop_zero] at h2
        have hne : ¬ (Lib.decodeL (s.drop at'.toNat)).1 = 65533 := by omega
        rw [pk_plain _ hl hne] at h
        rw [dec_eq, List.drop_zero]
        have hr := Lib.runeLen_decode _ hne
        rw [hr]
        exact h
      · conv => whnf
        rw [dec_eq] at h2
        have hl : 0 < (s.drop at'.toNat).length := by simpa using h1
        have hd : (Lib.decodeL (s.drop at'.toNat)).1 = 65533 := by rw [List.drop_zero] at h2; omega
        refine ⟨h0, by simp at hl; omega, ?_⟩
        conv => whnf
        refine CondP.intro (fun h3 => ?_) (fun h3 => ?_)
        · conv => whnf
          rw [cut_end] at h3
          rw [pk_fffd _ hl h3 hd] at h
          rw [dec_eq, List.drop_zero, hd]
          exact h
        · conv => whnf
          rw [cut_end] at h3
          rw [pk_bad _ (by rw [h3]; simp) hd] at h
          exact h
    · conv => whnf
      have : s.drop at'.toNat = [] := by simp at h1; exact List.drop_eq_nil_of_le (by omega)
      rw [this, pk_nil] at h
      exact h
  · exact h.elim
end Go.PM.Lex
