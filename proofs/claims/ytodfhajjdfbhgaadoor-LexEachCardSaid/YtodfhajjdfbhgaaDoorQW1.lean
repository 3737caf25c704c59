/- A part of the proof: plain logic, contracts and laws over the given program. -/
import Derived.Test.YtodfhajjdfbhgaaDoorQSp
set_option linter.unusedVariables false
set_option linter.unusedSimpArgs false
set_option linter.all false
set_option maxRecDepth 100000
namespace Go.PM.Lex
open Go.Proofs
variable {w0 : World} {nG : Nat}
theorem orB (n : Fin 128) : bitsOf .or .i32 (n.val : Int) 32 = ((n.val ||| 32 : Nat) : Int) := by rw [bitsOf_eq]; revert n; decide +kernel
theorem orM : bitsOf .or .i32 (-1) 32 = -1 := by rw [bitsOf_eq]; decide +kernel
theorem orL : ∀ n : Fin 128, (97 ≤ (n.val ||| 32) ∧ (n.val ||| 32) ≤ 122) ↔ ((97 ≤ n.val ∧ n.val ≤ 122) ∨ (65 ≤ n.val ∧ n.val ≤ 90)) := by decide +kernel
theorem or_letter {c : Int} (h0 : -1 ≤ c) (h1 : c < 128) : (97 ≤ bitsOf .or .i32 c 32 ∧ bitsOf .or .i32 c 32 ≤ 122) ↔ ((97 ≤ c ∧ c ≤ 122) ∨ (65 ≤ c ∧ c ≤ 90)) := by
  by_cases hc : c = -1
  · subst hc; rw [orM]; omega
  · obtain ⟨n, rfl⟩ : ∃ n : Nat, c = n := ⟨c.toNat, by omega⟩
    have hn : n < 128 := by omega
    have h2 := orB ⟨n, hn⟩
    have h3 := orL ⟨n, hn⟩
    simp only at h2 h3
    rw [h2]
    omega
theorem K_bool {K : PEnd → St → Prop} {b b' : Bool} {σ : St} (h : K (.ret (.d (.bool b))) σ) (h1 : b = b') : K (.ret (.d (.bool b'))) σ := by subst h1; exact h
theorem K_int {K : PEnd → St → Prop} {k : IntKind} {b b' : Int} {σ : St} (h : K (.ret (.d (.int k b))) σ) (h1 : b = b') : K (.ret (.d (.int k b'))) σ := by subst h1; exact h
theorem digit_ok : PCalls (GG w0 nG) 32 spDigit := by
  refine pcalls tab_ok mixed (tbl := []) trivial Tryd.func32 rfl (by kernel_rfl) (by kernel_rfl) ?_
  · intro args σ K h
    unfold spDigit at h
    split at h
    · rename_i c
      refine ⟨loopsOf [], 0, false, by decide, Nat.le_of_ble_eq_true rfl, ?_⟩
      refine CondP.dec (fun h1 => ?_) (fun h1 => ?_)
      · refine K_bool h ?_
        simp only [isDigit, decide_eq_decide]; omega
      · refine K_bool h ?_
        simp only [isDigit, decide_eq_false_iff_not]; omega
    · exact h.elim
theorem letter_ok : PCalls (GG w0 nG) 31 spLetter := by
  refine pcalls tab_ok mixed (tbl := []) trivial Tryd.func31 rfl (by kernel_rfl) (by kernel_rfl) ?_
  · intro args σ K h
    unfold spLetter at h
    split at h
    · rename_i c
      obtain ⟨⟨h0, _⟩, h⟩ := h
      refine ⟨loopsOf [], 0, false, by decide, Nat.le_of_ble_eq_true rfl, ?_⟩
      repeat' first | refine CondP.tt ?_ | refine CondP.ff ?_ | refine CondP.dec (fun h1 => ?_) (fun h1 => ?_)
      all_goals (try (have hl := or_letter (c := c) h0 (by omega)))
      all_goals (refine K_bool h ?_; simp only [isLetter, decide_eq_true_eq, decide_eq_false_iff_not, decide_eq_decide]; omega)
    · exact h.elim
end Go.PM.Lex
