/- A part of the proof: plain logic, contracts and laws over the given program. -/
import Derived.Test.YtodfhajjdfbhgaaDoorQSp
set_option linter.unusedVariables false
set_option linter.unusedSimpArgs false
set_option linter.all false
namespace Go.PM.Lex
theorem pre3 (r : Bs) : Lib.hasPrefix r [239, 191, 189] = true ↔ 2 < r.length ∧ (r.getD 0 0).toNat = 239 ∧ (r.getD 1 0).toNat = 191 ∧ (r.getD 2 0).toNat = 189 := by
  unfold Lib.hasPrefix
  match r with
  | [] => simp
  | [a] => simp [List.isPrefixOf]
  | [a, b] => simp [List.isPrefixOf]
  | a :: b :: c :: l =>
    have ha := UInt8.toNat_inj (a := 239) (b := a)
    have hb := UInt8.toNat_inj (a := 191) (b := b)
    have hc := UInt8.toNat_inj (a := 189) (b := c)
    simp only [List.isPrefixOf, Bool.and_true, Bool.and_eq_true, beq_iff_eq, List.length_cons, List.getD_cons_zero, List.getD_cons_succ]
    rw [← ha, ← hb, ← hc]
    have e1 : (239 : UInt8).toNat = 239 := rfl
    have e2 : (191 : UInt8).toNat = 191 := rfl
    have e3 : (189 : UInt8).toNat = 189 := rfl
    rw [e1, e2, e3]
    omega
/-- U+FFFD in front: written out, or in place of a spoilt byte. -/
theorem fffd (r : Bs) (hv : (Lib.decodeL r).1 = 65533) : (Lib.hasPrefix r [239, 191, 189] = true ∧ (Lib.decodeL r).2 = 3) ∨ (¬ Lib.hasPrefix r [239, 191, 189] = true ∧ (Lib.decodeL r).2 = 1) := by
  rw [pre3]
  rw [Lib.decodeL_N] at hv ⊢
  have k0 := (r.getD 0 0).toNat_lt
  have k1 := (r.getD 1 0).toNat_lt
  have k2 := (r.getD 2 0).toNat_lt
  have k3 := (r.getD 3 0).toNat_lt
  by_cases hp : 2 < r.length ∧ (r.getD 0 0).toNat = 239 ∧ (r.getD 1 0).toNat = 191 ∧ (r.getD 2 0).toNat = 189
  · left
    refine ⟨hp, ?_⟩
    obtain ⟨p0, p1, p2, p3⟩ := hp
    rw [p1, p2, p3]
    unfold Lib.decodeN
    have hl : 1 < r.length := by omega
    simp [p0, hl]
  · right
    refine ⟨hp, ?_⟩
    rcases Lib.decodeN_shape r.length (r.getD 0 0).toNat (r.getD 1 0).toNat (r.getD 2 0).toNat (r.getD 3 0).toNat with ⟨c, e⟩ | ⟨c1, c2, c3, cv, e⟩ | ⟨c1, c2, c3, c4, cv, cs, e⟩ | ⟨c1, c2, c3, c4, c5, cv, cw, e⟩ | e
    all_goals (rw [e] at hv)
    all_goals (dsimp only at hv)
    · omega
    · omega
    · exact absurd ⟨c2, by omega, by omega, by omega⟩ hp
    · omega
    · rw [e]
theorem pk_nil : pk [] = (-1, 1) := by simp [pk]
theorem pk_plain (r : Bs) (h0 : 0 < r.length) (hv : ¬ (Lib.decodeL r).1 = 65533) : pk r = (((Lib.decodeL r).1 : Int), (Lib.decodeL r).2) := by
  have hne : r ≠ [] := fun h => by subst h; simp at h0
  have : Lib.decodeL r ≠ (65533, 1) := fun h => hv (by rw [h])
  simp [pk, hne, this]
theorem pk_fffd (r : Bs) (h0 : 0 < r.length) (hp : Lib.hasPrefix r [239, 191, 189] = true) (hv : (Lib.decodeL r).1 = 65533) : pk r = (65533, 3) := by
  have hne : r ≠ [] := fun h => by subst h; simp at h0
  rcases fffd r hv with ⟨_, h2⟩ | ⟨h1, _⟩
  · have : Lib.decodeL r ≠ (65533, 1) := fun h => by rw [h] at h2; simp at h2
    simp [pk, hne, this, hv, h2]
  · exact absurd hp h1
theorem pk_bad (r : Bs) (hp : ¬ Lib.hasPrefix r [239, 191, 189] = true) (hv : (Lib.decodeL r).1 = 65533) : pk r = (-1, 1) := by
  rcases fffd r hv with ⟨h1, h2⟩ | ⟨_, h2⟩
  · exact absurd h1 hp
  · have : Lib.decodeL r = (65533, 1) := Prod.ext hv h2
    simp [pk, this]
theorem pk_len (r : Bs) : 1 ≤ (pk r).2 ∧ (pk r).2 ≤ 4 := by
  unfold pk
  split
  · simp
  · rename_i h
    simp only [not_or] at h
    simp only
    rw [Lib.decodeL_N]
    rcases Lib.decodeN_shape r.length (r.getD 0 0).toNat (r.getD 1 0).toNat (r.getD 2 0).toNat (r.getD 3 0).toNat with ⟨c, e⟩ | ⟨c1, c2, c3, cv, e⟩ | ⟨c1, c2, c3, c4, cv, cs, e⟩ | ⟨c1, c2, c3, c4, c5, cv, cw, e⟩ | e
    all_goals (rw [e]; simp)
theorem pk_rng (r : Bs) : -1 ≤ (pk r).1 ∧ (pk r).1 ≤ 1114111 := by
  unfold pk
  split
  · simp
  · simp only
    rw [Lib.decodeL_N]
    have k0 := (r.getD 0 0).toNat_lt
    rcases Lib.decodeN_shape r.length (r.getD 0 0).toNat (r.getD 1 0).toNat (r.getD 2 0).toNat (r.getD 3 0).toNat with ⟨c, e⟩ | ⟨c1, c2, c3, cv, e⟩ | ⟨c1, c2, c3, c4, cv, cs, e⟩ | ⟨c1, c2, c3, c4, c5, cv, cw, e⟩ | e
    all_goals (rw [e]; dsimp only; omega)
/-- Where there's a rune, it fits. -/
theorem pk_le (r : Bs) (h : (pk r).1 ≠ -1) : 1 ≤ (pk r).2 ∧ (pk r).2 ≤ r.length ∧ r ≠ [] := by
  have hl := pk_len r
  unfold pk at h hl ⊢
  split at h
  · exact absurd rfl h
  · rename_i h1
    simp only [not_or] at h1
    rw [if_neg (by simp only [not_or]; exact h1)] at hl ⊢
    exact ⟨hl.1, Lib.decodeL_le r h1.1, h1.1⟩
end Go.PM.Lex
